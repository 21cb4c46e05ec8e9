/- Rows that are made, and rows that nobody owns any more, for the small calculus. Nothing here speaks of a particular program. -/
import Derived.Test.YtmohcfjopaccdaaGreatDoorVe
import Derived.Laws.OwnMore
namespace Go.VL

/-- A slice whose block has no owner: nothing turns it. -/
def Free (O : Nat → Nat) (w : World) (v : Value) : Prop := ∀ a n c, v = .slice (some a) n c → n ≠ 0 → O a.block = 0 ∧ a.block < w.heap.size
theorem Free.upd {S : Nat → Prop} {O O' : Nat → Nat} {w w' : World} {v : Value} (h : Free O w v) (u : Upd S O w O' w') : Free O' w' v := fun a n c e hn => by
  obtain ⟨h1, h2⟩ := h a n c e hn
  refine ⟨Classical.byContradiction fun hne => ?_, Nat.lt_of_lt_of_le h2 u.size⟩
  rcases u.new _ hne with h3 | h3
  · exact h3 h1
  · omega
theorem cell_same {w w' : World} {a : Addr} {u : Value} (hb : w'.heap[a.block]? = w.heap[a.block]?) (h : w.cell? a = some u) : w'.cell? a = some u := by
  simpa only [World.cell?, hb] using h
theorem Sl.upd {α : Type} {enc : α → List Value} {sz : Nat} {S : Nat → Prop} {O O' : Nat → Nat} {w w' : World} {v : Value} {xs : List α} (h : Sl enc sz w v xs) (f : Free O w v) (u : Upd S O w O' w') : Sl enc sz w' v xs := by
  refine ⟨h.shape, fun i hi j x hx => ?_⟩
  have hc := h.cells i hi j x hx
  obtain ⟨a, c, e, _, _, ha⟩ := h.shape
  obtain ⟨b, o, rfl⟩ := ha (by omega)
  obtain ⟨h1, h2⟩ := f _ _ _ e (by omega)
  refine cell_same ?_ hc
  have hb : ((adr v sz i).add j).block = b := by subst e; simp only [adr, Addr.add]; split <;> rfl
  rw [hb]
  exact u.blk b h2 (by rw [h1]; exact u.z)

/-- A row of a shorter call's own is nobody's behind it. -/
theorem RowT.free {α : Type} {enc : α → List Value} {E : TypeId} {sz : Nat} {O O' : Nat → Nat} {w w' : World} {i B : Nat} {v : Value} {l : List α} (h : RowT enc E sz O' w' i v l) (hi : i ≠ 0) (r : Rng w.heap.size O' w') (k : Rng B O w) : Free O w' v := fun a n c e _ => by
  subst e
  have h1 := h.1.tag a.block rfl
  have h2 := r.rng a.block (by rw [h1]; exact hi)
  exact ⟨Classical.byContradiction fun hne => by have := k.rng _ hne; omega, h2.2⟩

section
variable {P : Program} {N : Nat} {ops : Array Oper} {Q : Exit → Act → World → Prop} {rest : List Oper} {st : St} {w : World}
variable {t xt yt : TypeId} {p : String} {e : Array Edge} {d : Nat} {x y z : Operand}

theorem WL.makeRow {T E : TypeId} {bytes : Nat} (he : Elem P T E 1 bytes) {α : Type} {val : α → Value} (z0 : α) (hz0 : (P.info? E).bind (·.zero) = some (val z0)) (h1 : ∀ a, (val a).oneCell' = true) {B : Nat} {O : Nat → Nat} (r : Rng B O w) (i : Nat) (hi0 : i ≠ 0) (n : Nat) {kl kc : IntKind} {m1 m2 : Int}
    (hx : ev st x = some (.int kl m1)) (hy : ev st y = some (.int kc m2)) (hm1 : m1 = n) (hm2 : m2 = n) (hb : bytes * n ≤ 281474976710656) (h63 : n ≤ 9223372036854775807) (hd : Nat.blt d N = true)
    (h : ∀ w' O' v, v = .slice (some ⟨w.heap.size, 0, none⟩) n n → RowT (fun x => [val x]) E 1 O' w' i v (List.replicate n z0) → Upd (fun k => k = i) O w O' w' → Rng B O' w' → Ext w w' → WL P N ops Q rest ((d, v) :: st) w') :
    WL P N ops Q (⟨some d, .makeSlice T x y, t, p, e, none⟩ :: rest) st w := by
  obtain ⟨inf, z, hi, hz, hsz, hby, hzs⟩ := he.parts
  have hzz : z = val z0 := by rw [hi] at hz0; simpa [hz] using hz0
  subst hzz; subst hm1; subst hm2
  have hc1 : (val z0).cells = #[val z0] := by have := h1 z0; generalize val z0 = u at *; cases u <;> first | rfl | simp [Value.oneCell'] at this
  have hb' : (inf.bytes : Int) * (n : Int) ≤ 281474976710656 := by
    have h : ((inf.bytes * n : Nat) : Int) ≤ 281474976710656 := by rw [hby]; omega
    rwa [Int.natCast_mul] at h
  have hrun := run_make (P := P) w T E inf _ he.ht hi hz kl kc n n (by omega) (Int.le_refl _) hb' (by omega)
  simp only [Int.toNat_natCast, hsz, Nat.mul_one, hc1] at hrun
  have hz : ¬ (fun k => k = i) 0 := fun h => hi0 h.symm
  have u := Upd.alloc (S := fun k => k = i) hz r (.cells (madeCells #[val z0] n) E) i
  refine WL.val (v := .slice (some ⟨w.heap.size, 0, none⟩) n n) hd (fun a ha => by simp only [execOp, ha.ev hx, ha.ev hy, Sem.run_bind, hrun, Result.andThen_ok]; rfl) (h _ _ _ rfl ⟨⟨?_, fun g hg => ?_⟩, fun a _ => rfl⟩ u (r.upd u) (Ext.alloc _ _))
  · rw [List.length_replicate]
    have := World.ownsRow_lit (base := 0) (size := 1) (e := E) w (madeCells #[val z0] n) n (Nat.zero_le _) (by simpa [maxLen] using h63) (by rw [size_madeCells]; omega)
    rw [toList_madeCells_one] at this
    have e2 : (List.replicate n z0).flatMap (fun x => [val x]) = List.replicate n (val z0) := by
      induction n with
      | zero => rfl
      | succ n ih => simp only [List.replicate_succ, List.flatMap_cons]; congr 1; simp [List.flatMap_replicate]
    rw [e2]; exact this
  · simp only [Value.ownBlock, Option.some.injEq] at hg; subst hg; exact own1_at _ _ _

/-- A slice of one element. -/
theorem WL.buildOne {T E : TypeId} {sz bytes : Nat} (he : Elem P T E sz bytes) {α : Type} {enc : α → List Value} (u : α) {xv : Value} (hx : ev st x = some xv) (hxv : xv.cells.toList = enc u) (hul : (enc u).length = sz) (hs : sz ≤ 16777216) (hd : Nat.blt d N = true)
    (h : ∀ v w', Sl enc sz w' v [u] → Ext w w' → WL P N ops Q rest ((d, v) :: st) w') : WL P N ops Q (⟨some d, .buildSlice T 1 #[(0, x)], t, p, e, none⟩ :: rest) st w := by
  obtain ⟨inf, z, hi, hz, hsz, hby, hzs⟩ := he.parts
  have hcs : xv.cells.size = sz := by rw [← hul, ← hxv]; simp
  have hpos := he.pos
  refine WL.val (v := .slice (some ⟨w.heap.size, 0, none⟩) 1 1) (w' := w.alloc (.cells xv.cells E)) hd (fun a ha => ?_) (h _ _ ⟨⟨_, 1, rfl, Nat.le_refl _, by simp, fun _ => ⟨_, _, rfl⟩⟩, fun i hi j c hc => ?_⟩ (Ext.alloc _ _))
  · have := run_buildSlice (P := P) w T E 1 #[(0, xv)] xv.cells inf z he.ht hi hz (by rw [hsz]; omega) (by rw [hsz]; omega) (by
      rw [hsz]
      exact fill_one hcs (by simp))
    simp only [execOp, List.map_toArray, List.map_cons, List.map_nil, ha.ev hx, Sem.run_bind, this, Result.andThen_ok]
    rfl
  · obtain rfl : i = 0 := by simpa using hi
    simp only [List.getElem_cons_zero] at hc
    simp only [adr, Nat.zero_mul, Nat.add_zero]
    rw [show ((⟨w.heap.size, 0, none⟩ : Addr).add j) = ⟨w.heap.size, j, none⟩ from by simp only [Addr.add]; split <;> simp_all, cell_of_row _ _ j xv.cells E (0, 0) (heap_alloc_new w _)]
    rw [← hxv] at hc; simpa using hc

theorem flat_len {α : Type} {enc : α → List Value} {sz : Nat} : ∀ (us : List α), (∀ u ∈ us, (enc u).length = sz) → (us.flatMap enc).length = us.length * sz
  | [], _ => by simp
  | x :: r, h => by
    simp only [List.flatMap_cons, List.length_append, List.length_cons, h x (by simp), flat_len r (fun u hu => h u (by simp [hu])), Nat.succ_mul]; omega
theorem flat_at {α : Type} {enc : α → List Value} {sz : Nat} {us : List α} {v : Value} (hs : Sl enc sz w v us) (hz : ∀ u ∈ us, (enc u).length = sz) (hp : 0 < sz) {a : Addr} {n c : Nat} (hv : v = .slice (some a) n c) : ∀ j u, (us.flatMap enc)[j]? = some u → w.cell? (a.add j) = some u := by
  intro j u hu
  have hlen := flat_len us hz
  have hj : j < us.length * sz := by rw [← hlen]; exact (List.getElem?_eq_some_iff.1 hu).1
  have hq : j / sz < us.length := Nat.div_lt_of_lt_mul (by rw [Nat.mul_comm]; exact hj)
  have hr : j % sz < sz := Nat.mod_lt _ hp
  have hjj : j / sz * sz + j % sz = j := Nat.div_add_mod' j sz
  have hl := hz _ (List.getElem_mem hq)
  have h1 := flatMap_get us hz (j / sz) hq (j % sz) _ (List.getElem?_eq_getElem (by omega))
  rw [hjj, hu] at h1
  have h2 := hs.cells (j / sz) hq (j % sz) u (by rw [List.getElem?_eq_getElem (by omega), ← h1])
  obtain ⟨a', c', e1, _, _, e2⟩ := hs.shape
  obtain ⟨b, o, e3⟩ := e2 (Nat.ne_of_gt (Nat.lt_of_le_of_lt (Nat.zero_le _) hq))
  rw [hv] at e1 h2
  cases e1; cases e3
  simp only [adr] at h2
  rw [show ((⟨b, o, none⟩ : Addr).add j) = ((⟨b, o + j / sz * sz, none⟩ : Addr).add (j % sz)) from by simp only [Addr.add]; split <;> split <;> simp_all <;> omega]
  exact h2

/-- 'append(l, us...)' where there is something to append. -/
theorem WL.appendSl {T E : TypeId} {sz bytes : Nat} (he : Elem P T E sz bytes) {α : Type} {enc : α → List Value} {B : Nat} {O : Nat → Nat} {i : Nat} {v sv : Value} {l us : List α} (hr : RowT enc E sz O w i v l) (r : Rng B O w) (hs : Sl enc sz w sv us) (hne : us.length ≠ 0)
    (hx : ev st x = some v) (hy : ev st y = some sv) (hul : ∀ u ∈ us, (enc u).length = sz) (hu1 : ∀ u ∈ us, ∀ c ∈ enc u, c.oneCell' = true)
    (hb : (l.length + us.length) * bytes ≤ 140737488355328) (h63 : l.length + us.length ≤ 9223372036854775807) (hi0 : i ≠ 0) (hd : Nat.blt d N = true)
    (h : ∀ v' w' O', RowT enc E sz O' w' i v' (l ++ us) → Upd (fun k => k = i) O w O' w' → Rng B O' w' → WL P N ops Q rest ((d, v') :: st) w') :
    WL P N ops Q (⟨some d, .call ⟨.builtin .append, #[x, y], #[T, T]⟩, t, p, e, none⟩ :: rest) st w := by
  obtain ⟨a, c, rfl, _, _, ha0⟩ := hs.shape
  obtain ⟨b, o, rfl⟩ := ha0 hne
  have hlen := flat_len us hul
  obtain ⟨v', w', O', hrun, hrow, hupd⟩ := run_append_tag (P := P) (ty := t) he r hr.1 ⟨b, o, none⟩ us.length c (us.flatMap enc) hlen (flat_at hs hul he.pos rfl) (fun u hu => by
    obtain ⟨q, hq, hc⟩ := List.mem_flatMap.1 hu
    exact hu1 q hq u hc) hb h63 hi0
  refine WL.val (v := v') (w' := w') hd (fun a ha => ?_) (h v' w' O' ⟨by simpa using hrow, fun q hq => ?_⟩ hupd (r.upd hupd))
  · simp only [execOp, resolve, invoke, builtin, Sem.run_bind, Sem.run_pure, Result.andThen_ok, List.map_toArray, List.map_cons, List.map_nil, ha.ev hx, ha.ev hy, hrun]
  · rcases List.mem_append.1 hq with hq | hq
    · exact hr.2 q hq
    · exact hul q hq
end
end Go.VL
