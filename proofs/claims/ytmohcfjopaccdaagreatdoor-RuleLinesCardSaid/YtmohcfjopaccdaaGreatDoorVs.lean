/- Structs, for the small calculus: built, loaded, stored, handed back. Nothing here speaks of a particular program. -/
import Derived.Test.YtmohcfjopaccdaaGreatDoorVd
namespace Go.VL

def evp (st : St) : List (Nat × Operand) → Option (List (Nat × Value))
  | [] => some []
  | (i, x) :: r => match ev st x, evp st r with
    | some v, some vs => some ((i, v) :: vs)
    | _, _ => none

section
variable {P : Program} {N : Nat} {ops : Array Oper} {Q : Exit → Act → World → Prop} {rest : List Oper} {st : St} {w : World}
variable {t : TypeId} {p : String} {e : Array Edge} {d : Nat} {x y z : Operand}

theorem Fits.evp {a : Act} (ha : Fits N a st) : ∀ {l : List (Nat × Operand)} {vs : List (Nat × Value)}, evp st l = some vs → l.map (fun q => (q.1, a.eval q.2)) = vs := by
  intro l
  induction l with
  | nil => intro vs h; simpa [VL.evp] using h.symm
  | cons q r ih =>
    obtain ⟨i, x⟩ := q
    intro vs h
    simp only [VL.evp] at h
    cases h1 : VL.ev st x with
    | none => rw [h1] at h; simp at h
    | some v =>
      cases h2 : VL.evp st r with
      | none => rw [h1, h2] at h; simp at h
      | some vs' =>
        rw [h1, h2] at h
        simp at h
        subst h
        rw [List.map_cons, ha.ev h1, ih h2]

/-- Where the fields of a struct lie. -/
def Places (P : Program) (T : TypeId) (pl : Array (Nat × Nat)) : Prop :=
  ∃ fs, P.underlying T = some (.struct fs) ∧ ∀ w, (fs.mapM fun f => do pure (f.offset, ← sizeOf f.type) : Sem (Array (Nat × Nat))).run P w = .ok pl w

theorem RV.build {T : TypeId} {pl : Array (Nat × Nat)} {parts : List (Nat × Operand)} {vs : List (Nat × Value)} {z : Value} {cells : Array Value} (hp : Places P T pl) (hz : (zeroValue T).run P w = .ok z w)
    (hv : evp st parts = some vs) (hf : Instr.fill (pl[·]?) z.cells vs = some cells) : RV P N (.build T parts.toArray) t st w (.agg cells) :=
  fun a ha dst p e g => by
    obtain ⟨fs, hu, hpl⟩ := hp
    have h1 := ha.evp hv
    have e1 : (List.map (fun x : Nat × Operand => match x with | (i, x) => (i, a.eval x)) parts) = vs := by rw [← h1]
    simp only [execOp, Instr.build, List.map_toArray, e1, Sem.run_bind, hz, Result.andThen_ok, run_underlying hu, hpl, hf, Sem.run_pure]

theorem fill_flat (pl : Array (Nat × Nat)) : ∀ (vs : List (Nat × Value)) (cells : Array Value), (vs.all fun q => q.2.oneCell') = true →
    (vs.all fun q => match pl[q.1]? with | some (off, 1) => Nat.blt off cells.size | _ => false) = true →
    Instr.fill (pl[·]?) cells vs = some (vs.foldl (fun cs q => cs.setIfInBounds (pl.getD q.1 (0, 0)).1 q.2) cells)
  | [], cells, _, _ => rfl
  | (i, v) :: r, cells, h1, h2 => by
    simp only [List.all_cons, Bool.and_eq_true] at h1 h2
    obtain ⟨hv, h1⟩ := h1
    obtain ⟨hi, h2⟩ := h2
    cases hp : pl[i]? with
    | none => rw [hp] at hi; simp at hi
    | some q =>
      obtain ⟨off, s⟩ := q
      rw [hp] at hi
      split at hi
      · rename_i he
        simp only [Option.some.injEq, Prod.mk.injEq] at he
        obtain ⟨rfl, rfl⟩ := he
        have hlt : off < cells.size := Nat.le_of_ble_eq_true hi
        have hc : v.cells = #[v] := by cases v <;> first | rfl | simp [Value.oneCell'] at hv
        have hg : pl.getD i (0, 0) = (off, 1) := by simp [Array.getD_eq_getD_getElem?, hp]
        have key : ∀ (f : Array Value → Value × Nat → Array Value), (∀ cs c j, f cs (c, j) = cs.setIfInBounds (off + j) c) → (#[v].zipIdx).foldl f cells = cells.setIfInBounds off v := fun f hf => by
          rw [show (#[v].zipIdx) = #[(v, 0)] from rfl]
          show f cells (v, 0) = _
          rw [hf]; rfl
        have hne : ¬ (1 ≠ 1 ∨ off + 1 > cells.size) := by omega
        simp only [Instr.fill, hp, hc, List.foldl_cons, hg]
        have e1 : ((#[v].size : Nat)) = 1 := rfl
        simp only [e1]
        rw [if_neg (by simp; omega)]
        rw [key _ (fun _ _ _ => rfl)]
        exact fill_flat pl r _ h1 (by simpa using h2)
      · cases hi

theorem RV.buildF {T : TypeId} {pl : Array (Nat × Nat)} {parts : List (Nat × Operand)} {vs : List (Nat × Value)} {z : Value} {cells : Array Value} (hp : Places P T pl) (hz : (zeroValue T).run P w = .ok z w)
    (hv : evp st parts = some vs) (h1 : (vs.all fun q => q.2.oneCell') = true) (h2 : (vs.all fun q => match pl[q.1]? with | some (off, 1) => Nat.blt off z.cells.size | _ => false) = true)
    (hf : vs.foldl (fun cs q => cs.setIfInBounds (pl.getD q.1 (0, 0)).1 q.2) z.cells = cells) : RV P N (.build T parts.toArray) t st w (.agg cells) :=
  RV.build hp hz hv (by rw [fill_flat pl vs _ h1 h2, hf])

theorem RV.field {T : TypeId} {fs : Array Field} {f : Nat} {fd : Field} {cs : Array Value} {v : Value} (hu : P.underlying T = some (.struct fs)) (hf : fs[f]? = some fd) (hx : ev st x = some (.agg cs)) (ha : (isAgg fd.type).run P w = .ok false w) (hc : cs[fd.offset]? = some v) :
    RV P N (.field T x f) t st w v := fun a hA dst p e g => by
  simp only [execOp, hA.ev hx]
  simp [Instr.field, run_underlying hu, hf, asAgg, part, ha, hc]

/-- A struct is stored into an owner's block, whole. -/
theorem run_storeAgg {O : Nat → Nat} {i b : Nat} {cs us : Array Value} {E T : TypeId} (hb : BlkO O w i b cs E) (hs : us.size = cs.size) (hT : (sizeOf T).run P w = .ok us.size w) (h1 : ∀ u ∈ us.toList, u.oneCell' = true) :
    (Instr.storeAt T (.pointer (some ⟨b, 0, none⟩)) (.agg us)).run P w = .ok () (w.setRow b us) := by
  have := run_storeCells_at P b 0 E us.toList 0 cs w hb.blk (by simp [hs]) h1
  simp only [Nat.zero_add, List.take_zero, List.nil_append, Array.length_toList] at this
  rw [List.drop_eq_nil_of_le (by simp [hs]), List.append_nil] at this
  simp only [Instr.storeAt, Instr.sureAddr, storeVar, Sem.run_bind, Sem.run_pure, Result.andThen_ok, Value.cells, hT]
  simpa using this

theorem BlkO.setRow {O : Nat → Nat} {w : World} {i b : Nat} {cs us : Array Value} {E : TypeId} (h : BlkO O w i b cs E) : BlkO O (w.setRow b us) i b us E :=
  ⟨setRow_heap w b cs us E (0, 0) h.blk, h.tag⟩
theorem Upd.setRow {S : Nat → Prop} (hz : ¬ S 0) {O : Nat → Nat} {w : World} {i b : Nat} {us : Array Value} (ht : O b = i) (hS : S i) : Upd S O w O (w.setRow b us) :=
  ⟨rfl, rfl, rfl, by simp, fun k _ hn => setRow_other w b k _ (fun e => hn (by subst e; rw [ht]; exact hS)), fun _ _ => rfl, fun _ h => .inl h, hz⟩

theorem WL.storeAgg {T : TypeId} {O : Nat → Nat} {i b : Nat} {cs us : Array Value} {E : TypeId} (hb : BlkO O w i b cs E) (hs : us.size = cs.size) (hT : (sizeOf T).run P w = .ok us.size w) (h1 : us.toList.all Value.oneCell' = true)
    {q : Addr} (hx : ev st x = some (.pointer (some q))) (hq : q = ⟨b, 0, none⟩) (hy : ev st y = some (.agg us))
    (h : WL P N ops Q rest st (w.setRow b us)) : WL P N ops Q (⟨none, .store T x y, t, p, e, none⟩ :: rest) st w :=
  WL.unit (fun a ha => by
    subst hq
    simp only [execOp, ha.ev hx, ha.ev hy, Sem.run_bind, run_storeAgg hb hs hT (List.all_eq_true.1 h1), Result.andThen_ok, Sem.run_pure]) h

/-- A variable of the call's own. -/
theorem WL.boxO {B : Nat} {O : Nat → Nat} (r : Rng B O w) (i : Nat) (hi0 : i ≠ 0) {E : TypeId} {v : Value} (hx : ev st x = some v) (hd : Nat.blt d N = true)
    (h : ∀ b w' O', BlkO O' w' i b v.cells E → Upd (fun j => j = i) O w O' w' → Rng B O' w' → Ext w w' → WL P N ops Q rest ((d, .pointer (some ⟨b, 0, none⟩)) :: st) w') : WL P N ops Q (⟨some d, .box E x, t, p, e, none⟩ :: rest) st w := by
  have u := Upd.alloc (S := fun j => j = i) (fun h => hi0 h.symm) r (.cells v.cells E) i
  exact WL.box hx hd (h _ _ _ (BlkO.new _ _ _ _ _) u (r.upd u) (Ext.alloc _ _))
theorem WL.allocO {B : Nat} {O : Nat → Nat} (r : Rng B O w) (i : Nat) (hi0 : i ≠ 0) {E : TypeId} {z : Value} (hz : (zeroValue E).run P w = .ok z w) (hd : Nat.blt d N = true)
    (h : ∀ b w' O', BlkO O' w' i b z.cells E → Upd (fun j => j = i) O w O' w' → Rng B O' w' → Ext w w' → WL P N ops Q rest ((d, .pointer (some ⟨b, 0, none⟩)) :: st) w') : WL P N ops Q (⟨some d, .alloc E, t, p, e, none⟩ :: rest) st w := by
  have u := Upd.alloc (S := fun j => j = i) (fun h => hi0 h.symm) r (.cells z.cells E) i
  exact WL.alloc hz hd (h _ _ _ (BlkO.new _ _ _ _ _) u (r.upd u) (Ext.alloc _ _))
theorem BlkO.cellsAdd {O : Nat → Nat} {i b : Nat} {cs : Array Value} {E : TypeId} (h : BlkO O w i b cs E) : ∀ j u, cs.toList[j]? = some u → w.cell? ((⟨b, 0, none⟩ : Addr).add j) = some u := fun j u hu => by
  rw [show ((⟨b, 0, none⟩ : Addr).add j) = ⟨b, j, none⟩ from by simp only [Addr.add]; split <;> simp_all]
  exact h.cell j (by simpa using hu)
end

section
variable {P : Program} {N : Nat} {st : St} {w : World} {fn : Func} {R : Value → World → Prop}
theorem run_loadVar_agg {T : TypeId} {q : Addr} {us : List Value} (hc : ∀ j u, us[j]? = some u → w.cell? (q.add j) = some u) (hT : (isAgg T).run P w = .ok true w) (hn : (sizeOf T).run P w = .ok us.length w) :
    (loadVar T q).run P w = .ok (.agg us.toArray) w := by
  have := run_loadCellsFrom (P := P) us 0 #[] (q := q) (w := w) (by simpa using hc)
  simp [loadVar, hT, hn, loadCells, this]

/-- The first result lies in a cell. -/
theorem QF.doneC1 {t : Tmp} {T : TypeId} {q : Addr} {us : List Value} (hr : fn.results = #[.cell t T]) (hv : sget st t = some (.pointer (some q)))
    (hc : ∀ j u, us[j]? = some u → w.cell? (q.add j) = some u) (hT : (isAgg T).run P w = .ok true w) (hn : (sizeOf T).run P w = .ok us.length w) (h : R (.agg us.toArray) w) : QF N (RP P fn R) .ret st w := fun a ha =>
  ⟨ha.defers, _, by have h1 := ha.get _ _ hv; simp [results, hr, Array.getD_eq_getD_getElem?, h1, asAddr, run_loadVar_agg hc hT hn], h⟩
theorem QF.doneC2 {t u : Tmp} {T : TypeId} {q : Addr} {us : List Value} {v' : Value} (hr : fn.results = #[.cell t T, .tmp u]) (hv : sget st t = some (.pointer (some q))) (hv' : sget st u = some v')
    (hc : ∀ j u, us[j]? = some u → w.cell? (q.add j) = some u) (hT : (isAgg T).run P w = .ok true w) (hn : (sizeOf T).run P w = .ok us.length w) (h : R (.tuple #[.agg us.toArray, v']) w) : QF N (RP P fn R) .ret st w := fun a ha =>
  ⟨ha.defers, _, by have h1 := ha.get _ _ hv; have h2 := ha.get _ _ hv'; simp [results, hr, Array.getD_eq_getD_getElem?, h1, h2, asAddr, run_loadVar_agg hc hT hn], h⟩
end

/-! Literals of slices. -/
theorem Sl.of_block {α : Type} {enc : α → List Value} {sz : Nat} {w : World} {g : Nat} {cells : Array Value} {E : TypeId} {xs : List α} (hb : w.heap[g]? = some (.cells cells E (0, 0))) (hc : cells.toList = xs.flatMap enc) (hz : ∀ x ∈ xs, (enc x).length = sz) (hm : xs.length ≤ 9223372036854775807) :
    Sl enc sz w (.slice (some ⟨g, 0, none⟩) xs.length xs.length) xs := by
  refine ⟨⟨_, _, rfl, Nat.le_refl _, hm, fun _ => ⟨g, 0, rfl⟩⟩, fun i hi j u hu => ?_⟩
  have h := flatMap_get xs hz i hi j u hu
  have ha : ((adr (.slice (some ⟨g, 0, none⟩) xs.length xs.length) sz i).add j) = ⟨g, i * sz + j, none⟩ := by
    simp only [adr, Addr.add]; split <;> simp_all
  rw [ha, cell_of_row w g _ cells E (0, 0) hb]
  rw [← hc] at h
  simpa using h

section
variable {P : Program} {N : Nat} {ops : Array Oper} {Q : Exit → Act → World → Prop} {rest : List Oper} {st : St} {w : World}
variable {t : TypeId} {p : String} {e : Array Edge} {d : Nat}
theorem WL.buildSl {T E : TypeId} {sz n : Nat} {z : Value} {parts : List (Nat × Operand)} {vs : List (Nat × Value)} (hu : P.underlying T = some (.slice E)) (hE : (sizeOf E).run P w = .ok sz w) (hz : (zeroValue E).run P w = .ok z w)
    {α : Type} (enc : α → List Value) (xs : List α) (hn : xs.length = n) (hv : evp st parts = some vs) (hsm : Nat.ble (n * sz) 16777216 = true) (hps : Nat.beq (n * sz) 0 = false)
    (hf : Instr.fill (fun i => some (i * sz, sz)) ((Array.range (n * sz)).map (z.cells[· % z.cells.size]!)) vs = some (xs.flatMap enc).toArray) (hsz : ∀ x ∈ xs, (enc x).length = sz) (hd : Nat.blt d N = true)
    (h : ∀ v w', Sl enc sz w' v xs → Ext w w' → WL P N ops Q rest ((d, v) :: st) w') : WL P N ops Q (⟨some d, .buildSlice T n parts.toArray, t, p, e, none⟩ :: rest) st w := by
  subst hn
  have hsm' := Nat.le_of_ble_eq_true hsm
  have hps' : ¬ xs.length * sz = 0 := fun e => by rw [e] at hps; simp at hps
  have hle : xs.length ≤ xs.length * sz := Nat.le_mul_of_pos_right _ (Nat.pos_of_ne_zero fun e => hps' (by rw [e, Nat.mul_zero]))
  refine WL.val (v := .slice (some ⟨w.heap.size, 0, none⟩) xs.length xs.length) (w' := w.alloc (.cells (xs.flatMap enc).toArray E)) hd (fun a ha => ?_) (h _ _ (Sl.of_block (heap_alloc_new w _) rfl hsz (by omega)) (Ext.alloc _ _))
  have h1 := ha.evp hv
  have e1 : (List.map (fun x : Nat × Operand => match x with | (i, x) => (i, a.eval x)) parts) = vs := by rw [← h1]
  simp only [execOp, Instr.buildSlice, List.map_toArray, e1, Sem.run_bind, run_underlying hu, Result.andThen_ok, hE]
  rw [if_neg (by omega), if_neg hps']
  simp [hz, hf, newRow, newObj]
  rfl
end
end Go.VL
