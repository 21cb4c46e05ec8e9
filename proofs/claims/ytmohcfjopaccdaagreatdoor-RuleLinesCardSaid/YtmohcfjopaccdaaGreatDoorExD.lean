/- Package expr, walked: named. -/
import Derived.Test.YtmohcfjopaccdaaGreatDoorExL
import Derived.Test.YtmohcfjopaccdaaGreatDoorVj
namespace Go.VL
section
variable {P : Program} {N : Nat} {ops : Array Oper} {Q : Exit → Act → World → Prop} {rest : List Oper} {st : St} {w : World}
variable {t : TypeId} {p : String} {e : Array Edge} {d : Nat} {x y z : Operand}
/-- A slice of one element, which its maker owns. -/
theorem WL.buildOneO {T E : TypeId} {sz bytes : Nat} (he : Elem P T E sz bytes) {α : Type} {enc : α → List Value} {B : Nat} {O : Nat → Nat} (r : Rng B O w) (i : Nat) (hi0 : i ≠ 0) (u : α) {xv : Value} (hx : ev st x = some xv) (hxv : xv.cells.toList = enc u) (hul : (enc u).length = sz) (hs : sz ≤ 16777216) (hd : Nat.blt d N = true)
    (h : ∀ v w' O', RowT enc E sz O' w' i v [u] → Upd (fun k => k = i) O w O' w' → Rng B O' w' → WL P N ops Q rest ((d, v) :: st) w') : WL P N ops Q (⟨some d, .buildSlice T 1 #[(0, x)], t, p, e, none⟩ :: rest) st w := by
  obtain ⟨inf, z, hi, hz, hsz, hby, hzs⟩ := he.parts
  have hcs : xv.cells.size = sz := by rw [← hul, ← hxv]; simp
  have hpos := he.pos
  have u1 := Upd.alloc (S := fun k => k = i) (fun e => hi0 e.symm) r (.cells xv.cells E) i
  refine WL.val (v := .slice (some ⟨w.heap.size, 0, none⟩) 1 1) (w' := w.alloc (.cells xv.cells E)) hd (fun a ha => ?_) (h _ _ (own1 O w.heap.size i) ⟨⟨?_, fun g hg => ?_⟩, fun c hc => by rw [List.mem_singleton.1 hc]; exact hul⟩ u1 (r.upd u1))
  · have := run_buildSlice (P := P) w T E 1 #[(0, xv)] xv.cells inf z he.ht hi hz (by rw [hsz]; omega) (by rw [hsz]; omega) (by
      rw [hsz]
      exact fill_one hcs (by simp))
    simp only [execOp, List.map_toArray, List.map_cons, List.map_nil, ha.ev hx, Sem.run_bind, this, Result.andThen_ok]
    rfl
  · have := World.ownsRow_lit (base := 0) (size := sz) (e := E) w xv.cells 1 (Nat.zero_le _) (by simp [maxLen]) (by omega)
    simpa [hxv] using this
  · simp [Value.ownBlock] at hg; subst hg; exact own1_at _ _ _
end
section
variable {P : Program} {N : Nat} {st : St} {w : World} {fn : Func} {R : Value → World → Prop}
theorem Leave.doneC1 {t : Tmp} {T : TypeId} {q : Addr} {us : List Value} (hr : fn.results = #[.cell t T]) (hv : sget st t = some (.pointer (some q)))
    (hc : ∀ j u, us[j]? = some u → w.cell? (q.add j) = some u) (hT : (isAgg T).run P w = .ok true w) (hn : (sizeOf T).run P w = .ok us.length w) (h : R (.agg us.toArray) w) : Leave P N fn R [] st w :=
  Leave.nil (fun a ha => by have h1 := ha.get _ _ hv; simp [results, hr, Array.getD_eq_getD_getElem?, h1, asAddr, run_loadVar_agg hc hT hn]) h
end
/-- A block that came to be in a call is its caller's. -/
theorem Upd.adopt {S : Nat → Prop} {B D : Nat} {O O' : Nat → Nat} {w w' W : World} (h : Upd S O w O' w') (r : Rng B O' w') (hE : Ext w' W) (hD : w'.heap.size ≤ D) (hl : D < W.heap.size) (i : Nat) : Upd S O w (own1 O' D i) W ∧ Rng B (own1 O' D i) W := by
  refine ⟨⟨hE.os.trans h.os, hE.tape.trans h.tape, hE.output.trans h.output, Nat.le_trans h.size hE.size, fun b hb hn => (hE.block b (Nat.lt_of_lt_of_le hb h.size)).trans (h.blk b hb hn), fun b hb => ?_, fun b hb => ?_, h.z⟩, ⟨Nat.le_trans r.le hE.size, fun b hb => ?_⟩⟩
  · have h1 := h.tag b hb
    have h2 := r.rng b (by rw [h1]; exact hb)
    unfold own1; rw [if_neg (by omega)]; exact h1
  · unfold own1 at hb
    split at hb
    · rename_i e; subst e; exact .inr ⟨by have := h.size; omega, hl⟩
    · rcases h.new b hb with h1 | h1
      · exact .inl h1
      · exact .inr ⟨h1.1, Nat.lt_of_lt_of_le h1.2 hE.size⟩
  · unfold own1 at hb
    split at hb
    · rename_i e; subst e; exact ⟨Nat.le_trans r.le hD, hl⟩
    · exact ⟨(r.rng b hb).1, Nat.lt_of_lt_of_le (r.rng b hb).2 hE.size⟩
theorem BlkO.adopt {D i j b : Nat} {O : Nat → Nat} {w W : World} {cs : Array Value} {E : TypeId} (h : BlkO O w j b cs E) (hE : Ext w W) (hD : w.heap.size ≤ D) : BlkO (own1 O D i) W j b cs E :=
  ⟨(hE.block b (heap_lt h.blk)).trans h.blk, by have := heap_lt h.blk; unfold own1; rw [if_neg (by omega)]; exact h.tag⟩
end Go.VL
namespace Go.Proofs.YtmohcfjopaccdaaGreatDoor
open Go.VL Go.Proofs
set_option maxRecDepth 10000

theorem elM : Elem Tryz.prog 54 95 4 56 := ⟨Tryz.underlying54, by kernel_rfl, by decide⟩
theorem backward_ret (q : Option Addr) (n c : Nat) (w : World) : Ret Tryz.prog 147 [.slice q n c] w fun v w' => ∃ b, v = .func (.func 148) #[] #[.pointer (some ⟨b, 0, none⟩)] ∧ w'.cell? ⟨b, 0, none⟩ = some (.slice q n c) ∧ w.heap.size ≤ b ∧ Ext w w' := by
  refine Ret.enter Tryz.func147 Tryz.ntmps147 rfl rfl ?_
  refine WC.seq ?_
  refine WC.region ?_
  refine WL.boxO (Rng.start w) 1 (by omega) rfl rfl ?_
  intro b w1 O1 hb hU1 hR1 hE1
  refine WL.v (RV.assign rfl) rfl ?_
  refine WL.nil ?_
  refine QF.seqNext ?_
  refine WC.seq ?_
  refine WC.region ?_
  refine WL.v (RV.mkFunc rfl rfl) rfl ?_
  refine WL.v (RV.assign rfl) rfl ?_
  refine WL.nil ?_
  refine QF.seqNext ?_
  refine WC.ret ?_
  refine QF.done1 rfl rfl (⟨b, rfl, hb.cell 0 rfl, (hR1.rng b (by rw [hb.tag]; decide)).1, hE1⟩)
theorem rev_at {α : Type} [Inhabited α] {l : List α} {i : Nat} (h : i < l.reverse.length) : l.reverse[i] = nth l (l.length - 1 - i) := by
  rw [List.length_reverse] at h
  rw [List.getElem_reverse, nth_eq (by omega)]
theorem backward1_iter (kv : Value) (ms : List M3) (b : Nat) : Iter2 Tryz.prog 148 [.pointer (some ⟨b, 0, none⟩)] (fun i => .int .i64 ((ms.length : Int) - 1 - (i : Int))) (fun m : M3 => .agg (encM m).toArray) ms.reverse (fun W => W.cell? ⟨b, 0, none⟩ = some kv ∧ Sl encM 4 W kv ms) := by
  intro lp J Jx W hRd hJe hY h0
  obtain ⟨hb0, hs0⟩ := hRd _ _ h0
  have hlen := hs0.len_le
  have hrl : ms.reverse.length = ms.length := List.length_reverse
  refine Ret.enterM Tryz.func148 Tryz.ntmps148 rfl rfl ?_
  refine WI.seq ?_
  refine WI.region (by first | exact .inl rfl | exact .inr rfl) (fun _ _ h => h) ?_
  refine WL.v (RV.load (by first | exact hb0) (Tryz.isAgg54 _) rfl) rfl ?_
  refine WL.v (RV.len (by first | exact hs0) Tryz.underlying54 rfl) rfl ?_
  refine WL.v (RV.sub rfl rfl (Fit.i64 (by omega))) rfl ?_
  refine WL.v (RV.assign rfl) rfl ?_
  refine WL.nil ?_
  refine QF.dn ?_
  refine QI.seqNext ?_
  refine WI.block ?_
  refine WI.loop (fun x : Nat × World × Int => [(0, .func (.yield lp) #[] #[]), (1, .pointer (some ⟨b, 0, none⟩)), (3, .int .i64 x.2.2)]) (fun x : Nat × World × Int => x.2.1) (fun x : Nat × World × Int => x.1 ≤ ms.length ∧ J x.1 x.2.1 ∧ x.2.2 = (ms.length : Int) - 1 - (x.1 : Nat)) (fun x : Nat × World × Int => ms.length - x.1) (0, W, (ms.length : Int) - 1) (⟨Nat.zero_le _, h0, by dsimp only; omega⟩) ⟨rfl, rfl, rfl, trivial⟩ rfl ?_
  rintro ⟨i, w1, z⟩ ⟨hi, hJ, hz⟩
  dsimp only at hi hJ hz ⊢
  subst hz
  obtain ⟨hb, hs⟩ := hRd _ _ hJ
  refine WI.seq ?_
  refine WI.seq ?_
  refine WI.region (by first | exact .inl rfl | exact .inr rfl) (fun _ _ h => h) ?_
  refine WL.v (RV.move rfl) rfl ?_
  refine WL.v (RV.geq rfl rfl) rfl ?_
  refine WL.nil ?_
  refine QF.dn ?_
  refine QI.seqNext ?_
  refine WI.cond rfl ?_ ?_
  · intro hlt
    replace hlt : i < ms.length := by have := of_decide_eq_true hlt; omega
    have hy := hY i (by omega) w1 w1 hJ (Ext.refl _)
    rw [rev_at] at hy
    dsimp only at hy
    refine WI.skip ?_
    refine QI.seqNext ?_
    refine WI.seq ?_
    refine WI.block ?_
    refine WI.seq ?_
    refine WI.regionAt 6 (.inl rfl) (fun _ _ h => h) ?_
    refine WL.v (RV.move rfl) rfl ?_
    refine WL.v (RV.move rfl) rfl ?_
    refine WL.v (RV.load (by first | exact hb) (Tryz.isAgg54 _) rfl) rfl ?_
    refine WL.v (RV.move rfl) rfl ?_
    refine WL.v (RV.indexAddr hs Tryz.underlying54 (Tryz.sizeOf95 _) rfl rfl (ms.length - 1 - i) (by omega) (by omega)) rfl ?_
    refine WL.v (RV.loadAgg (us := encM (nth ms (ms.length - 1 - i))) (fun j u hu => hs.cell (by omega) hu) (Tryz.isAgg95 _) (Tryz.sizeOf95 _) rfl) rfl ?_
    refine WL.nil ?_
    refine QF.dn (QI.list ?_)
    refine WLI.yield2 rfl rfl rfl (hy) rfl (by rintro e w' ⟨⟨rfl, _⟩ | ⟨rfl, _⟩, _⟩ <;> exact ⟨_, rfl⟩) ?_
    rintro v w5 ⟨⟨e, hJ5⟩ | ⟨e, hJ5⟩, hkp⟩
    · obtain rfl := Ending.returned.inj e
      refine WLI.wl (.inl rfl) (fun _ _ h => h) ?_
      refine WL.v (RV.not rfl) rfl ?_
      refine WL.nil ?_
      refine QF.dn ?_
      refine QI.seqNext ?_
      refine WI.condF rfl (rfl) ?_
      refine WI.skip ?_
      refine QI.blockNormal ?_
      refine QI.seqNext ?_
      refine WI.region (by first | exact .inl rfl | exact .inr rfl) (fun _ _ h => h) ?_
      refine WL.v (RV.move rfl) rfl ?_
      refine WL.v (RV.sub rfl rfl (Fit.i64 (by omega))) rfl ?_
      refine WL.v (RV.assign rfl) rfl ?_
      refine WL.nil ?_
      refine QF.dn ?_
      refine QI.next ((i + 1, w5, (ms.length : Int) - 1 - (i : Int) - 1)) (⟨hlt, hJ5, by dsimp only; omega⟩) (by dsimp only; omega) ⟨rfl, rfl, rfl, trivial⟩ rfl
    · obtain rfl := Ending.returned.inj e
      refine WLI.wl (.inl rfl) (fun _ _ h => h) ?_
      refine WL.v (RV.not rfl) rfl ?_
      refine WL.nil ?_
      refine QF.dn ?_
      refine QI.seqNext ?_
      refine WI.condT rfl (rfl) ?_
      refine WI.ret ?_
      refine QI.blockRet ?_
      refine QI.thenRet ?_
      refine QI.thenRet ?_
      refine QI.blockRet ?_
      exact QI.leave (Leave.done0 rfl (.inr hJ5))
  · intro hge
    replace hge : ¬ i < ms.length := by have := of_decide_eq_false hge; omega
    obtain rfl : i = ms.length := by omega
    refine WI.exit ?_
    refine QI.thenExit ?_
    refine QI.thenExit ?_
    refine QI.blockHit ?_
    exact QI.leave (Leave.done0 rfl (.inl (by rw [hrl]; exact hJ)))
end Go.Proofs.YtmohcfjopaccdaaGreatDoor
