/- Packages strings, slices and expr, walked: Join of one byte; told, joined, text. -/
import Derived.Test.YtmohcfjopaccdaaGreatDoorBuB
namespace Go.Proofs.YtmohcfjopaccdaaGreatDoor
open Go.VL Go.Proofs
set_option maxRecDepth 10000

abbrev encS1 (x : List UInt8) : List Value := [.string (bs x)]
theorem elSt : Elem Tryz.prog 44 9 1 16 := ⟨Tryz.underlying44, by kernel_rfl, by decide⟩
theorem join_ret (c : UInt8) (l : List (List UInt8)) (sv : Value) (w : World) (h : Sl encS1 1 w sv l) (hl : l.length ≤ 2000) (hx : ∀ x ∈ l, x.length ≤ 30000) : Ret Tryz.prog 120 [sv, .string (bs [c])] w fun v w' => v = .string (bs (joinM [c] l)) ∧ Ext w w' := by
  have hc1 : [c].length = 1 := rfl
  refine Ret.enter Tryz.func120 Tryz.ntmps120 rfl rfl ?_
  refine WC.seq ?_
  refine WC.region ?_
  refine WL.v (RV.assign rfl) rfl ?_
  refine WL.nil ?_
  refine QF.seqNext ?_
  refine WC.seq ?_
  refine WC.seq ?_
  refine WC.region ?_
  refine WL.v (RV.move rfl) rfl ?_
  refine WL.v (RV.len (by first | exact h) Tryz.underlying44 rfl) rfl ?_
  refine WL.nil ?_
  refine QF.seqNext ?_
  refine WC.block ?_
  refine WC.seq ?_
  refine WC.region ?_
  refine WL.v (RV.eql rfl rfl) rfl ?_
  refine WL.v (RV.assign rfl) rfl ?_
  refine WL.nil ?_
  refine QF.seqNext ?_
  rcases l with _ | ⟨a, r⟩
  · skip
    refine WC.condT rfl (rfl) ?_
    refine WC.seq ?_
    refine WC.region ?_
    refine WL.v (RV.assign rfl) rfl ?_
    refine WL.nil ?_
    refine QF.seqNext ?_
    refine WC.ret ?_
    refine QF.blockRet ?_
    refine QF.thenRet ?_
    refine QF.done1 rfl rfl (⟨rfl, Ext.refl _⟩)
  · simp only [List.length_cons] at hl
    refine WC.condF rfl ((beq_eq_false_iff_ne.2 (by simp; omega))) ?_
    refine WC.seq ?_
    refine WC.region ?_
    refine WL.v (RV.eql rfl rfl) rfl ?_
    refine WL.v (RV.assign rfl) rfl ?_
    refine WL.nil ?_
    refine QF.seqNext ?_
    rcases r with _ | ⟨a2, r⟩
    · have m0 := h.ld (i := 0) (by simp)
      rw [nth_cons0] at m0
      refine WC.condT rfl (rfl) ?_
      refine WC.seq ?_
      refine WC.region ?_
      refine WL.v (RV.move rfl) rfl ?_
      refine WL.v (RV.indexAddr h Tryz.underlying44 (Tryz.sizeOf9 _) rfl rfl 0 rfl (by simp)) rfl ?_
      refine WL.v (RV.load (by first | exact m0) (Tryz.isAgg9 _) rfl) rfl ?_
      refine WL.v (RV.assign rfl) rfl ?_
      refine WL.nil ?_
      refine QF.seqNext ?_
      refine WC.ret ?_
      refine QF.blockRet ?_
      refine QF.thenRet ?_
      refine QF.done1 rfl rfl (⟨by simp [joinM], Ext.refl _⟩)
    · obtain ⟨l, hll⟩ : ∃ l, l = a :: a2 :: r := ⟨_, rfl⟩
      obtain ⟨m, hm⟩ : ∃ m, l.length = m + 2 := ⟨r.length, by rw [hll]; simp⟩
      rw [← hll] at h hx
      rw [show (a :: a2 :: r) = l from hll.symm]
      refine WC.condF rfl ((beq_eq_false_iff_ne.2 (by rw [hm]; simp; omega))) ?_
      have hml : m + 2 ≤ 2000 := by rw [← hm, hll]; simp at hl ⊢; omega
      have hq : ((9223372036854775807 : Int).tdiv ((l.length : Int) - 1)) ≥ 4611686018427387 := by
        rw [hm, show (((m + 2 : Nat) : Int) - 1) = ((m + 1 : Nat) : Int) from by omega]
        rw [Int.tdiv_eq_ediv_of_nonneg (by omega)]
        exact (Int.le_ediv_iff_mul_le (by omega)).2 (by omega)
      have hq2 : ((9223372036854775807 : Int).tdiv ((l.length : Int) - 1)) ≤ 9223372036854775807 := by
        rw [hm, show (((m + 2 : Nat) : Int) - 1) = ((m + 1 : Nat) : Int) from by omega]
        rw [Int.tdiv_eq_ediv_of_nonneg (by omega)]
        exact Int.ediv_le_self _ (by omega)
      have hacc : ∀ i, (accM (fun x : List UInt8 => x) [] l i).length ≤ 0 + 30000 * l.length := fun i => accM_len hx
      have hfit : Fit .i64 ((9223372036854775807 : Int).tdiv ((l.length : Int) - 1)) := Fit.i64 (by omega)
      refine WC.skip ?_
      refine QF.blockNormal ?_
      refine QF.seqNext ?_
      refine WC.seq ?_
      refine WC.region ?_
      refine WL.v (RV.assign rfl) rfl ?_
      refine WL.nil ?_
      refine QF.seqNext ?_
      refine WC.seq ?_
      refine WC.seq ?_
      refine WC.region ?_
      refine WL.v (RV.move rfl) rfl ?_
      refine WL.v (RV.lenS Tryz.underlying9 rfl) rfl ?_
      refine WL.v (RV.gtr rfl rfl) rfl ?_
      refine WL.nil ?_
      refine QF.seqNext ?_
      refine WC.condT rfl (rfl) ?_
      refine WC.seq ?_
      refine WC.seq ?_
      refine WC.region ?_
      refine WL.v (RV.move rfl) rfl ?_
      refine WL.v (RV.lenS Tryz.underlying9 rfl) rfl ?_
      refine WL.v (RV.move rfl) rfl ?_
      refine WL.v (RV.len (by first | exact h) Tryz.underlying44 rfl) rfl ?_
      refine WL.v (RV.sub rfl rfl (Fit.i64 (by omega))) rfl ?_
      refine WL.v (RV.quo rfl rfl (by omega) hfit) rfl ?_
      refine WL.v (RV.geq rfl rfl) rfl ?_
      refine WL.nil ?_
      refine QF.seqNext ?_
      refine WC.condF rfl ((decide_eq_false (by rw [hc1]; omega))) ?_
      refine WC.skip ?_
      refine QF.seqNext ?_
      refine WC.region ?_
      refine WL.v (RV.move rfl) rfl ?_
      refine WL.v (RV.move rfl) rfl ?_
      refine WL.v (RV.lenS Tryz.underlying9 rfl) rfl ?_
      refine WL.v (RV.move rfl) rfl ?_
      refine WL.v (RV.len (by first | exact h) Tryz.underlying44 rfl) rfl ?_
      refine WL.v (RV.sub rfl rfl (Fit.i64 (by omega))) rfl ?_
      refine WL.v (RV.mul rfl rfl (Fit.i64 (by rw [hc1]; omega))) rfl ?_
      refine WL.v (RV.add rfl rfl (Fit.i64 (by rw [hc1]; omega))) rfl ?_
      refine WL.v (RV.assign rfl) rfl ?_
      refine WL.nil ?_
      refine QF.seqNext ?_
      refine WC.seq ?_
      refine WC.seq ?_
      refine WC.region ?_
      refine WL.v (RV.move rfl) rfl ?_
      refine WL.v (RV.len (by first | exact h) Tryz.underlying44 rfl) rfl ?_
      refine WL.v (RV.move rfl) rfl ?_
      refine WL.nil ?_
      refine QF.seqNext ?_
      refine WC.block ?_
      rw [show (0 : Int) + (([c].length : Nat) : Int) * (((l.length : Nat) : Int) - 1) = ((m + 1 + (accM (fun x : List UInt8 => x) [] l 0).length : Nat) : Int) from by rw [hc1, hm]; simp [accM]; omega]
      refine WC.loop (fun y : Nat => [(0, sv), (1, .string (bs [c])), (5, .int .i64 ((m + 1 + (accM (fun x : List UInt8 => x) [] l y).length : Nat) : Int)), (39, sv), (40, .int .i64 l.length), (41, .int .i64 y)]) (fun y : Nat => w) (fun y : Nat => y ≤ l.length) (fun y : Nat => l.length - y) 0 (Nat.zero_le _) ⟨rfl, rfl, rfl, rfl, rfl, rfl, trivial⟩ rfl ?_
      intro i hi
      have hai := hacc i
      have hai2 := hacc (i + 1)
      refine WC.seq ?_
      refine WC.region ?_
      refine WL.v (RV.lss rfl rfl) rfl ?_
      refine WL.nil ?_
      refine QF.seqNext ?_
      refine WC.seq ?_
      refine WC.cond rfl ?_ ?_
      · intro hlt
        replace hlt : i < l.length := by have := of_decide_eq_true hlt; omega
        have m1 := h.ld hlt
        have hxl : (nth l i).length ≤ 30000 := hx _ (by rw [nth_eq hlt]; exact List.getElem_mem _)
        have hsu := accM_succ (f := fun x : List UInt8 => x) (a := []) hlt
        have hsl := congrArg List.length hsu
        rw [List.length_append] at hsl
        refine WC.skip ?_
        refine QF.seqNext ?_
        refine WC.seq ?_
        refine WC.block ?_
        refine WC.seq ?_
        refine WC.region ?_
        refine WL.v (RV.indexAddr (by first | exact h) Tryz.underlying44 (Tryz.sizeOf9 _) rfl rfl _ rfl (by omega)) rfl ?_
        refine WL.v (RV.load (by first | exact m1) (Tryz.isAgg9 _) rfl) rfl ?_
        refine WL.v (RV.assign rfl) rfl ?_
        refine WL.nil ?_
        refine QF.seqNext ?_
        refine WC.seq ?_
        refine WC.seq ?_
        refine WC.region ?_
        refine WL.v (RV.move rfl) rfl ?_
        refine WL.v (RV.lenS Tryz.underlying9 rfl) rfl ?_
        refine WL.v (RV.move rfl) rfl ?_
        refine WL.v (RV.sub rfl rfl (Fit.i64 (by omega))) rfl ?_
        refine WL.v (RV.gtr rfl rfl) rfl ?_
        refine WL.nil ?_
        refine QF.seqNext ?_
        refine WC.condF rfl ((decide_eq_false (by omega))) ?_
        refine WC.skip ?_
        refine QF.seqNext ?_
        refine WC.region ?_
        refine WL.v (RV.move rfl) rfl ?_
        refine WL.v (RV.move rfl) rfl ?_
        refine WL.v (RV.lenS Tryz.underlying9 rfl) rfl ?_
        refine WL.v (RV.add rfl rfl (Fit.i64 (by omega))) rfl ?_
        refine WL.v (RV.assign rfl) rfl ?_
        refine WL.nil ?_
        refine QF.blockNormal ?_
        refine QF.seqNext ?_
        refine WC.region ?_
        refine WL.v (RV.add rfl rfl (Fit.i64 (by omega))) rfl ?_
        refine WL.v (RV.move rfl) rfl ?_
        refine WL.nil ?_
        rw [show ((m + 1 + (accM (fun x : List UInt8 => x) [] l i).length : Nat) : Int) + (((nth l i).length : Nat) : Int) = ((m + 1 + (accM (fun x : List UInt8 => x) [] l (i + 1)).length : Nat) : Int) from by omega]
        refine QF.next (i + 1) (hlt) (by omega) ⟨rfl, rfl, rfl, rfl, rfl, rfl, trivial⟩ rfl
      · intro hge
        obtain rfl : i = l.length := by have := of_decide_eq_false hge; omega
        refine WC.exit ?_
        refine QF.thenExit ?_
        refine QF.thenExit ?_
        refine QF.blockHit ?_
        refine QF.seqNext ?_
        refine WC.seq ?_
        refine WC.region ?_
        refine WL.allocO (Rng.start w) 1 (by omega) (Tryz.zeroValue177 _) rfl ?_
        intro bb w1 O1 hb1 hU1 hR1 hE1
        refine WL.nil ?_
        refine QF.seqNext ?_
        refine WC.seq ?_
        refine WC.region ?_
        refine WL.v (RV.move rfl) rfl ?_
        refine WL.call Tryz.call132 rfl (bGrow_ret O1 w.heap.size 1 bb 2 _ w1 hR1 hb1 (by decide) (by decide) (by decide) (by omega)) rfl ?_
        rintro _ w2 ⟨O2, hB2, hU2, hR2⟩
        have hUt2 : Upd (fun k => k = 1 ∨ k = 2) (fun _ => 0) w O2 w2 := (hU1.mono (fun _ e => .inl e) (by decide)).trans hU2
        have h2 := h.ext hUt2.ext
        have m2 := h2.ld (i := 0) (by omega)
        have hx0 : (nth l 0).length ≤ 30000 := hx _ (by rw [nth_eq (by omega)]; exact List.getElem_mem _)
        refine WL.nil ?_
        refine QF.seqNext ?_
        refine WC.seq ?_
        refine WC.region ?_
        refine WL.v (RV.move rfl) rfl ?_
        refine WL.v (RV.indexAddr h2 Tryz.underlying44 (Tryz.sizeOf9 _) rfl rfl 0 rfl (by omega)) rfl ?_
        refine WL.v (RV.load (by first | exact m2) (Tryz.isAgg9 _) rfl) rfl ?_
        refine WL.call Tryz.call133 rfl (writeString_ret O2 w.heap.size 1 bb 2 [] (nth l 0) w2 hR2 hB2 (by decide) (by decide) (by decide) (by simp; omega)) rfl ?_
        rintro _ w3 ⟨O3, hB3, hU3, hR3⟩
        have hUt3 := hUt2.trans hU3
        have h3 := h.ext hUt3.ext
        have ht : ∀ W, Sl encS1 1 W sv l → Sl encS1 1 W (sliceV sv 1 1 l.length) (l.drop 1) := fun W hW => by
          have := hW.slice (lo := 1) (hi := l.length) (by omega) (Nat.le_refl _)
          rwa [List.take_length] at this
        have t3 := ht _ h3
        have htl : (l.drop 1).length = m + 1 := by simp; omega
        refine WL.nil ?_
        refine QF.seqNext ?_
        refine WC.seq ?_
        refine WC.seq ?_
        refine WC.region ?_
        refine WL.v (RV.move rfl) rfl ?_
        refine WL.v (RV.sliceLo h3 Tryz.underlying44 (Tryz.sizeOf9 _) rfl rfl 1 rfl (by omega)) rfl ?_
        refine WL.v (RV.len (by first | exact t3 | exact h3) Tryz.underlying44 rfl) rfl ?_
        refine WL.v (RV.move rfl) rfl ?_
        refine WL.nil ?_
        refine QF.seqNext ?_
        refine WC.block ?_
        refine WC.loop (fun y : Nat × (Nat → Nat) × World => [(1, .string (bs [c])), (8, .pointer (some ⟨bb, 0, none⟩)), (63, sliceV sv 1 1 l.length), (64, .int .i64 (l.drop 1).length), (65, .int .i64 y.1)]) (fun y : Nat × (Nat → Nat) × World => y.2.2) (fun y : Nat × (Nat → Nat) × World => y.1 ≤ (l.drop 1).length ∧ Bld y.2.1 y.2.2 1 bb 2 (accM (fun x => [c] ++ x) (nth l 0) (l.drop 1) y.1) ∧ Upd (fun k => k = 1 ∨ k = 2) (fun _ => 0) w y.2.1 y.2.2 ∧ Rng w.heap.size y.2.1 y.2.2) (fun y : Nat × (Nat → Nat) × World => (l.drop 1).length - y.1) (0, O3, w3) (⟨Nat.zero_le _, hB3, hUt3, hR3⟩) ⟨rfl, rfl, rfl, rfl, rfl, trivial⟩ rfl ?_
        rintro ⟨i, O4, w4⟩ ⟨hi4, hB4, hUt4, hR4⟩
        dsimp only at hi4 hB4 hUt4 hR4 ⊢
        have t4 := ht _ (h.ext hUt4.ext)
        have hal : (accM (fun x => [c] ++ x) (nth l 0) (l.drop 1) i).length ≤ (nth l 0).length + 30001 * (l.drop 1).length := accM_len fun x hxm => by
          have := hx x (List.mem_of_mem_drop hxm)
          simp; omega
        refine WC.seq ?_
        refine WC.region ?_
        refine WL.v (RV.lss rfl rfl) rfl ?_
        refine WL.nil ?_
        refine QF.seqNext ?_
        refine WC.seq ?_
        refine WC.cond rfl ?_ ?_
        · intro hlt
          replace hlt : i < (l.drop 1).length := by have := of_decide_eq_true hlt; omega
          have m4 := t4.ld hlt
          have hxi : (nth (l.drop 1) i).length ≤ 30000 := hx _ (by rw [nth_eq hlt]; exact List.mem_of_mem_drop (List.getElem_mem _))
          refine WC.skip ?_
          refine QF.seqNext ?_
          refine WC.seq ?_
          refine WC.block ?_
          refine WC.seq ?_
          refine WC.region ?_
          refine WL.v (RV.indexAddr (by first | exact t4) Tryz.underlying44 (Tryz.sizeOf9 _) rfl rfl _ rfl (by omega)) rfl ?_
          refine WL.v (RV.load (by first | exact m4) (Tryz.isAgg9 _) rfl) rfl ?_
          refine WL.v (RV.assign rfl) rfl ?_
          refine WL.nil ?_
          refine QF.seqNext ?_
          refine WC.seq ?_
          refine WC.region ?_
          refine WL.v (RV.move rfl) rfl ?_
          refine WL.call Tryz.call133 rfl (writeString_ret O4 w.heap.size 1 bb 2 _ [c] w4 hR4 hB4 (by decide) (by decide) (by decide) (by rw [hc1]; omega)) rfl ?_
          rintro _ w5 ⟨O5, hB5, hU5, hR5⟩
          refine WL.nil ?_
          refine QF.seqNext ?_
          refine WC.region ?_
          refine WL.v (RV.move rfl) rfl ?_
          refine WL.call Tryz.call133 rfl (writeString_ret O5 w.heap.size 1 bb 2 _ (nth (l.drop 1) i) w5 hR5 hB5 (by decide) (by decide) (by decide) (by rw [List.length_append, hc1]; omega)) rfl ?_
          rintro _ w6 ⟨O6, hB6, hU6, hR6⟩
          rw [List.append_assoc, show accM (fun x => [c] ++ x) (nth l 0) (l.drop 1) i ++ ([c] ++ nth (l.drop 1) i) = accM (fun x => [c] ++ x) (nth l 0) (l.drop 1) (i + 1) from (accM_succ hlt).symm] at hB6
          refine WL.nil ?_
          refine QF.blockNormal ?_
          refine QF.seqNext ?_
          refine WC.region ?_
          refine WL.v (RV.add rfl rfl (Fit.i64 (by omega))) rfl ?_
          refine WL.v (RV.move rfl) rfl ?_
          refine WL.nil ?_
          refine QF.next ((i + 1, O6, w6)) (⟨hlt, hB6, (hUt4.trans hU5).trans hU6, hR6⟩) (by dsimp only; omega) ⟨rfl, rfl, rfl, rfl, rfl, trivial⟩ rfl
        · intro hge
          obtain rfl : i = (l.drop 1).length := by have := of_decide_eq_false hge; omega
          rw [accM_all] at hB4
          refine WC.exit ?_
          refine QF.thenExit ?_
          refine QF.thenExit ?_
          refine QF.blockHit ?_
          refine QF.seqNext ?_
          refine WC.seq ?_
          refine WC.region ?_
          refine WL.call Tryz.call134 rfl (bldString_ret O4 1 bb 2 _ w4 hB4 (by decide) (by decide)) rfl ?_
          rintro v w5 ⟨rfl, O5, hU5⟩
          have hj : nth l 0 ++ (l.drop 1).flatMap (fun x => [c] ++ x) = joinM [c] l := by rw [hll, nth_cons0]; rfl
          rw [hj]
          refine WL.v (RV.assign rfl) rfl ?_
          refine WL.nil ?_
          refine QF.seqNext ?_
          refine WC.ret ?_
          refine QF.done1 rfl rfl (⟨rfl, (hUt4.trans (hU5.mono (fun _ e => .inr e) (by decide))).ext⟩)
end Go.Proofs.YtmohcfjopaccdaaGreatDoor
