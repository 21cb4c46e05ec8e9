/- Package virguleref06, walked: Same. -/
import Derived.Test.YtmohcfjopaccdaaGreatDoorRsB
namespace Go.Proofs.YtmohcfjopaccdaaGreatDoor
open Go.VL Go.Proofs
set_option maxRecDepth 10000

theorem eqI_all {l l' : List Int} (h : l.length = l'.length) (k : ∀ i, i < l.length → nth l i = nth l' i) : eqI l l' = true := by
  unfold eqI
  rw [decide_eq_true h, allN_all fun i hi => beq_iff_eq.2 (k i hi)]; rfl
theorem refSame_ret (li lk li' lk' : List Int) (ts ts' : List R3) (v v' : Value) (w : World) (h : Tx w v li lk ts) (h' : Tx w v' li' lk' ts') : Ret Tryz.prog 17 [v, v'] w fun u w' => u = .bool (sameT li lk ts li' lk' ts') ∧ Ext w w' := by
  obtain ⟨ig, kp, ru, xs, rfl, h1, h2, h3, h4, h5⟩ := h
  obtain ⟨ig', kp', ru', ys, rfl, h1', h2', h3', h4', h5'⟩ := h'
  have o1 := h1.one
  have o2 := h2.one
  have o3 := h3.one
  have o1' := h1'.one
  have o2' := h2'.one
  have o3' := h3'.one
  have q1 := h1.len_le
  have q2 := h2.len_le
  have q3 := h3.len_le
  have q1' := h1'.len_le
  have q2' := h2'.len_le
  have q3' := h3'.len_le
  have hrs : sameRs ts ts' = (decide (xs.length = ys.length) && allN (fun i => sameR (nth ts i) (nth ts' i)) xs.length) := by unfold sameRs; rw [h4, h4']
  refine Ret.enter Tryz.func17 Tryz.ntmps17 rfl rfl ?_
  refine WC.seq ?_
  refine WC.region ?_
  refine WL.boxO (Rng.start w) 1 (by omega) rfl rfl ?_
  intro xb w1 O1 hx1 hU1 hR1 hE1
  refine WL.boxO hR1 2 (by omega) rfl rfl ?_
  intro yb w2 O2 hy2 hU2 hR2 hE2
  have hx2 := hx1.upd hU2 (by decide) (by decide)
  have hE := hE1.trans hE2
  have c0 : w2.cell? ((⟨xb, 0, none⟩ : Addr).add 0) = some ig := hx2.cell 0 rfl
  have c1 : w2.cell? ((⟨xb, 0, none⟩ : Addr).add 1) = some kp := hx2.cell 1 rfl
  have c2 : w2.cell? ((⟨xb, 0, none⟩ : Addr).add 2) = some ru := hx2.cell 2 rfl
  have d0 : w2.cell? ((⟨yb, 0, none⟩ : Addr).add 0) = some ig' := hy2.cell 0 rfl
  have d1 : w2.cell? ((⟨yb, 0, none⟩ : Addr).add 1) = some kp' := hy2.cell 1 rfl
  have d2 : w2.cell? ((⟨yb, 0, none⟩ : Addr).add 2) = some ru' := hy2.cell 2 rfl
  have g1 := h1.ext hE
  have g2 := h2.ext hE
  have g3 := h3.ext hE
  have g1' := h1'.ext hE
  have g2' := h2'.ext hE
  have g3' := h3'.ext hE
  refine WL.v (RV.assign rfl) rfl ?_
  refine WL.nil ?_
  refine QF.seqNext ?_
  refine WC.seq ?_
  refine WC.seq ?_
  refine WC.region ?_
  refine WL.v (RV.fieldAddr 0 Tryz.underlying34 rfl rfl (Tryz.sizeOf23 _) (by decide) rfl) rfl ?_
  refine WL.v (RV.load (by first | exact c0 | exact c1 | exact c2 | exact d0 | exact d1 | exact d2) (Tryz.isAgg23 _) rfl) rfl ?_
  refine WL.v (RV.len (by first | exact g1 | exact g2 | exact g3 | exact g1' | exact g2' | exact g3') Tryz.underlying23 rfl) rfl ?_
  refine WL.v (RV.fieldAddr 0 Tryz.underlying34 rfl rfl (Tryz.sizeOf23 _) (by decide) rfl) rfl ?_
  refine WL.v (RV.load (by first | exact c0 | exact c1 | exact c2 | exact d0 | exact d1 | exact d2) (Tryz.isAgg23 _) rfl) rfl ?_
  refine WL.v (RV.len (by first | exact g1 | exact g2 | exact g3 | exact g1' | exact g2' | exact g3') Tryz.underlying23 rfl) rfl ?_
  refine WL.v (RV.neq rfl rfl) rfl ?_
  refine WL.v (RV.move rfl) rfl ?_
  refine WL.orBS (fun w1 => _ = w1) (((lk.length : Int) != (lk'.length : Int))) 7 (rfl) rfl rfl rfl rfl rfl ?_ ?_
  · skip
    intro a1
    refine WL.on rfl ?_
    refine WL.v (RV.fieldAddr 1 Tryz.underlying34 rfl rfl (Tryz.sizeOf23 _) (by decide) rfl) rfl ?_
    refine WL.on rfl ?_
    refine WL.v (RV.load (by first | exact c0 | exact c1 | exact c2 | exact d0 | exact d1 | exact d2) (Tryz.isAgg23 _) rfl) rfl ?_
    refine WL.on rfl ?_
    refine WL.v (RV.len (by first | exact g1 | exact g2 | exact g3 | exact g1' | exact g2' | exact g3') Tryz.underlying23 rfl) rfl ?_
    refine WL.on rfl ?_
    refine WL.v (RV.fieldAddr 1 Tryz.underlying34 rfl rfl (Tryz.sizeOf23 _) (by decide) rfl) rfl ?_
    refine WL.on rfl ?_
    refine WL.v (RV.load (by first | exact c0 | exact c1 | exact c2 | exact d0 | exact d1 | exact d2) (Tryz.isAgg23 _) rfl) rfl ?_
    refine WL.on rfl ?_
    refine WL.v (RV.len (by first | exact g1 | exact g2 | exact g3 | exact g1' | exact g2' | exact g3') Tryz.underlying23 rfl) rfl ?_
    refine WL.on rfl ?_
    refine WL.v (RV.neq rfl rfl) rfl ?_
    refine WL.nil ?_
    refine QF.andEnd (tA := 17) 8 (rfl) rfl rfl rfl (fun v hv => (Option.some.inj hv).symm.trans (congrArg Value.bool a1)) rfl
  rintro _ rfl
  refine WL.v (RV.move rfl) rfl ?_
  refine WL.orBS (fun w1 => _ = w1) (((xs.length : Int) != (ys.length : Int))) 7 (rfl) rfl rfl rfl rfl rfl ?_ ?_
  · skip
    intro a2
    refine WL.on rfl ?_
    refine WL.v (RV.fieldAddr 2 Tryz.underlying34 rfl rfl (Tryz.sizeOf32 _) (by decide) rfl) rfl ?_
    refine WL.on rfl ?_
    refine WL.v (RV.load (by first | exact c0 | exact c1 | exact c2 | exact d0 | exact d1 | exact d2) (Tryz.isAgg32 _) rfl) rfl ?_
    refine WL.on rfl ?_
    refine WL.v (RV.len (by first | exact g1 | exact g2 | exact g3 | exact g1' | exact g2' | exact g3') Tryz.underlying32 rfl) rfl ?_
    refine WL.on rfl ?_
    refine WL.v (RV.fieldAddr 2 Tryz.underlying34 rfl rfl (Tryz.sizeOf32 _) (by decide) rfl) rfl ?_
    refine WL.on rfl ?_
    refine WL.v (RV.load (by first | exact c0 | exact c1 | exact c2 | exact d0 | exact d1 | exact d2) (Tryz.isAgg32 _) rfl) rfl ?_
    refine WL.on rfl ?_
    refine WL.v (RV.len (by first | exact g1 | exact g2 | exact g3 | exact g1' | exact g2' | exact g3') Tryz.underlying32 rfl) rfl ?_
    refine WL.on rfl ?_
    refine WL.v (RV.neq rfl rfl) rfl ?_
    refine WL.nil ?_
    refine QF.andEnd (tA := 26) 8 (rfl) rfl rfl rfl (fun v hv => (Option.some.inj hv).symm.trans (congrArg Value.bool a2)) rfl
  rintro _ rfl
  refine WL.nil ?_
  refine QF.seqNext ?_
  refine WC.cond rfl ?_ ?_
  · intro hd
    simp only [Bool.or_eq_true, bne_iff_ne] at hd
    have hv : sameT li lk ts li' lk' ts' = false := by
      unfold sameT
      rw [hrs]
      rcases hd with (hd | hd) | hd
      · rw [eqI_len (fun e => hd (by rw [e]))]; rfl
      · rw [eqI_len (l := lk) (fun e => hd (by rw [e]))]; simp
      · rw [decide_eq_false (show ¬ xs.length = ys.length from fun e => hd (by rw [e]))]; simp
    refine WC.seq ?_
    refine WC.region ?_
    refine WL.v (RV.assign rfl) rfl ?_
    refine WL.nil ?_
    refine QF.seqNext ?_
    refine WC.ret ?_
    refine QF.thenRet ?_
    refine QF.done1 rfl rfl (⟨by rw [hv], hE⟩)
  · intro hd
    simp only [Bool.or_eq_false_iff, bne_eq_false_iff_eq] at hd
    obtain ⟨⟨l1, l2⟩, l3⟩ := hd
    replace l1 : li.length = li'.length := by omega
    replace l2 : lk.length = lk'.length := by omega
    replace l3 : xs.length = ys.length := by omega
    refine WC.skip ?_
    refine QF.seqNext ?_
    refine WC.seq ?_
    refine WC.seq ?_
    refine WC.region ?_
    refine WL.v (RV.assign rfl) rfl ?_
    refine WL.nil ?_
    refine QF.seqNext ?_
    refine WC.block ?_
    refine WC.loop (fun y : Nat × World => [(2, .pointer (some ⟨xb, 0, none⟩)), (3, .pointer (some ⟨yb, 0, none⟩)), (5, .int .i64 y.1)]) (fun y : Nat × World => y.2) (fun y : Nat × World => y.1 ≤ li.length ∧ Ext w2 y.2 ∧ ∀ i, i < y.1 → nth li i = nth li' i) (fun y : Nat × World => li.length - y.1) (0, w2) (⟨Nat.zero_le _, Ext.refl _, fun i hi => absurd hi (Nat.not_lt_zero i)⟩) ⟨rfl, rfl, rfl, trivial⟩ rfl ?_
    rintro ⟨i, w3⟩ ⟨hi, hE3, hyes⟩
    dsimp only at hi hE3 hyes ⊢
    have e1 := hE3.cell c0
    have e2 := hE3.cell d0
    have k1 := (h1.ext hE).ext hE3
    have k2 := (h1'.ext hE).ext hE3
    refine WC.seq ?_
    refine WC.seq ?_
    refine WC.region ?_
    refine WL.v (RV.move rfl) rfl ?_
    refine WL.v (RV.fieldAddr 0 Tryz.underlying34 rfl rfl (Tryz.sizeOf23 _) (by decide) rfl) rfl ?_
    refine WL.v (RV.load (by first | exact e1 | exact e2) (Tryz.isAgg23 _) rfl) rfl ?_
    refine WL.v (RV.len (by first | exact k1 | exact k2) Tryz.underlying23 rfl) rfl ?_
    refine WL.v (RV.lss rfl rfl) rfl ?_
    refine WL.nil ?_
    refine QF.seqNext ?_
    refine WC.cond rfl ?_ ?_
    · intro hlt
      replace hlt : i < li.length := by have := of_decide_eq_true hlt; omega
      have hlt2 : i < li'.length := by omega
      have m1 := k1.ld hlt
      have m2 := k2.ld hlt2
      refine WC.skip ?_
      refine QF.seqNext ?_
      refine WC.seq ?_
      refine WC.block ?_
      refine WC.seq ?_
      refine WC.still (by kernel_rfl) (by kernel_rfl) ?_
      refine WS.v (RV.fieldAddr 0 Tryz.underlying34 rfl rfl (Tryz.sizeOf23 _) (by decide) rfl) rfl ?_
      refine WS.v (RV.load (by first | exact e1 | exact e2 | exact m1 | exact m2) (Tryz.isAgg23 _) rfl) rfl ?_
      refine WS.v (RV.move rfl) rfl ?_
      refine WS.v (RV.indexAddr (by first | exact (k1).drew | exact (k2).drew) Tryz.underlying23 (Tryz.sizeOf3 _) rfl rfl _ rfl (by omega)) rfl ?_
      refine WS.v (RV.load (by first | exact e1 | exact e2 | exact m1 | exact m2) (Tryz.isAgg3 _) rfl) rfl ?_
      refine WS.v (RV.fieldAddr 0 Tryz.underlying34 rfl rfl (Tryz.sizeOf23 _) (by decide) rfl) rfl ?_
      refine WS.v (RV.load (by first | exact e1 | exact e2 | exact m1 | exact m2) (Tryz.isAgg23 _) rfl) rfl ?_
      refine WS.v (RV.move rfl) rfl ?_
      refine WS.v (RV.indexAddr (by first | exact (k1).drew | exact (k2).drew) Tryz.underlying23 (Tryz.sizeOf3 _) rfl rfl _ rfl (by omega)) rfl ?_
      refine WS.v (RV.load (by first | exact e1 | exact e2 | exact m1 | exact m2) (Tryz.isAgg3 _) rfl) rfl ?_
      refine WS.v (RV.neq rfl rfl) rfl ?_
      refine WS.nil ?_
      refine QF.seqNext ?_
      refine WC.cond rfl ?_ ?_
      · intro hy
        replace hy : nth li i ≠ nth li' i := by simpa using hy
        refine WC.seq ?_
        refine WC.region ?_
        refine WL.v (RV.assign rfl) rfl ?_
        refine WL.nil ?_
        refine QF.seqNext ?_
        refine WC.ret ?_
        refine QF.blockRet ?_
        refine QF.thenRet ?_
        refine QF.thenRet ?_
        refine QF.blockRet ?_
        refine QF.thenRet ?_
        refine QF.done1 rfl rfl (⟨by unfold sameT; rw [eqI_at hlt hy]; simp, (hE.trans hE3).drew⟩)
      · intro hy
        replace hy : nth li i = nth li' i := by simpa using hy
        refine WC.skip ?_
        refine QF.blockNormal ?_
        refine QF.seqNext ?_
        refine WC.region ?_
        refine WL.v (RV.move rfl) rfl ?_
        refine WL.v (RV.add rfl rfl (Fit.i64 (by omega))) rfl ?_
        refine WL.v (RV.assign rfl) rfl ?_
        refine WL.nil ?_
        refine QF.next ((i + 1, w3.drew)) (⟨hlt, hE3.drew, fun j hj => (Nat.lt_succ_iff_lt_or_eq.1 hj).elim (hyes j) (fun e => by rw [e]; exact hy)⟩) (by dsimp only; omega) ⟨rfl, rfl, rfl, trivial⟩ rfl
    · intro hge
      replace hge : li.length ≤ i := by have := of_decide_eq_false hge; omega
      have t1 : eqI li li' = true := eqI_all l1 fun j hj => hyes j (by omega)
      clear hyes hi hge e1 e2 k1 k2
      refine WC.exit ?_
      refine QF.thenExit ?_
      refine QF.thenExit ?_
      refine QF.blockHit ?_
      refine QF.seqNext ?_
      refine WC.seq ?_
      refine WC.seq ?_
      refine WC.region ?_
      refine WL.v (RV.assign rfl) rfl ?_
      refine WL.nil ?_
      refine QF.seqNext ?_
      refine WC.block ?_
      refine WC.loop (fun y : Nat × World => [(2, .pointer (some ⟨xb, 0, none⟩)), (3, .pointer (some ⟨yb, 0, none⟩)), (6, .int .i64 y.1)]) (fun y : Nat × World => y.2) (fun y : Nat × World => y.1 ≤ lk.length ∧ Ext w2 y.2 ∧ ∀ i, i < y.1 → nth lk i = nth lk' i) (fun y : Nat × World => lk.length - y.1) (0, w3) (⟨Nat.zero_le _, hE3, fun i hi => absurd hi (Nat.not_lt_zero i)⟩) ⟨rfl, rfl, rfl, trivial⟩ rfl ?_
      rintro ⟨i, w3⟩ ⟨hi, hE3, hyes⟩
      dsimp only at hi hE3 hyes ⊢
      have e1 := hE3.cell c1
      have e2 := hE3.cell d1
      have k1 := (h2.ext hE).ext hE3
      have k2 := (h2'.ext hE).ext hE3
      refine WC.seq ?_
      refine WC.seq ?_
      refine WC.region ?_
      refine WL.v (RV.move rfl) rfl ?_
      refine WL.v (RV.fieldAddr 1 Tryz.underlying34 rfl rfl (Tryz.sizeOf23 _) (by decide) rfl) rfl ?_
      refine WL.v (RV.load (by first | exact e1 | exact e2) (Tryz.isAgg23 _) rfl) rfl ?_
      refine WL.v (RV.len (by first | exact k1 | exact k2) Tryz.underlying23 rfl) rfl ?_
      refine WL.v (RV.lss rfl rfl) rfl ?_
      refine WL.nil ?_
      refine QF.seqNext ?_
      refine WC.cond rfl ?_ ?_
      · intro hlt
        replace hlt : i < lk.length := by have := of_decide_eq_true hlt; omega
        have hlt2 : i < lk'.length := by omega
        have m1 := k1.ld hlt
        have m2 := k2.ld hlt2
        refine WC.skip ?_
        refine QF.seqNext ?_
        refine WC.seq ?_
        refine WC.block ?_
        refine WC.seq ?_
        refine WC.still (by kernel_rfl) (by kernel_rfl) ?_
        refine WS.v (RV.fieldAddr 1 Tryz.underlying34 rfl rfl (Tryz.sizeOf23 _) (by decide) rfl) rfl ?_
        refine WS.v (RV.load (by first | exact e1 | exact e2 | exact m1 | exact m2) (Tryz.isAgg23 _) rfl) rfl ?_
        refine WS.v (RV.move rfl) rfl ?_
        refine WS.v (RV.indexAddr (by first | exact (k1).drew | exact (k2).drew) Tryz.underlying23 (Tryz.sizeOf3 _) rfl rfl _ rfl (by omega)) rfl ?_
        refine WS.v (RV.load (by first | exact e1 | exact e2 | exact m1 | exact m2) (Tryz.isAgg3 _) rfl) rfl ?_
        refine WS.v (RV.fieldAddr 1 Tryz.underlying34 rfl rfl (Tryz.sizeOf23 _) (by decide) rfl) rfl ?_
        refine WS.v (RV.load (by first | exact e1 | exact e2 | exact m1 | exact m2) (Tryz.isAgg23 _) rfl) rfl ?_
        refine WS.v (RV.move rfl) rfl ?_
        refine WS.v (RV.indexAddr (by first | exact (k1).drew | exact (k2).drew) Tryz.underlying23 (Tryz.sizeOf3 _) rfl rfl _ rfl (by omega)) rfl ?_
        refine WS.v (RV.load (by first | exact e1 | exact e2 | exact m1 | exact m2) (Tryz.isAgg3 _) rfl) rfl ?_
        refine WS.v (RV.neq rfl rfl) rfl ?_
        refine WS.nil ?_
        refine QF.seqNext ?_
        refine WC.cond rfl ?_ ?_
        · intro hy
          replace hy : nth lk i ≠ nth lk' i := by simpa using hy
          refine WC.seq ?_
          refine WC.region ?_
          refine WL.v (RV.assign rfl) rfl ?_
          refine WL.nil ?_
          refine QF.seqNext ?_
          refine WC.ret ?_
          refine QF.blockRet ?_
          refine QF.thenRet ?_
          refine QF.thenRet ?_
          refine QF.blockRet ?_
          refine QF.thenRet ?_
          refine QF.done1 rfl rfl (⟨by unfold sameT; rw [eqI_at hlt hy]; simp, (hE.trans hE3).drew⟩)
        · intro hy
          replace hy : nth lk i = nth lk' i := by simpa using hy
          refine WC.skip ?_
          refine QF.blockNormal ?_
          refine QF.seqNext ?_
          refine WC.region ?_
          refine WL.v (RV.move rfl) rfl ?_
          refine WL.v (RV.add rfl rfl (Fit.i64 (by omega))) rfl ?_
          refine WL.v (RV.assign rfl) rfl ?_
          refine WL.nil ?_
          refine QF.next ((i + 1, w3.drew)) (⟨hlt, hE3.drew, fun j hj => (Nat.lt_succ_iff_lt_or_eq.1 hj).elim (hyes j) (fun e => by rw [e]; exact hy)⟩) (by dsimp only; omega) ⟨rfl, rfl, rfl, trivial⟩ rfl
      · intro hge
        replace hge : lk.length ≤ i := by have := of_decide_eq_false hge; omega
        have t2 : eqI lk lk' = true := eqI_all l2 fun j hj => hyes j (by omega)
        clear hyes hi hge e1 e2 k1 k2
        have hz : ∀ b, sameRs ts ts' = b → sameT li lk ts li' lk' ts' = b := fun b e => by unfold sameT; rw [t1, t2, e]; rfl
        refine WC.exit ?_
        refine QF.thenExit ?_
        refine QF.thenExit ?_
        refine QF.blockHit ?_
        refine QF.seqNext ?_
        refine WC.seq ?_
        refine WC.seq ?_
        refine WC.region ?_
        refine WL.v (RV.assign rfl) rfl ?_
        refine WL.nil ?_
        refine QF.seqNext ?_
        refine WC.block ?_
        refine WC.loop (fun y : Nat × World => [(2, .pointer (some ⟨xb, 0, none⟩)), (3, .pointer (some ⟨yb, 0, none⟩)), (7, .int .i64 y.1)]) (fun y : Nat × World => y.2) (fun y : Nat × World => y.1 ≤ xs.length ∧ Ext w2 y.2 ∧ ∀ i, i < y.1 → sameR (nth ts i) (nth ts' i) = true) (fun y : Nat × World => xs.length - y.1) (0, w3) (⟨Nat.zero_le _, hE3, fun i hi => absurd hi (Nat.not_lt_zero i)⟩) ⟨rfl, rfl, rfl, trivial⟩ rfl ?_
        rintro ⟨i, w4⟩ ⟨hi, hE4, hyes⟩
        dsimp only at hi hE4 hyes ⊢
        have e1 := hE4.cell c2
        have e2 := hE4.cell d2
        have k1 := (h3.ext hE).ext hE4
        have k2 := (h3'.ext hE).ext hE4
        refine WC.seq ?_
        refine WC.seq ?_
        refine WC.region ?_
        refine WL.v (RV.move rfl) rfl ?_
        refine WL.v (RV.fieldAddr 2 Tryz.underlying34 rfl rfl (Tryz.sizeOf32 _) (by decide) rfl) rfl ?_
        refine WL.v (RV.load (by first | exact e1 | exact e2) (Tryz.isAgg32 _) rfl) rfl ?_
        refine WL.v (RV.len (by first | exact k1 | exact k2) Tryz.underlying32 rfl) rfl ?_
        refine WL.v (RV.lss rfl rfl) rfl ?_
        refine WL.nil ?_
        refine QF.seqNext ?_
        refine WC.cond rfl ?_ ?_
        · intro hlt
          replace hlt : i < xs.length := by have := of_decide_eq_true hlt; omega
          have hlt2 : i < ys.length := by omega
          have ox := encR_ones (b := (nth xs i).2.2) (h5 i hlt).1.one (h5 i hlt).2.1.one
          have oy := encR_ones (b := (nth ys i).2.2) (h5' i hlt2).1.one (h5' i hlt2).2.1.one
          have hd3 : Ext w4 w4.drew := (Ext.refl w4).drew
          refine WC.skip ?_
          refine QF.seqNext ?_
          refine WC.seq ?_
          refine WC.block ?_
          refine WC.seq ?_
          refine WC.mid (fun z : World × Nat × Nat => [(2, .pointer (some ⟨xb, 0, none⟩)), (3, .pointer (some ⟨yb, 0, none⟩)), (7, .int .i64 i), (8, .pointer (some ⟨z.2.1, 0, none⟩)), (9, .pointer (some ⟨z.2.2, 0, none⟩))]) (fun z : World × Nat × Nat => z.1) (fun z : World × Nat × Nat => Ext w4 z.1 ∧ ∃ O, BlkO O z.1 1 z.2.1 (encR (nth xs i)).toArray 64 ∧ BlkO O z.1 2 z.2.2 (encR (nth ys i)).toArray 64) ?_ ?_
          · intro hN
            refine WC.draw (Ext w4) 14 rfl (by kernel_rfl) ?_
            refine WH.take 0 rfl (by kernel_rfl) (by kernel_rfl) (by kernel_rfl) hd3 (fun w1 hw1 => RV.fieldAddr 2 Tryz.underlying34 rfl rfl (Tryz.sizeOf32 _) (by decide) rfl) rfl ?_
            refine WH.take 1 rfl (by kernel_rfl) (by kernel_rfl) (by kernel_rfl) hd3 (fun w1 hw1 => RV.load (by first | exact hw1.cell e1 | exact hw1.cell e2) (Tryz.isAgg32 _) rfl) rfl ?_
            refine WH.take 2 rfl (by kernel_rfl) (by kernel_rfl) (by kernel_rfl) hd3 (fun w1 hw1 => RV.move rfl) rfl ?_
            refine WH.take 3 rfl (by kernel_rfl) (by kernel_rfl) (by kernel_rfl) hd3 (fun w1 hw1 => RV.indexAddr (by first | exact k1.ext hw1 | exact k2.ext hw1) Tryz.underlying32 (Tryz.sizeOf64 _) rfl rfl _ rfl (by omega)) rfl ?_
            refine WH.take 4 rfl (by kernel_rfl) (by kernel_rfl) (by kernel_rfl) hd3 (fun w1 hw1 => RV.loadAgg (us := encR (nth xs i)) (fun j u hu => (k1.ext hw1).cell hlt hu) (Tryz.isAgg64 _) (Tryz.sizeOf64 _) rfl) rfl ?_
            refine WH.take 5 rfl (by kernel_rfl) (by kernel_rfl) (by kernel_rfl) hd3 (fun w1 hw1 => RV.fieldAddr 2 Tryz.underlying34 rfl rfl (Tryz.sizeOf32 _) (by decide) rfl) rfl ?_
            refine WH.take 6 rfl (by kernel_rfl) (by kernel_rfl) (by kernel_rfl) hd3 (fun w1 hw1 => RV.load (by first | exact hw1.cell e1 | exact hw1.cell e2) (Tryz.isAgg32 _) rfl) rfl ?_
            refine WH.take 7 rfl (by kernel_rfl) (by kernel_rfl) (by kernel_rfl) hd3 (fun w1 hw1 => RV.move rfl) rfl ?_
            refine WH.take 8 rfl (by kernel_rfl) (by kernel_rfl) (by kernel_rfl) hd3 (fun w1 hw1 => RV.indexAddr (by first | exact k1.ext hw1 | exact k2.ext hw1) Tryz.underlying32 (Tryz.sizeOf64 _) rfl rfl _ rfl (by omega)) rfl ?_
            refine WH.take 9 rfl (by kernel_rfl) (by kernel_rfl) (by kernel_rfl) hd3 (fun w1 hw1 => RV.loadAgg (us := encR (nth ys i)) (fun j u hu => (k2.ext hw1).cell hlt2 hu) (Tryz.isAgg64 _) (Tryz.sizeOf64 _) rfl) rfl ?_
            have hRd := (Rng.start w4.drew)
            refine WH.two 10 11 (by kernel_rfl) rfl rfl ?_ ?_
            · skip
              refine WL.allocO hRd 1 (by omega) (Tryz.zeroValue64 _) rfl ?_
              intro ab w5 O5 ha5 hU5 hR5 hE5
              refine WL.nil ?_
              refine QF.after (hd3.trans hE5) ?_
              refine WH.one 11 (by kernel_rfl) rfl ?_
              refine WL.allocO hR5 2 (by omega) (Tryz.zeroValue64 _) rfl ?_
              intro bb w6' O6 hb6' hU6' hR6 hE6'
              have ha6' := ha5.upd hU6' (by decide) (by decide)
              have hUt := (hU5.mono (S' := fun q => q = 1 ∨ q = 2) (fun _ h => .inl h) (by decide)).trans (hU6'.mono (fun _ h => .inr h) (by decide))
              refine WL.nil ?_
              refine QF.after (hd3.trans hUt.ext) ?_
              refine WH.one 12 (by kernel_rfl) rfl ?_
              refine WL.storeAgg (us := (encR (nth xs i)).toArray) ha6' rfl (Tryz.sizeOf64 _) (List.all_eq_true.2 ox) rfl rfl rfl ?_
              have ha6 := BlkO.setRow (us := (encR (nth xs i)).toArray) ha6'
              have hU6 : Upd (fun q => q = 1) O6 w6' O6 (World.setRow w6' ab (encR (nth xs i)).toArray) := Upd.setRow (by decide) (BlkO.tag ha6') rfl
              have hb6 := BlkO.upd hb6' hU6 (by decide) (by decide)
              have hE6 := (Upd.trans hUt (hU6.mono (S' := fun q => q = 1 ∨ q = 2) (fun _ h => .inl h) (by decide)))
              refine WL.nil ?_
              refine QF.after (hd3.trans hE6.ext) ?_
              generalize World.setRow w6' ab (encR (nth xs i)).toArray = w6 at *
              refine WH.one 13 (by kernel_rfl) rfl ?_
              refine WL.storeAgg (us := (encR (nth ys i)).toArray) hb6 rfl (Tryz.sizeOf64 _) (List.all_eq_true.2 oy) rfl rfl rfl ?_
              have hb7 := hb6.setRow (us := (encR (nth ys i)).toArray)
              have hU7 : Upd (fun q => q = 2) O6 w6 O6 (w6.setRow bb (encR (nth ys i)).toArray) := Upd.setRow (by decide) hb6.tag rfl
              have ha7 := ha6.upd hU7 (by decide) (by decide)
              have hE7 := (hE6.trans (hU7.mono (S' := fun q => q = 1 ∨ q = 2) (fun _ h => .inr h) (by decide)))
              refine WL.nil ?_
              refine QF.after (hd3.trans hE7.ext) ?_
              refine WH.done (by kernel_rfl) ?_
              exact QF.of (hN ((w6.setRow bb (encR (nth ys i)).toArray, ab, bb)) (⟨hd3.trans hE7.ext, O6, ha7, hb7⟩)) ⟨rfl, rfl, rfl, rfl, rfl, trivial⟩ rfl
            · skip
              refine WL.allocO hRd 2 (by omega) (Tryz.zeroValue64 _) rfl ?_
              intro bb w5 O5 hb5 hU5 hR5 hE5
              refine WL.nil ?_
              refine QF.after (hd3.trans hE5) ?_
              refine WH.one 10 (by kernel_rfl) rfl ?_
              refine WL.allocO hR5 1 (by omega) (Tryz.zeroValue64 _) rfl ?_
              intro ab w6' O6 ha6' hU6' hR6 hE6'
              have hb6' := hb5.upd hU6' (by decide) (by decide)
              have hUt := (hU5.mono (S' := fun q => q = 1 ∨ q = 2) (fun _ h => .inr h) (by decide)).trans (hU6'.mono (fun _ h => .inl h) (by decide))
              refine WL.nil ?_
              refine QF.after (hd3.trans hUt.ext) ?_
              refine WH.one 12 (by kernel_rfl) rfl ?_
              refine WL.storeAgg (us := (encR (nth xs i)).toArray) ha6' rfl (Tryz.sizeOf64 _) (List.all_eq_true.2 ox) rfl rfl rfl ?_
              have ha6 := BlkO.setRow (us := (encR (nth xs i)).toArray) ha6'
              have hU6 : Upd (fun q => q = 1) O6 w6' O6 (World.setRow w6' ab (encR (nth xs i)).toArray) := Upd.setRow (by decide) (BlkO.tag ha6') rfl
              have hb6 := BlkO.upd hb6' hU6 (by decide) (by decide)
              have hE6 := (Upd.trans hUt (hU6.mono (S' := fun q => q = 1 ∨ q = 2) (fun _ h => .inl h) (by decide)))
              refine WL.nil ?_
              refine QF.after (hd3.trans hE6.ext) ?_
              generalize World.setRow w6' ab (encR (nth xs i)).toArray = w6 at *
              refine WH.one 13 (by kernel_rfl) rfl ?_
              refine WL.storeAgg (us := (encR (nth ys i)).toArray) hb6 rfl (Tryz.sizeOf64 _) (List.all_eq_true.2 oy) rfl rfl rfl ?_
              have hb7 := hb6.setRow (us := (encR (nth ys i)).toArray)
              have hU7 : Upd (fun q => q = 2) O6 w6 O6 (w6.setRow bb (encR (nth ys i)).toArray) := Upd.setRow (by decide) hb6.tag rfl
              have ha7 := ha6.upd hU7 (by decide) (by decide)
              have hE7 := (hE6.trans (hU7.mono (S' := fun q => q = 1 ∨ q = 2) (fun _ h => .inr h) (by decide)))
              refine WL.nil ?_
              refine QF.after (hd3.trans hE7.ext) ?_
              refine WH.done (by kernel_rfl) ?_
              exact QF.of (hN ((w6.setRow bb (encR (nth ys i)).toArray, ab, bb)) (⟨hd3.trans hE7.ext, O6, ha7, hb7⟩)) ⟨rfl, rfl, rfl, rfl, rfl, trivial⟩ rfl
          · rintro ⟨w5, ab, bb⟩ ⟨hE5, O5, ha5, hb5⟩
            dsimp only at hE5 ha5 hb5 ⊢
            refine QF.seqNext ?_
            obtain ⟨lx, rx, bx, _⟩ := rt_cells ha5
            obtain ⟨ly, ry, yy, _⟩ := rt_cells hb5
            have b1 := bx w5 (Ext.refl _)
            have b2 := yy w5 (Ext.refl _)
            rw [(h5 i hlt).2.2] at b1
            rw [(h5' i hlt2).2.2] at b2
            have hE05 := (hE.trans hE4).trans hE5
            refine WC.seq ?_
            refine WC.region ?_
            refine WL.v (RV.fieldAddr 6 Tryz.underlying64 rfl rfl (Tryz.sizeOf4 _) (by decide) rfl) rfl ?_
            refine WL.v (RV.load (by first | exact b1 | exact b2) (Tryz.isAgg4 _) rfl) rfl ?_
            refine WL.v (RV.fieldAddr 6 Tryz.underlying64 rfl rfl (Tryz.sizeOf4 _) (by decide) rfl) rfl ?_
            refine WL.v (RV.load (by first | exact b1 | exact b2) (Tryz.isAgg4 _) rfl) rfl ?_
            refine WL.v (RV.neqB Tryz.underlying4 rfl rfl) rfl ?_
            refine WL.v (RV.move rfl) rfl ?_
            refine WL.orBS (Ext w5) ((!(sameM (nth ts i).1 (nth ts' i).1))) 6 (Ext.refl w5) rfl rfl rfl rfl rfl ?_ ?_
            · skip
              intro a1
              refine WL.on rfl ?_
              refine WL.v (RV.fieldAddr 0 Tryz.underlying64 rfl rfl (Tryz.sizeOf62 _) (by decide) rfl) rfl ?_
              refine WL.on rfl ?_
              refine WL.v (RV.loadAgg (us := encN (nth xs i).1) (lx _ (Ext.refl _)) (Tryz.isAgg62 _) (Tryz.sizeOf62 _) rfl) rfl ?_
              refine WL.on rfl ?_
              refine WL.v (RV.fieldAddr 0 Tryz.underlying64 rfl rfl (Tryz.sizeOf62 _) (by decide) rfl) rfl ?_
              refine WL.on rfl ?_
              refine WL.v (RV.loadAgg (us := encN (nth ys i).1) (ly _ (Ext.refl _)) (Tryz.isAgg62 _) (Tryz.sizeOf62 _) rfl) rfl ?_
              refine WL.on rfl ?_
              refine WL.call Tryz.call36 rfl (rsame_ret (nsz (nth ts i).1) (nth ts i).1 (nth ts' i).1 (Nat.le_refl _) (nth xs i).1 (nth ys i).1 w5 ((h5 i hlt).1.ext hE05) ((h5' i hlt2).1.ext hE05)) rfl ?_
              rintro v w6 ⟨rfl, hE6⟩
              refine WL.on rfl ?_
              refine WL.v (RV.not rfl) rfl ?_
              refine WL.nil ?_
              refine QF.andEnd (tA := 93) 7 (hE6) rfl rfl rfl (fun v hv => (Option.some.inj hv).symm.trans (congrArg Value.bool a1)) rfl
            intro w6 hE6
            refine WL.v (RV.move rfl) rfl ?_
            refine WL.orBS (Ext w5) ((!(sameM (nth ts i).2.1 (nth ts' i).2.1))) 6 (hE6) rfl rfl rfl rfl rfl ?_ ?_
            · skip
              intro a2
              refine WL.on rfl ?_
              refine WL.v (RV.fieldAddr 3 Tryz.underlying64 rfl rfl (Tryz.sizeOf62 _) (by decide) rfl) rfl ?_
              refine WL.on rfl ?_
              refine WL.v (RV.loadAgg (us := encN (nth xs i).2.1) (rx _ hE6) (Tryz.isAgg62 _) (Tryz.sizeOf62 _) rfl) rfl ?_
              refine WL.on rfl ?_
              refine WL.v (RV.fieldAddr 3 Tryz.underlying64 rfl rfl (Tryz.sizeOf62 _) (by decide) rfl) rfl ?_
              refine WL.on rfl ?_
              refine WL.v (RV.loadAgg (us := encN (nth ys i).2.1) (ry _ hE6) (Tryz.isAgg62 _) (Tryz.sizeOf62 _) rfl) rfl ?_
              refine WL.on rfl ?_
              refine WL.call Tryz.call36 rfl (rsame_ret (nsz (nth ts i).2.1) (nth ts i).2.1 (nth ts' i).2.1 (Nat.le_refl _) (nth xs i).2.1 (nth ys i).2.1 _ ((h5 i hlt).2.1.ext (hE05.trans hE6)) ((h5' i hlt2).2.1.ext (hE05.trans hE6))) rfl ?_
              rintro v w7 ⟨rfl, hE7⟩
              refine WL.on rfl ?_
              refine WL.v (RV.not rfl) rfl ?_
              refine WL.nil ?_
              refine QF.andEnd (tA := 101) 7 (hE6.trans hE7) rfl rfl rfl (fun v hv => (Option.some.inj hv).symm.trans (congrArg Value.bool a2)) rfl
            intro w7 hE7
            have hsr : sameR (nth ts i) (nth ts' i) = !(((!((nth ts i).2.2 == (nth ts' i).2.2)) || (!(sameM (nth ts i).1 (nth ts' i).1))) || (!(sameM (nth ts i).2.1 (nth ts' i).2.1))) := by
              unfold sameR
              cases (nth ts i).2.2 <;> cases (nth ts' i).2.2 <;> cases sameM (nth ts i).1 (nth ts' i).1 <;> cases sameM (nth ts i).2.1 (nth ts' i).2.1 <;> rfl
            refine WL.nil ?_
            refine QF.seqNext ?_
            refine WC.cond rfl ?_ ?_
            · intro hy
              rw [hy] at hsr
              refine WC.seq ?_
              refine WC.region ?_
              refine WL.v (RV.assign rfl) rfl ?_
              refine WL.nil ?_
              refine QF.seqNext ?_
              refine WC.ret ?_
              refine QF.blockRet ?_
              refine QF.thenRet ?_
              refine QF.thenRet ?_
              refine QF.blockRet ?_
              refine QF.thenRet ?_
              refine QF.done1 rfl rfl (⟨by rw [hz false (by rw [hrs, allN_no hlt hsr, Bool.and_false])], hE05.trans hE7⟩)
            · intro hy
              rw [hy] at hsr
              refine WC.skip ?_
              refine QF.blockNormal ?_
              refine QF.seqNext ?_
              refine WC.region ?_
              refine WL.v (RV.move rfl) rfl ?_
              refine WL.v (RV.add rfl rfl (Fit.i64 (by omega))) rfl ?_
              refine WL.v (RV.assign rfl) rfl ?_
              refine WL.nil ?_
              refine QF.next ((i + 1, w7)) (⟨hlt, (hE4.trans hE5).trans hE7, fun j hj => (Nat.lt_succ_iff_lt_or_eq.1 hj).elim (hyes j) (fun e => by rw [e]; exact hsr)⟩) (by dsimp only; omega) ⟨rfl, rfl, rfl, trivial⟩ rfl
        · intro hge
          replace hge : xs.length ≤ i := by have := of_decide_eq_false hge; omega
          refine WC.exit ?_
          refine QF.thenExit ?_
          refine QF.thenExit ?_
          refine QF.blockHit ?_
          refine QF.seqNext ?_
          refine WC.seq ?_
          refine WC.region ?_
          refine WL.v (RV.assign rfl) rfl ?_
          refine WL.nil ?_
          refine QF.seqNext ?_
          refine WC.ret ?_
          refine QF.done1 rfl rfl (⟨by rw [hz true (by rw [hrs, decide_eq_true l3, allN_all fun j hj => hyes j (by omega)]; rfl)], hE.trans hE4⟩)
end Go.Proofs.YtmohcfjopaccdaaGreatDoor
