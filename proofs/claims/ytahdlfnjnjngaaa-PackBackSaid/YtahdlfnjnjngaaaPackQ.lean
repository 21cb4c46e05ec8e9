/- Package pack, walked: Right; and what is packed is right. -/
import Derived.Test.YtahdlfnjnjngaaaPackN
namespace Go.Proofs.Ytahdlfnjnjngaaa
open Go.VL Go.Proofs

def rightM (p : PSt) : Bool :=
  !(decide (p.width < 1) || decide (64 < p.width) || decide ((1000 : Int) < p.usual.length) || ((p.base.length : Int) != p.usual.length)) &&
  !((p.check.length : Int) != p.next.length || decide ((65599 : Int) < p.check.length)) &&
  (inB 0 65535 p.usual && inB 0 65535 p.base && inB 0 65535 p.next && inB (-1) ((p.usual.length : Int) - 1) p.check)

theorem right_ret (p : PSt) (pv : Value) (w : World) (hp : PkV w pv p) :
    Ret Try.prog 14 [pv] w fun v w' => v = .bool (rightM p) ∧ Ext w w' := by
  obtain ⟨u1, b1, k1, n1, rfl, hu1, hb1, hk1, hn1⟩ := hp
  have hum := hu1.len_le
  refine Ret.enter Try.func14 Try.ntmps14 rfl rfl ?_
  refine WC.seq ?_
  refine WC.region ?_
  refine WL.boxO (Rng.start w) 1 (by omega) rfl rfl ?_
  intro x1 w1 O1 hx1 hU1 hR1 hE1
  replace hu1 := hu1.ext hE1
  replace hb1 := hb1.ext hE1
  replace hk1 := hk1.ext hE1
  replace hn1 := hn1.ext hE1
  refine WL.v (RV.assign rfl) rfl ?_
  refine WL.nil ?_
  refine QF.seqNext ?_
  refine WC.seq ?_
  refine WC.region ?_
  refine WL.v (RV.fieldAddr 1 Try.underlying27 rfl rfl (Try.sizeOf25 _) (by decide) rfl) rfl ?_
  refine WL.v (RV.load (by first | exact hx1.cell 0 rfl | exact hx1.cell 1 rfl | exact hx1.cell 2 rfl | exact hx1.cell 3 rfl | exact hx1.cell 4 rfl) (Try.isAgg25 _) rfl) rfl ?_
  refine WL.v (RV.len (by first | exact hu1 | exact hb1 | exact hk1 | exact hn1) Try.underlying25 rfl) rfl ?_
  refine WL.v (RV.assign rfl) rfl ?_
  refine WL.nil ?_
  refine QF.seqNext ?_
  refine WC.seq ?_
  refine WC.block ?_
  refine WC.seq ?_
  refine WC.region ?_
  refine WL.v (RV.fieldAddr 0 Try.underlying27 rfl rfl (Try.sizeOf3 _) (by decide) rfl) rfl ?_
  refine WL.v (RV.load (by first | exact hx1.cell 0 rfl | exact hx1.cell 1 rfl | exact hx1.cell 2 rfl | exact hx1.cell 3 rfl | exact hx1.cell 4 rfl) (Try.isAgg3 _) rfl) rfl ?_
  refine WL.v (RV.lss rfl rfl) rfl ?_
  refine WL.v (RV.move rfl) rfl ?_
  refine WL.orBS (fun w1 => _ = w1) (decide ((64 : Int) < p.width)) 3 (rfl) rfl rfl rfl rfl rfl ?_ ?_
  · skip
    intro h1
    refine WL.on rfl ?_
    refine WL.v (RV.fieldAddr 0 Try.underlying27 rfl rfl (Try.sizeOf3 _) (by decide) rfl) rfl ?_
    refine WL.on rfl ?_
    refine WL.v (RV.load (by first | exact hx1.cell 0 rfl) (Try.isAgg3 _) rfl) rfl ?_
    refine WL.on rfl ?_
    refine WL.v (RV.gtr rfl rfl) rfl ?_
    refine WL.nil ?_
    refine QF.andEnd (tA := 11) 4 (rfl) rfl rfl rfl (fun v hv => (Option.some.inj hv).symm.trans (congrArg Value.bool h1)) rfl
  rintro _ rfl
  refine WL.v (RV.move rfl) rfl ?_
  refine WL.orBS (fun w1 => _ = w1) (decide ((1000 : Int) < p.usual.length)) 2 (rfl) rfl rfl rfl rfl rfl ?_ ?_
  · skip
    intro h2
    refine WL.on rfl ?_
    refine WL.v (RV.move rfl) rfl ?_
    refine WL.on rfl ?_
    refine WL.v (RV.gtr rfl rfl) rfl ?_
    refine WL.nil ?_
    refine QF.andEnd (tA := 16) 3 (rfl) rfl rfl rfl (fun v hv => (Option.some.inj hv).symm.trans (congrArg Value.bool h2)) rfl
  rintro _ rfl
  refine WL.v (RV.move rfl) rfl ?_
  refine WL.orBS (fun w1 => _ = w1) ((p.base.length : Int) != p.usual.length) 5 (rfl) rfl rfl rfl rfl rfl ?_ ?_
  · skip
    intro h3
    refine WL.on rfl ?_
    refine WL.v (RV.fieldAddr 2 Try.underlying27 rfl rfl (Try.sizeOf25 _) (by decide) rfl) rfl ?_
    refine WL.on rfl ?_
    refine WL.v (RV.load (by first | exact hx1.cell 2 rfl) (Try.isAgg25 _) rfl) rfl ?_
    refine WL.on rfl ?_
    refine WL.v (RV.len (by first | exact hu1 | exact hb1 | exact hk1 | exact hn1) Try.underlying25 rfl) rfl ?_
    refine WL.on rfl ?_
    refine WL.v (RV.move rfl) rfl ?_
    refine WL.on rfl ?_
    refine WL.v (RV.neq rfl rfl) rfl ?_
    refine WL.nil ?_
    refine QF.andEnd (tA := 20) 6 (rfl) rfl rfl rfl (fun v hv => (Option.some.inj hv).symm.trans (congrArg Value.bool h3)) rfl
  rintro _ rfl
  refine WL.v (RV.assign rfl) rfl ?_
  refine WL.nil ?_
  refine QF.seqNext ?_
  refine WC.cond rfl ?_ ?_
  · intro hg
    refine WC.seq ?_
    refine WC.region ?_
    refine WL.v (RV.assign rfl) rfl ?_
    refine WL.nil ?_
    refine QF.seqNext ?_
    refine WC.ret ?_
    refine QF.blockRet ?_
    refine QF.thenRet ?_
    refine QF.done1 rfl rfl (⟨by simp only [rightM, hg]; rfl, hE1⟩)
  · intro hg
    refine WC.seq ?_
    refine WC.region ?_
    refine WL.v (RV.fieldAddr 3 Try.underlying27 rfl rfl (Try.sizeOf25 _) (by decide) rfl) rfl ?_
    refine WL.v (RV.load (by first | exact hx1.cell 3 rfl | exact hx1.cell 4 rfl) (Try.isAgg25 _) rfl) rfl ?_
    refine WL.v (RV.len (by first | exact hu1 | exact hb1 | exact hk1 | exact hn1) Try.underlying25 rfl) rfl ?_
    refine WL.v (RV.fieldAddr 4 Try.underlying27 rfl rfl (Try.sizeOf25 _) (by decide) rfl) rfl ?_
    refine WL.v (RV.load (by first | exact hx1.cell 4 rfl) (Try.isAgg25 _) rfl) rfl ?_
    refine WL.v (RV.len (by first | exact hu1 | exact hb1 | exact hk1 | exact hn1) Try.underlying25 rfl) rfl ?_
    refine WL.v (RV.neq rfl rfl) rfl ?_
    refine WL.v (RV.move rfl) rfl ?_
    refine WL.orBS (fun w1 => _ = w1) (decide ((65599 : Int) < p.check.length)) 4 (rfl) rfl rfl rfl rfl rfl ?_ ?_
    · skip
      intro h4
      refine WL.on rfl ?_
      refine WL.v (RV.fieldAddr 3 Try.underlying27 rfl rfl (Try.sizeOf25 _) (by decide) rfl) rfl ?_
      refine WL.on rfl ?_
      refine WL.v (RV.load (by first | exact hx1.cell 3 rfl) (Try.isAgg25 _) rfl) rfl ?_
      refine WL.on rfl ?_
      refine WL.v (RV.len (by first | exact hu1 | exact hb1 | exact hk1 | exact hn1) Try.underlying25 rfl) rfl ?_
      refine WL.on rfl ?_
      refine WL.v (RV.gtr rfl rfl) rfl ?_
      refine WL.nil ?_
      refine QF.andEnd (tA := 35) 5 (rfl) rfl rfl rfl (fun v hv => (Option.some.inj hv).symm.trans (congrArg Value.bool h4)) rfl
    rintro _ rfl
    refine WL.v (RV.assign rfl) rfl ?_
    refine WL.nil ?_
    refine QF.seqNext ?_
    refine WC.cond rfl ?_ ?_
    · intro hg2
      refine WC.seq ?_
      refine WC.region ?_
      refine WL.v (RV.assign rfl) rfl ?_
      refine WL.nil ?_
      refine QF.seqNext ?_
      refine WC.ret ?_
      refine QF.blockRet ?_
      refine QF.thenRet ?_
      refine QF.done1 rfl rfl (⟨by simp only [rightM, hg2, Bool.not_true, Bool.and_false, Bool.false_and], hE1⟩)
    · intro hg2
      refine WC.skip ?_
      refine QF.blockNormal ?_
      refine QF.seqNext ?_
      refine WC.seq ?_
      refine WC.region ?_
      refine WL.v (RV.fieldAddr 1 Try.underlying27 rfl rfl (Try.sizeOf25 _) (by decide) rfl) rfl ?_
      refine WL.v (RV.load (by first | exact hx1.cell 1 rfl) (Try.isAgg25 _) rfl) rfl ?_
      refine WL.call Try.call24 rfl (within_ret 0 65535 p.usual u1 w1 hu1) rfl ?_
      rintro v w2 ⟨rfl, hE2⟩
      refine WL.v (RV.move rfl) rfl ?_
      refine WL.andBS (Ext w1) (inB 0 65535 p.base) 3 (hE2) rfl rfl rfl rfl rfl ?_ ?_
      · skip
        intro h5
        refine WL.on rfl ?_
        refine WL.v (RV.fieldAddr 2 Try.underlying27 rfl rfl (Try.sizeOf25 _) (by decide) rfl) rfl ?_
        refine WL.on rfl ?_
        refine WL.v (RV.load (by first | exact hE2.cell (hx1.cell 2 rfl)) (Try.isAgg25 _) rfl) rfl ?_
        refine WL.on rfl ?_
        refine WL.call Try.call24 rfl (within_ret 0 65535 p.base b1 w2 (hb1.ext hE2)) rfl ?_
        rintro v w3 ⟨rfl, hE3⟩
        refine WL.nil ?_
        refine QF.andEnd (tA := 44) 4 (hE2.trans hE3) rfl rfl rfl (fun v hv => (Option.some.inj hv).symm.trans (congrArg Value.bool h5)) rfl
      intro w3 hE3
      refine WL.v (RV.move rfl) rfl ?_
      refine WL.andBS (Ext w1) (inB 0 65535 p.next) 3 (hE3) rfl rfl rfl rfl rfl ?_ ?_
      · skip
        intro h6
        refine WL.on rfl ?_
        refine WL.v (RV.fieldAddr 4 Try.underlying27 rfl rfl (Try.sizeOf25 _) (by decide) rfl) rfl ?_
        refine WL.on rfl ?_
        refine WL.v (RV.load (by first | exact hE3.cell (hx1.cell 4 rfl)) (Try.isAgg25 _) rfl) rfl ?_
        refine WL.on rfl ?_
        refine WL.call Try.call24 rfl (within_ret 0 65535 p.next n1 w3 (hn1.ext hE3)) rfl ?_
        rintro v w4 ⟨rfl, hE4⟩
        refine WL.nil ?_
        refine QF.andEnd (tA := 49) 4 (hE3.trans hE4) rfl rfl rfl (fun v hv => (Option.some.inj hv).symm.trans (congrArg Value.bool h6)) rfl
      intro w4 hE4
      refine WL.v (RV.move rfl) rfl ?_
      refine WL.andBS (Ext w1) (inB (-1) ((p.usual.length : Int) - 1) p.check) 5 (hE4) rfl rfl rfl rfl rfl ?_ ?_
      · skip
        intro h7
        refine WL.on rfl ?_
        refine WL.v (RV.fieldAddr 3 Try.underlying27 rfl rfl (Try.sizeOf25 _) (by decide) rfl) rfl ?_
        refine WL.on rfl ?_
        refine WL.v (RV.load (by first | exact hE4.cell (hx1.cell 3 rfl)) (Try.isAgg25 _) rfl) rfl ?_
        refine WL.on rfl ?_
        refine WL.v (RV.move rfl) rfl ?_
        refine WL.on rfl ?_
        refine WL.v (RV.sub rfl rfl (Fit.i64 (by omega))) rfl ?_
        refine WL.on rfl ?_
        refine WL.call Try.call24 rfl (within_ret (-1) ((p.usual.length : Int) - 1) p.check k1 w4 (hk1.ext hE4)) rfl ?_
        rintro v w5 ⟨rfl, hE5⟩
        refine WL.nil ?_
        refine QF.andEnd (tA := 54) 6 (hE4.trans hE5) rfl rfl rfl (fun v hv => (Option.some.inj hv).symm.trans (congrArg Value.bool h7)) rfl
      intro w5 hE5
      refine WL.v (RV.assign rfl) rfl ?_
      refine WL.nil ?_
      refine QF.seqNext ?_
      refine WC.ret ?_
      refine QF.done1 rfl rfl (⟨by simp only [rightM, hg, hg2, Bool.not_false, Bool.true_and], hE1.trans hE5⟩)
end Go.Proofs.Ytahdlfnjnjngaaa
