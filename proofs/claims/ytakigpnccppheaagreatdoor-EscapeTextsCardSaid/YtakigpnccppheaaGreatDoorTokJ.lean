/- Law 28: EscapeTexts, walked. -/
import Derived.Test.YtakigpnccppheaaGreatDoorTokI
import Derived.Test.YtakigpnccppheaaGreatDoorDressC0
namespace Go.Proofs.YtakigpnccppheaaGreatDoor
open Go.VL Go.Proofs
set_option maxRecDepth 10000

theorem escapeTexts_ret (l : List UInt8) (k : Int) (w : World) (hl : l.length ≤ 9223372036854775807) :
    Ret Tryz.prog 3 [.string (bs l), .int .i64 k] w fun v w' => v = .bool true ∧ Ext w w' := by
  refine Ret.enter Tryz.func3 Tryz.ntmps3 rfl rfl ?_
  refine WC.seq ?_
  refine WC.region ?_
  refine WL.v (RV.assign rfl) rfl ?_
  refine WL.nil ?_
  refine QF.seqNext ?_
  refine WC.seq ?_
  refine WC.seq ?_
  refine WC.region ?_
  refine WL.v (RV.move rfl) rfl ?_
  refine WL.v (RV.lenS Tryz.underlying9 rfl) rfl ?_
  refine WL.v (RV.gtr rfl rfl) rfl ?_
  refine WL.v (RV.move rfl) rfl ?_
  cases hbig : decide ((200 : Int) < (l.length : Int)) with
  | true =>
    refine WL.know (d := 11) rfl (b' := true) (rfl) ?_
    refine WL.off rfl rfl rfl ?_
    refine WL.off rfl rfl rfl ?_
    refine WL.v (RV.pickT rfl rfl) rfl ?_
    refine WL.nil ?_
    refine QF.seqNext ?_
    refine WC.condT rfl rfl ?_
    refine WC.seq ?_
    refine WC.region ?_
    refine WL.call Tryz.call4 rfl (awake_ret w) rfl ?_
    rintro v w1 ⟨rfl, hE1⟩
    refine WL.v (RV.assign rfl) rfl ?_
    refine WL.nil ?_
    refine QF.seqNext ?_
    refine WC.ret ?_
    refine QF.thenRet ?_
    refine QF.done1 rfl rfl (⟨rfl, hE1⟩)
  | false =>
    replace hbig : l.length ≤ 200 := by have := of_decide_eq_false hbig; omega
    refine WL.know (d := 11) rfl (b' := false) (rfl) ?_
    refine WL.on rfl ?_
    refine WL.call Tryz.call4 rfl (awake_ret w) rfl ?_
    rintro v w1 ⟨rfl, hE1⟩
    refine WL.on rfl ?_
    refine WL.v (RV.not rfl) rfl ?_
    refine WL.v (RV.pickF rfl rfl) rfl ?_
    refine WL.nil ?_
    refine QF.seqNext ?_
    refine WC.condF rfl (rfl) ?_
    refine WC.skip ?_
    refine QF.seqNext ?_
    refine WC.seq ?_
    refine WC.region ?_
    refine WL.v (RV.move rfl) rfl ?_
    refine WL.call Tryz.call5 rfl (escEscape_ret l w1 (by omega)) rfl ?_
    rintro v w2 ⟨rfl, hE2⟩
    refine WL.v (RV.assign rfl) rfl ?_
    refine WL.nil ?_
    refine QF.seqNext ?_
    refine WC.seq ?_
    refine WC.region ?_
    refine WL.v (RV.move rfl) rfl ?_
    refine WL.call Tryz.call6 rfl (escMark_ret k w2) rfl ?_
    rintro v w3 ⟨rfl, hE3⟩
    refine WL.v (RV.move rfl) rfl ?_
    refine WL.v (RV.extract rfl rfl) rfl ?_
    refine WL.v (RV.extract rfl rfl) rfl ?_
    refine WL.v (RV.assign rfl) rfl ?_
    refine WL.v (RV.assign rfl) rfl ?_
    refine WL.nil ?_
    refine QF.seqNext ?_
    refine WC.seq ?_
    refine WC.seq ?_
    refine WC.region ?_
    refine WL.v (RV.move rfl) rfl ?_
    refine WL.v (RV.move rfl) rfl ?_
    refine WL.call Tryz.call7 rfl (refEsc_ret l w3 (by omega)) rfl ?_
    rintro v _ ⟨rfl, rfl⟩
    refine WL.v (RV.neqS rfl rfl) rfl ?_
    refine WL.v (RV.move rfl) rfl ?_
    refine WL.know (d := 27) rfl (b' := false) ((by simp)) ?_
    refine WL.on rfl ?_
    refine WL.v (RV.move rfl) rfl ?_
    refine WL.on rfl ?_
    refine WL.call Tryz.call8 rfl (escPlain_ret l w3 (by omega)) rfl ?_
    rintro v w4 ⟨rfl, hE4⟩
    refine WL.on rfl ?_
    refine WL.v (RV.move rfl) rfl ?_
    refine WL.on rfl ?_
    refine WL.call Tryz.call9 rfl (refPlain_ret l w4 (by omega)) rfl ?_
    rintro v w5 ⟨rfl, hE5⟩
    refine WL.on rfl ?_
    refine WL.v (RV.neqB Tryz.underlying4 rfl rfl) rfl ?_
    refine WL.v (RV.pickF rfl rfl) rfl ?_
    refine WL.v (RV.move rfl) rfl ?_
    refine WL.know (d := 34) rfl (b' := false) ((by simp)) ?_
    refine WL.on rfl ?_
    refine WL.v (RV.move rfl) rfl ?_
    refine WL.on rfl ?_
    refine WL.v (RV.move rfl) rfl ?_
    refine WL.on rfl ?_
    refine WL.call Tryz.call10 rfl (mark_ret k w5) rfl ?_
    rintro v _ ⟨rfl, rfl⟩
    refine WL.on rfl ?_
    refine WL.v (RV.neqS rfl rfl) rfl ?_
    refine WL.v (RV.pickF rfl rfl) rfl ?_
    refine WL.v (RV.move rfl) rfl ?_
    refine WL.know (d := 40) rfl (b' := false) ((by simp)) ?_
    refine WL.on rfl ?_
    refine WL.v (RV.move rfl) rfl ?_
    refine WL.on rfl ?_
    refine WL.v (RV.move rfl) rfl ?_
    refine WL.on rfl ?_
    refine WL.v (RV.geq rfl rfl) rfl ?_
    refine WL.on rfl ?_
    refine WL.v (RV.move rfl) rfl ?_
    have hmk : markOk k = (decide (0 ≤ k) && decide (k < 7)) := rfl
    cases h0 : decide (0 ≤ k) with
    | false =>
      rw [h0, Bool.false_and] at hmk
      rw [hmk]
      refine WL.know (d := 44) rfl (b' := false) (rfl) ?_
      refine WL.off rfl rfl rfl ?_
      refine WL.off rfl rfl rfl ?_
      refine WL.on rfl ?_
      refine WL.v (RV.pickF rfl rfl) rfl ?_
      refine WL.on rfl ?_
      refine WL.v (RV.neqB Tryz.underlying4 rfl rfl) rfl ?_
      refine WL.v (RV.pickF rfl rfl) rfl ?_
      refine WL.nil ?_
      refine QF.seqNext ?_
      refine WC.condF rfl (rfl) ?_
      have hE5' := (((hE1.trans hE2).trans hE3).trans hE4).trans hE5
      refine WC.skip ?_
      refine QF.seqNext ?_
      refine WC.seq ?_
      refine WC.region ?_
      refine WL.v (RV.move rfl) rfl ?_
      refine WL.call Tryz.call9 rfl (refPlain_ret l w5 (by omega)) rfl ?_
      rintro v w6 ⟨rfl, hE6⟩
      refine WL.v (RV.not rfl) rfl ?_
      refine WL.v (RV.move rfl) rfl ?_
      cases hp : plainM l with
      | false =>
        refine WL.know (d := 53) rfl (b' := true) ((by simp)) ?_
        refine WL.off rfl rfl rfl ?_
        refine WL.off rfl rfl rfl ?_
        refine WL.off rfl rfl rfl ?_
        refine WL.off rfl rfl rfl ?_
        refine WL.off rfl rfl rfl ?_
        refine WL.off rfl rfl rfl ?_
        refine WL.v (RV.pickT rfl rfl) rfl ?_
        refine WL.v (RV.assign rfl) rfl ?_
        refine WL.nil ?_
        refine QF.seqNext ?_
        refine WC.ret ?_
        refine QF.done1 rfl rfl (⟨by simp, hE5'.trans hE6⟩)
      | true =>
        have hlaw := plain_law _ l (Nat.le_refl _)
        rw [hp, eq_comm, Bool.and_eq_true, Bool.not_eq_true', decide_eq_false_iff_not] at hlaw
        have htext := itL_text _ l (Nat.le_refl _) hlaw.1
        have hel := escM_len l
        refine WL.know (d := 53) rfl (b' := false) ((by simp)) ?_
        refine WL.on rfl ?_
        refine WL.v (RV.move rfl) rfl ?_
        refine WL.on rfl ?_
        refine WL.bytesOf2 Tryz.underlying9 Tryz.underlying31 Tryz.underlying5 rfl (by omega) rfl ?_
        intro c w7 hb hE7 hs7
        refine WL.on rfl ?_
        refine WL.call Tryz.call12 rfl (exAll_ret l _ w7 hb (by intro a n c e; cases e; exact ⟨rfl, hs7⟩) (by omega) (fun b hb he => hlaw.2 (he ▸ hb))) rfl ?_
        rintro iv w8 ⟨its, hi, hm, hE8⟩
        refine WL.on rfl ?_
        refine WL.call Tryz.call11 rfl (exText2_ret its iv w8 hi (by have := itL_len l.length l; have := congrArg List.length hm; simp at this; omega)) rfl ?_
        rintro v w9 ⟨rfl, hE9⟩
        rw [hm, htext]
        refine WL.on rfl ?_
        refine WL.v (RV.move rfl) rfl ?_
        refine WL.on rfl ?_
        refine WL.v (RV.eqlS rfl rfl) rfl ?_
        refine WL.v (RV.pickF rfl rfl) rfl ?_
        refine WL.v (RV.assign rfl) rfl ?_
        refine WL.nil ?_
        refine QF.seqNext ?_
        refine WC.ret ?_
        refine QF.done1 rfl rfl (⟨by simp, (((hE5'.trans hE6).trans hE7).trans hE8).trans hE9⟩)
    | true =>
      rw [h0, Bool.true_and] at hmk
      rw [hmk]
      refine WL.know (d := 44) rfl (b' := true) (rfl) ?_
      refine WL.on rfl ?_
      refine WL.v (RV.move rfl) rfl ?_
      refine WL.on rfl ?_
      refine WL.v (RV.lss rfl rfl) rfl ?_
      refine WL.on rfl ?_
      refine WL.v (RV.pickT rfl rfl) rfl ?_
      refine WL.on rfl ?_
      refine WL.v (RV.neqB Tryz.underlying4 rfl rfl) rfl ?_
      refine WL.v (RV.pickF rfl rfl) rfl ?_
      refine WL.nil ?_
      refine QF.seqNext ?_
      refine WC.condF rfl ((by simp)) ?_
      have hE5' := (((hE1.trans hE2).trans hE3).trans hE4).trans hE5
      refine WC.skip ?_
      refine QF.seqNext ?_
      refine WC.seq ?_
      refine WC.region ?_
      refine WL.v (RV.move rfl) rfl ?_
      refine WL.call Tryz.call9 rfl (refPlain_ret l w5 (by omega)) rfl ?_
      rintro v w6 ⟨rfl, hE6⟩
      refine WL.v (RV.not rfl) rfl ?_
      refine WL.v (RV.move rfl) rfl ?_
      cases hp : plainM l with
      | false =>
        refine WL.know (d := 53) rfl (b' := true) ((by simp)) ?_
        refine WL.off rfl rfl rfl ?_
        refine WL.off rfl rfl rfl ?_
        refine WL.off rfl rfl rfl ?_
        refine WL.off rfl rfl rfl ?_
        refine WL.off rfl rfl rfl ?_
        refine WL.off rfl rfl rfl ?_
        refine WL.v (RV.pickT rfl rfl) rfl ?_
        refine WL.v (RV.assign rfl) rfl ?_
        refine WL.nil ?_
        refine QF.seqNext ?_
        refine WC.ret ?_
        refine QF.done1 rfl rfl (⟨by simp, hE5'.trans hE6⟩)
      | true =>
        have hlaw := plain_law _ l (Nat.le_refl _)
        rw [hp, eq_comm, Bool.and_eq_true, Bool.not_eq_true', decide_eq_false_iff_not] at hlaw
        have htext := itL_text _ l (Nat.le_refl _) hlaw.1
        have hel := escM_len l
        refine WL.know (d := 53) rfl (b' := false) ((by simp)) ?_
        refine WL.on rfl ?_
        refine WL.v (RV.move rfl) rfl ?_
        refine WL.on rfl ?_
        refine WL.bytesOf2 Tryz.underlying9 Tryz.underlying31 Tryz.underlying5 rfl (by omega) rfl ?_
        intro c w7 hb hE7 hs7
        refine WL.on rfl ?_
        refine WL.call Tryz.call12 rfl (exAll_ret l _ w7 hb (by intro a n c e; cases e; exact ⟨rfl, hs7⟩) (by omega) (fun b hb he => hlaw.2 (he ▸ hb))) rfl ?_
        rintro iv w8 ⟨its, hi, hm, hE8⟩
        refine WL.on rfl ?_
        refine WL.call Tryz.call11 rfl (exText2_ret its iv w8 hi (by have := itL_len l.length l; have := congrArg List.length hm; simp at this; omega)) rfl ?_
        rintro v w9 ⟨rfl, hE9⟩
        rw [hm, htext]
        refine WL.on rfl ?_
        refine WL.v (RV.move rfl) rfl ?_
        refine WL.on rfl ?_
        refine WL.v (RV.eqlS rfl rfl) rfl ?_
        refine WL.v (RV.pickF rfl rfl) rfl ?_
        refine WL.v (RV.assign rfl) rfl ?_
        refine WL.nil ?_
        refine QF.seqNext ?_
        refine WC.ret ?_
        refine QF.done1 rfl rfl (⟨by simp, (((hE5'.trans hE6).trans hE7).trans hE8).trans hE9⟩)
end Go.Proofs.YtakigpnccppheaaGreatDoor
