/- Package escape, walked: Mark. -/
import Derived.Test.YtakigpnccppheaaGreatDoorEscB0
namespace Go.Proofs.YtakigpnccppheaaGreatDoor
open Go.VL Go.Proofs
set_option maxRecDepth 4000

def marksL : List (List UInt8) := [[60, 98, 62], [60, 47, 98, 62], [60, 105, 32, 99, 108, 97, 115, 115, 61, 34, 97, 62, 98, 34, 62], [60, 33, 45, 45, 120, 45, 45, 62], [60, 33, 121, 62], [27, 91, 49, 109], [60, 47, 115, 112, 97, 110, 62]]
@[simp] def encS (x : List UInt8) : List Value := [.string (bs x)]
theorem marks_ret (w : World) : Ret Tryz.prog 16 [] w fun v w' => Sl encS 1 w' v marksL ∧ Ext w w' := by
  refine Ret.enter Tryz.func16 Tryz.ntmps16 rfl rfl ?_
  refine WC.seq ?_
  refine WC.region ?_
  refine WL.v (RV.assign rfl) rfl ?_
  refine WL.nil ?_
  refine QF.seqNext ?_
  refine WC.seq ?_
  refine WC.region ?_
  refine WL.buildSl Tryz.underlying40 (Tryz.sizeOf9 _) (Tryz.zeroValue9 _) encS marksL rfl rfl rfl rfl (by kernel_rfl) (by simp) rfl ?_
  intro v1 w1 h1 hE1
  refine WL.v (RV.assign rfl) rfl ?_
  refine WL.nil ?_
  refine QF.seqNext ?_
  refine WC.ret ?_
  refine QF.done1 rfl rfl (⟨h1, hE1⟩)
def markOk (k : Int) : Bool := decide (0 ≤ k) && decide (k < 7)
theorem marksL_nth (k : Nat) (h : k < 7) : nth marksL k = markM k := by
  have : k = 0 ∨ k = 1 ∨ k = 2 ∨ k = 3 ∨ k = 4 ∨ k = 5 ∨ k = 6 := by omega
  rcases this with rfl | rfl | rfl | rfl | rfl | rfl | rfl <;> rw [nth_eq (by decide)] <;> rfl
theorem markM_no (k : Int) (h : markOk k = false) : markM k = [] := by
  simp only [markOk, Bool.and_eq_false_iff, decide_eq_false_iff_not] at h
  unfold markM
  rw [if_neg (by omega), if_neg (by omega), if_neg (by omega), if_neg (by omega), if_neg (by omega), if_neg (by omega), if_neg (by omega)]
theorem markM_yes (k : Int) (h : markOk k = true) : markM k ≠ [] := by
  simp only [markOk, Bool.and_eq_true, decide_eq_true_eq] at h
  unfold markM
  (repeat' split) <;> first | (simp; done) | omega
theorem escMark_ret (k : Int) (w : World) : Ret Tryz.prog 6 [.int .i64 k] w fun v w' => v = .tuple #[.string (bs (markM k)), .bool (markOk k)] ∧ Ext w w' := by
  refine Ret.enter Tryz.func6 Tryz.ntmps6 rfl rfl ?_
  refine WC.seq ?_
  refine WC.region ?_
  refine WL.v (RV.assign rfl) rfl ?_
  refine WL.v (RV.assign rfl) rfl ?_
  refine WL.nil ?_
  refine QF.seqNext ?_
  refine WC.seq ?_
  refine WC.region ?_
  refine WL.call Tryz.call16 rfl (marks_ret w) rfl ?_
  rintro lv w1 ⟨hl, hE1⟩
  have hlen : marksL.length = 7 := rfl
  refine WL.v (RV.assign rfl) rfl ?_
  refine WL.nil ?_
  refine QF.seqNext ?_
  refine WC.seq ?_
  refine WC.seq ?_
  refine WC.region ?_
  refine WL.v (RV.move rfl) rfl ?_
  refine WL.v (RV.lss rfl rfl) rfl ?_
  refine WL.v (RV.move rfl) rfl ?_
  refine WL.orBS (fun w1 => _ = w1) (decide ((marksL.length : Int) ≤ k)) 4 (rfl) rfl rfl rfl rfl rfl ?_ ?_
  · skip
    intro h1
    refine WL.on rfl ?_
    refine WL.v (RV.move rfl) rfl ?_
    refine WL.on rfl ?_
    refine WL.v (RV.move rfl) rfl ?_
    refine WL.on rfl ?_
    refine WL.v (RV.len (by first | exact hl) Tryz.underlying40 rfl) rfl ?_
    refine WL.on rfl ?_
    refine WL.v (RV.geq rfl rfl) rfl ?_
    refine WL.nil ?_
    refine QF.andEnd (tA := 8) 5 (rfl) rfl rfl rfl (fun v hv => (Option.some.inj hv).symm.trans (congrArg Value.bool h1)) rfl
  rintro _ rfl
  refine WL.nil ?_
  refine QF.seqNext ?_
  refine WC.cond rfl ?_ ?_
  · intro hb
    have hno : markOk k = false := by
      simp only [Bool.or_eq_true, decide_eq_true_eq] at hb
      simp only [markOk, Bool.and_eq_false_iff, decide_eq_false_iff_not]; omega
    refine WC.seq ?_
    refine WC.region ?_
    refine WL.v (RV.assign rfl) rfl ?_
    refine WL.v (RV.assign rfl) rfl ?_
    refine WL.nil ?_
    refine QF.seqNext ?_
    refine WC.ret ?_
    refine QF.thenRet ?_
    refine QF.done2 rfl rfl rfl (⟨by rw [hno, markM_no k hno]; rfl, hE1⟩)
  · intro hg
    simp only [Bool.or_eq_false_iff, decide_eq_false_iff_not] at hg
    have hyes : markOk k = true := by simp only [markOk, Bool.and_eq_true, decide_eq_true_eq]; omega
    obtain ⟨n, rfl⟩ := Int.eq_ofNat_of_zero_le (by omega : 0 ≤ k)
    refine WC.skip ?_
    refine QF.seqNext ?_
    refine WC.seq ?_
    refine WC.region ?_
    refine WL.v (RV.move rfl) rfl ?_
    refine WL.v (RV.move rfl) rfl ?_
    refine WL.v (RV.indexAddr (by first | exact hl) Tryz.underlying40 (Tryz.sizeOf9 _) rfl rfl _ rfl (by omega)) rfl ?_
    refine WL.v (RV.load (by first | exact hl.cell (i := n) (by omega) (j := 0) rfl) (Tryz.isAgg9 _) rfl) rfl ?_
    refine WL.v (RV.assign rfl) rfl ?_
    refine WL.v (RV.assign rfl) rfl ?_
    refine WL.nil ?_
    refine QF.seqNext ?_
    refine WC.ret ?_
    refine QF.done2 rfl rfl rfl (⟨by rw [hyes, ← marksL_nth n (by omega)], hE1⟩)

end Go.Proofs.YtakigpnccppheaaGreatDoor
