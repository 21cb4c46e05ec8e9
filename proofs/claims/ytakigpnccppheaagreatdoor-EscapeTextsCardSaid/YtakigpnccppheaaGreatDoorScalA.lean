/- Package scalar, walked: how bytes are read. -/
import Derived.Test.YtakigpnccppheaaGreatDoorChecked
import Derived.Test.YtakigpnccppheaaGreatDoorVb
import Derived.Test.YtakigpnccppheaaGreatDoorGen
namespace Go.Proofs.YtakigpnccppheaaGreatDoor
open Go.VL Go.Proofs

abbrev Bytes (w : World) (v : Value) (l : List UInt8) : Prop := Sl (fun b : UInt8 => [Value.int .u8 (b.toNat : Int)]) 1 w v l
/-- A byte of a list, as a number. -/
def by8 (l : List UInt8) (i : Nat) : Nat := (nth l i).toNat
theorem by8_lt (l : List UInt8) (i : Nat) : by8 l i < 256 := (nth l i).toNat_lt
theorem by8_drop (l : List UInt8) (k i : Nat) : by8 (l.drop k) i = by8 l (k + i) := by
  simp [by8, nth, List.getD_eq_getElem?_getD, List.getElem?_drop]
theorem by8_take (l : List UInt8) (k i : Nat) (h : i < k) : by8 (l.take k) i = by8 l i := by
  simp [by8, nth, List.getD_eq_getElem?_getD, List.getElem?_take, h]
theorem by8_cons0 (a : UInt8) (l : List UInt8) : by8 (a :: l) 0 = a.toNat := by simp [by8, nth_cons0]

def needN (c : Nat) : Nat := if c < 128 then 1 else if c < 194 then 0 else if c < 224 then 2 else if c < 240 then 3 else if c < 245 then 4 else 0
def needLo (c : Nat) : Nat := if c = 224 then 160 else if c = 240 then 144 else 128
def needHi (c : Nat) : Nat := if c = 237 then 159 else if c = 244 then 143 else 191


theorem need_ret (c : Nat) (w : World) : Ret Tryz.prog 70 [.int .u8 c] w fun v w' => v = .tuple #[.int .i64 (needN c : Nat), .int .u8 (needLo c : Nat), .int .u8 (needHi c : Nat)] ∧ w = w' := by
  refine Ret.enter Tryz.func70 Tryz.ntmps70 rfl rfl ?_
  refine WC.seq ?_
  refine WC.region ?_
  refine WL.v (RV.assign rfl) rfl ?_
  refine WL.v (RV.assign rfl) rfl ?_
  refine WL.v (RV.assign rfl) rfl ?_
  refine WL.nil ?_
  refine QF.seqNext ?_
  refine WC.seq ?_
  refine WC.region ?_
  refine WL.v (RV.assign rfl) rfl ?_
  refine WL.v (RV.assign rfl) rfl ?_
  refine WL.v (RV.assign rfl) rfl ?_
  refine WL.nil ?_
  refine QF.seqNext ?_
  refine WC.seq ?_
  refine WC.block ?_
  refine WC.seq ?_
  refine WC.region ?_
  refine WL.v (RV.move rfl) rfl ?_
  refine WL.v (RV.lss rfl rfl) rfl ?_
  refine WL.v (RV.assign rfl) rfl ?_
  refine WL.nil ?_
  refine QF.seqNext ?_
  refine WC.cond rfl ?_ ?_
  · intro p1
    refine WC.region ?_
    refine WL.v (RV.assign rfl) rfl ?_
    refine WL.nil ?_
    refine QF.blockNormal ?_
    refine QF.seqNext ?_
    refine WC.seq ?_
    refine WC.seq ?_
    refine WC.region ?_
    refine WL.v (RV.move rfl) rfl ?_
    refine WL.nil ?_
    refine QF.seqNext ?_
    refine WC.block ?_
    refine WC.seq ?_
    refine WC.region ?_
    refine WL.v (RV.eql rfl rfl) rfl ?_
    refine WL.v (RV.assign rfl) rfl ?_
    refine WL.nil ?_
    refine QF.seqNext ?_
    refine WC.cond rfl ?_ ?_
    · intro q1
      refine WC.region ?_
      refine WL.v (RV.assign rfl) rfl ?_
      refine WL.nil ?_
      refine QF.blockNormal ?_
      refine QF.seqNext ?_
      refine WC.seq ?_
      refine WC.region ?_
      refine WL.v (RV.move rfl) rfl ?_
      refine WL.v (RV.move rfl) rfl ?_
      refine WL.v (RV.move rfl) rfl ?_
      refine WL.v (RV.assign rfl) rfl ?_
      refine WL.v (RV.assign rfl) rfl ?_
      refine WL.v (RV.assign rfl) rfl ?_
      refine WL.nil ?_
      refine QF.seqNext ?_
      refine WC.ret ?_
      refine QF.done3 rfl rfl rfl rfl (⟨?_, rfl⟩)
      simp only [Bool.and_eq_true, Bool.and_eq_false_iff, decide_eq_true_eq, decide_eq_false_iff_not, beq_iff_eq, beq_eq_false_iff_ne, ne_eq] at *
      rw [show needN c = 1 from by unfold needN; (repeat' split) <;> omega, show needLo c = 160 from by unfold needLo; (repeat' split) <;> omega, show needHi c = 191 from by unfold needHi; (repeat' split) <;> omega]; rfl
    · intro q1
      refine WC.seq ?_
      refine WC.region ?_
      refine WL.v (RV.eql rfl rfl) rfl ?_
      refine WL.v (RV.assign rfl) rfl ?_
      refine WL.nil ?_
      refine QF.seqNext ?_
      refine WC.cond rfl ?_ ?_
      · intro q2
        refine WC.region ?_
        refine WL.v (RV.assign rfl) rfl ?_
        refine WL.nil ?_
        refine QF.blockNormal ?_
        refine QF.seqNext ?_
        refine WC.seq ?_
        refine WC.region ?_
        refine WL.v (RV.move rfl) rfl ?_
        refine WL.v (RV.move rfl) rfl ?_
        refine WL.v (RV.move rfl) rfl ?_
        refine WL.v (RV.assign rfl) rfl ?_
        refine WL.v (RV.assign rfl) rfl ?_
        refine WL.v (RV.assign rfl) rfl ?_
        refine WL.nil ?_
        refine QF.seqNext ?_
        refine WC.ret ?_
        refine QF.done3 rfl rfl rfl rfl (⟨?_, rfl⟩)
        simp only [Bool.and_eq_true, Bool.and_eq_false_iff, decide_eq_true_eq, decide_eq_false_iff_not, beq_iff_eq, beq_eq_false_iff_ne, ne_eq] at *
        rw [show needN c = 1 from by unfold needN; (repeat' split) <;> omega, show needLo c = 128 from by unfold needLo; (repeat' split) <;> omega, show needHi c = 159 from by unfold needHi; (repeat' split) <;> omega]; rfl
      · intro q2
        refine WC.seq ?_
        refine WC.region ?_
        refine WL.v (RV.eql rfl rfl) rfl ?_
        refine WL.v (RV.assign rfl) rfl ?_
        refine WL.nil ?_
        refine QF.seqNext ?_
        refine WC.cond rfl ?_ ?_
        · intro q3
          refine WC.region ?_
          refine WL.v (RV.assign rfl) rfl ?_
          refine WL.nil ?_
          refine QF.blockNormal ?_
          refine QF.seqNext ?_
          refine WC.seq ?_
          refine WC.region ?_
          refine WL.v (RV.move rfl) rfl ?_
          refine WL.v (RV.move rfl) rfl ?_
          refine WL.v (RV.move rfl) rfl ?_
          refine WL.v (RV.assign rfl) rfl ?_
          refine WL.v (RV.assign rfl) rfl ?_
          refine WL.v (RV.assign rfl) rfl ?_
          refine WL.nil ?_
          refine QF.seqNext ?_
          refine WC.ret ?_
          refine QF.done3 rfl rfl rfl rfl (⟨?_, rfl⟩)
          simp only [Bool.and_eq_true, Bool.and_eq_false_iff, decide_eq_true_eq, decide_eq_false_iff_not, beq_iff_eq, beq_eq_false_iff_ne, ne_eq] at *
          rw [show needN c = 1 from by unfold needN; (repeat' split) <;> omega, show needLo c = 144 from by unfold needLo; (repeat' split) <;> omega, show needHi c = 191 from by unfold needHi; (repeat' split) <;> omega]; rfl
        · intro q3
          refine WC.seq ?_
          refine WC.region ?_
          refine WL.v (RV.eql rfl rfl) rfl ?_
          refine WL.v (RV.assign rfl) rfl ?_
          refine WL.nil ?_
          refine QF.seqNext ?_
          refine WC.cond rfl ?_ ?_
          · intro q4
            refine WC.region ?_
            refine WL.v (RV.assign rfl) rfl ?_
            refine WL.nil ?_
            refine QF.blockNormal ?_
            refine QF.seqNext ?_
            refine WC.seq ?_
            refine WC.region ?_
            refine WL.v (RV.move rfl) rfl ?_
            refine WL.v (RV.move rfl) rfl ?_
            refine WL.v (RV.move rfl) rfl ?_
            refine WL.v (RV.assign rfl) rfl ?_
            refine WL.v (RV.assign rfl) rfl ?_
            refine WL.v (RV.assign rfl) rfl ?_
            refine WL.nil ?_
            refine QF.seqNext ?_
            refine WC.ret ?_
            refine QF.done3 rfl rfl rfl rfl (⟨?_, rfl⟩)
            simp only [Bool.and_eq_true, Bool.and_eq_false_iff, decide_eq_true_eq, decide_eq_false_iff_not, beq_iff_eq, beq_eq_false_iff_ne, ne_eq] at *
            rw [show needN c = 1 from by unfold needN; (repeat' split) <;> omega, show needLo c = 128 from by unfold needLo; (repeat' split) <;> omega, show needHi c = 143 from by unfold needHi; (repeat' split) <;> omega]; rfl
          · intro q4
            refine WC.skip ?_
            refine QF.blockNormal ?_
            refine QF.seqNext ?_
            refine WC.seq ?_
            refine WC.region ?_
            refine WL.v (RV.move rfl) rfl ?_
            refine WL.v (RV.move rfl) rfl ?_
            refine WL.v (RV.move rfl) rfl ?_
            refine WL.v (RV.assign rfl) rfl ?_
            refine WL.v (RV.assign rfl) rfl ?_
            refine WL.v (RV.assign rfl) rfl ?_
            refine WL.nil ?_
            refine QF.seqNext ?_
            refine WC.ret ?_
            refine QF.done3 rfl rfl rfl rfl (⟨?_, rfl⟩)
            simp only [Bool.and_eq_true, Bool.and_eq_false_iff, decide_eq_true_eq, decide_eq_false_iff_not, beq_iff_eq, beq_eq_false_iff_ne, ne_eq] at *
            rw [show needN c = 1 from by unfold needN; (repeat' split) <;> omega, show needLo c = 128 from by unfold needLo; (repeat' split) <;> omega, show needHi c = 191 from by unfold needHi; (repeat' split) <;> omega]; rfl
  · intro p1
    refine WC.seq ?_
    refine WC.region ?_
    refine WL.v (RV.move rfl) rfl ?_
    refine WL.v (RV.geq rfl rfl) rfl ?_
    refine WL.v (RV.move rfl) rfl ?_
    refine WL.andBS (fun w1 => _ = w1) (decide ((c : Int) ≤ 223)) 2 (rfl) rfl rfl rfl rfl rfl ?_ ?_
    · skip
      intro r1
      refine WL.on rfl ?_
      refine WL.v (RV.move rfl) rfl ?_
      refine WL.on rfl ?_
      refine WL.v (RV.leq rfl rfl) rfl ?_
      refine WL.nil ?_
      refine QF.andEnd (tA := 14) 3 (rfl) rfl rfl rfl (fun v hv => (Option.some.inj hv).symm.trans (congrArg Value.bool r1)) rfl
    rintro _ rfl
    refine WL.v (RV.assign rfl) rfl ?_
    refine WL.nil ?_
    refine QF.seqNext ?_
    refine WC.cond rfl ?_ ?_
    · intro p2
      refine WC.region ?_
      refine WL.v (RV.assign rfl) rfl ?_
      refine WL.nil ?_
      refine QF.blockNormal ?_
      refine QF.seqNext ?_
      refine WC.seq ?_
      refine WC.seq ?_
      refine WC.region ?_
      refine WL.v (RV.move rfl) rfl ?_
      refine WL.nil ?_
      refine QF.seqNext ?_
      refine WC.block ?_
      refine WC.seq ?_
      refine WC.region ?_
      refine WL.v (RV.eql rfl rfl) rfl ?_
      refine WL.v (RV.assign rfl) rfl ?_
      refine WL.nil ?_
      refine QF.seqNext ?_
      refine WC.cond rfl ?_ ?_
      · intro q1
        refine WC.region ?_
        refine WL.v (RV.assign rfl) rfl ?_
        refine WL.nil ?_
        refine QF.blockNormal ?_
        refine QF.seqNext ?_
        refine WC.seq ?_
        refine WC.region ?_
        refine WL.v (RV.move rfl) rfl ?_
        refine WL.v (RV.move rfl) rfl ?_
        refine WL.v (RV.move rfl) rfl ?_
        refine WL.v (RV.assign rfl) rfl ?_
        refine WL.v (RV.assign rfl) rfl ?_
        refine WL.v (RV.assign rfl) rfl ?_
        refine WL.nil ?_
        refine QF.seqNext ?_
        refine WC.ret ?_
        refine QF.done3 rfl rfl rfl rfl (⟨?_, rfl⟩)
        simp only [Bool.and_eq_true, Bool.and_eq_false_iff, decide_eq_true_eq, decide_eq_false_iff_not, beq_iff_eq, beq_eq_false_iff_ne, ne_eq] at *
        rw [show needN c = 2 from by unfold needN; (repeat' split) <;> omega, show needLo c = 160 from by unfold needLo; (repeat' split) <;> omega, show needHi c = 191 from by unfold needHi; (repeat' split) <;> omega]; rfl
      · intro q1
        refine WC.seq ?_
        refine WC.region ?_
        refine WL.v (RV.eql rfl rfl) rfl ?_
        refine WL.v (RV.assign rfl) rfl ?_
        refine WL.nil ?_
        refine QF.seqNext ?_
        refine WC.cond rfl ?_ ?_
        · intro q2
          refine WC.region ?_
          refine WL.v (RV.assign rfl) rfl ?_
          refine WL.nil ?_
          refine QF.blockNormal ?_
          refine QF.seqNext ?_
          refine WC.seq ?_
          refine WC.region ?_
          refine WL.v (RV.move rfl) rfl ?_
          refine WL.v (RV.move rfl) rfl ?_
          refine WL.v (RV.move rfl) rfl ?_
          refine WL.v (RV.assign rfl) rfl ?_
          refine WL.v (RV.assign rfl) rfl ?_
          refine WL.v (RV.assign rfl) rfl ?_
          refine WL.nil ?_
          refine QF.seqNext ?_
          refine WC.ret ?_
          refine QF.done3 rfl rfl rfl rfl (⟨?_, rfl⟩)
          simp only [Bool.and_eq_true, Bool.and_eq_false_iff, decide_eq_true_eq, decide_eq_false_iff_not, beq_iff_eq, beq_eq_false_iff_ne, ne_eq] at *
          rw [show needN c = 2 from by unfold needN; (repeat' split) <;> omega, show needLo c = 128 from by unfold needLo; (repeat' split) <;> omega, show needHi c = 159 from by unfold needHi; (repeat' split) <;> omega]; rfl
        · intro q2
          refine WC.seq ?_
          refine WC.region ?_
          refine WL.v (RV.eql rfl rfl) rfl ?_
          refine WL.v (RV.assign rfl) rfl ?_
          refine WL.nil ?_
          refine QF.seqNext ?_
          refine WC.cond rfl ?_ ?_
          · intro q3
            refine WC.region ?_
            refine WL.v (RV.assign rfl) rfl ?_
            refine WL.nil ?_
            refine QF.blockNormal ?_
            refine QF.seqNext ?_
            refine WC.seq ?_
            refine WC.region ?_
            refine WL.v (RV.move rfl) rfl ?_
            refine WL.v (RV.move rfl) rfl ?_
            refine WL.v (RV.move rfl) rfl ?_
            refine WL.v (RV.assign rfl) rfl ?_
            refine WL.v (RV.assign rfl) rfl ?_
            refine WL.v (RV.assign rfl) rfl ?_
            refine WL.nil ?_
            refine QF.seqNext ?_
            refine WC.ret ?_
            refine QF.done3 rfl rfl rfl rfl (⟨?_, rfl⟩)
            simp only [Bool.and_eq_true, Bool.and_eq_false_iff, decide_eq_true_eq, decide_eq_false_iff_not, beq_iff_eq, beq_eq_false_iff_ne, ne_eq] at *
            rw [show needN c = 2 from by unfold needN; (repeat' split) <;> omega, show needLo c = 144 from by unfold needLo; (repeat' split) <;> omega, show needHi c = 191 from by unfold needHi; (repeat' split) <;> omega]; rfl
          · intro q3
            refine WC.seq ?_
            refine WC.region ?_
            refine WL.v (RV.eql rfl rfl) rfl ?_
            refine WL.v (RV.assign rfl) rfl ?_
            refine WL.nil ?_
            refine QF.seqNext ?_
            refine WC.cond rfl ?_ ?_
            · intro q4
              refine WC.region ?_
              refine WL.v (RV.assign rfl) rfl ?_
              refine WL.nil ?_
              refine QF.blockNormal ?_
              refine QF.seqNext ?_
              refine WC.seq ?_
              refine WC.region ?_
              refine WL.v (RV.move rfl) rfl ?_
              refine WL.v (RV.move rfl) rfl ?_
              refine WL.v (RV.move rfl) rfl ?_
              refine WL.v (RV.assign rfl) rfl ?_
              refine WL.v (RV.assign rfl) rfl ?_
              refine WL.v (RV.assign rfl) rfl ?_
              refine WL.nil ?_
              refine QF.seqNext ?_
              refine WC.ret ?_
              refine QF.done3 rfl rfl rfl rfl (⟨?_, rfl⟩)
              simp only [Bool.and_eq_true, Bool.and_eq_false_iff, decide_eq_true_eq, decide_eq_false_iff_not, beq_iff_eq, beq_eq_false_iff_ne, ne_eq] at *
              rw [show needN c = 2 from by unfold needN; (repeat' split) <;> omega, show needLo c = 128 from by unfold needLo; (repeat' split) <;> omega, show needHi c = 143 from by unfold needHi; (repeat' split) <;> omega]; rfl
            · intro q4
              refine WC.skip ?_
              refine QF.blockNormal ?_
              refine QF.seqNext ?_
              refine WC.seq ?_
              refine WC.region ?_
              refine WL.v (RV.move rfl) rfl ?_
              refine WL.v (RV.move rfl) rfl ?_
              refine WL.v (RV.move rfl) rfl ?_
              refine WL.v (RV.assign rfl) rfl ?_
              refine WL.v (RV.assign rfl) rfl ?_
              refine WL.v (RV.assign rfl) rfl ?_
              refine WL.nil ?_
              refine QF.seqNext ?_
              refine WC.ret ?_
              refine QF.done3 rfl rfl rfl rfl (⟨?_, rfl⟩)
              simp only [Bool.and_eq_true, Bool.and_eq_false_iff, decide_eq_true_eq, decide_eq_false_iff_not, beq_iff_eq, beq_eq_false_iff_ne, ne_eq] at *
              rw [show needN c = 2 from by unfold needN; (repeat' split) <;> omega, show needLo c = 128 from by unfold needLo; (repeat' split) <;> omega, show needHi c = 191 from by unfold needHi; (repeat' split) <;> omega]; rfl
    · intro p2
      refine WC.seq ?_
      refine WC.region ?_
      refine WL.v (RV.move rfl) rfl ?_
      refine WL.v (RV.geq rfl rfl) rfl ?_
      refine WL.v (RV.move rfl) rfl ?_
      refine WL.andBS (fun w1 => _ = w1) (decide ((c : Int) ≤ 239)) 2 (rfl) rfl rfl rfl rfl rfl ?_ ?_
      · skip
        intro r2
        refine WL.on rfl ?_
        refine WL.v (RV.move rfl) rfl ?_
        refine WL.on rfl ?_
        refine WL.v (RV.leq rfl rfl) rfl ?_
        refine WL.nil ?_
        refine QF.andEnd (tA := 21) 3 (rfl) rfl rfl rfl (fun v hv => (Option.some.inj hv).symm.trans (congrArg Value.bool r2)) rfl
      rintro _ rfl
      refine WL.v (RV.assign rfl) rfl ?_
      refine WL.nil ?_
      refine QF.seqNext ?_
      refine WC.cond rfl ?_ ?_
      · intro p3
        refine WC.region ?_
        refine WL.v (RV.assign rfl) rfl ?_
        refine WL.nil ?_
        refine QF.blockNormal ?_
        refine QF.seqNext ?_
        refine WC.seq ?_
        refine WC.seq ?_
        refine WC.region ?_
        refine WL.v (RV.move rfl) rfl ?_
        refine WL.nil ?_
        refine QF.seqNext ?_
        refine WC.block ?_
        refine WC.seq ?_
        refine WC.region ?_
        refine WL.v (RV.eql rfl rfl) rfl ?_
        refine WL.v (RV.assign rfl) rfl ?_
        refine WL.nil ?_
        refine QF.seqNext ?_
        refine WC.cond rfl ?_ ?_
        · intro q1
          refine WC.region ?_
          refine WL.v (RV.assign rfl) rfl ?_
          refine WL.nil ?_
          refine QF.blockNormal ?_
          refine QF.seqNext ?_
          refine WC.seq ?_
          refine WC.region ?_
          refine WL.v (RV.move rfl) rfl ?_
          refine WL.v (RV.move rfl) rfl ?_
          refine WL.v (RV.move rfl) rfl ?_
          refine WL.v (RV.assign rfl) rfl ?_
          refine WL.v (RV.assign rfl) rfl ?_
          refine WL.v (RV.assign rfl) rfl ?_
          refine WL.nil ?_
          refine QF.seqNext ?_
          refine WC.ret ?_
          refine QF.done3 rfl rfl rfl rfl (⟨?_, rfl⟩)
          simp only [Bool.and_eq_true, Bool.and_eq_false_iff, decide_eq_true_eq, decide_eq_false_iff_not, beq_iff_eq, beq_eq_false_iff_ne, ne_eq] at *
          rw [show needN c = 3 from by unfold needN; (repeat' split) <;> omega, show needLo c = 160 from by unfold needLo; (repeat' split) <;> omega, show needHi c = 191 from by unfold needHi; (repeat' split) <;> omega]; rfl
        · intro q1
          refine WC.seq ?_
          refine WC.region ?_
          refine WL.v (RV.eql rfl rfl) rfl ?_
          refine WL.v (RV.assign rfl) rfl ?_
          refine WL.nil ?_
          refine QF.seqNext ?_
          refine WC.cond rfl ?_ ?_
          · intro q2
            refine WC.region ?_
            refine WL.v (RV.assign rfl) rfl ?_
            refine WL.nil ?_
            refine QF.blockNormal ?_
            refine QF.seqNext ?_
            refine WC.seq ?_
            refine WC.region ?_
            refine WL.v (RV.move rfl) rfl ?_
            refine WL.v (RV.move rfl) rfl ?_
            refine WL.v (RV.move rfl) rfl ?_
            refine WL.v (RV.assign rfl) rfl ?_
            refine WL.v (RV.assign rfl) rfl ?_
            refine WL.v (RV.assign rfl) rfl ?_
            refine WL.nil ?_
            refine QF.seqNext ?_
            refine WC.ret ?_
            refine QF.done3 rfl rfl rfl rfl (⟨?_, rfl⟩)
            simp only [Bool.and_eq_true, Bool.and_eq_false_iff, decide_eq_true_eq, decide_eq_false_iff_not, beq_iff_eq, beq_eq_false_iff_ne, ne_eq] at *
            rw [show needN c = 3 from by unfold needN; (repeat' split) <;> omega, show needLo c = 128 from by unfold needLo; (repeat' split) <;> omega, show needHi c = 159 from by unfold needHi; (repeat' split) <;> omega]; rfl
          · intro q2
            refine WC.seq ?_
            refine WC.region ?_
            refine WL.v (RV.eql rfl rfl) rfl ?_
            refine WL.v (RV.assign rfl) rfl ?_
            refine WL.nil ?_
            refine QF.seqNext ?_
            refine WC.cond rfl ?_ ?_
            · intro q3
              refine WC.region ?_
              refine WL.v (RV.assign rfl) rfl ?_
              refine WL.nil ?_
              refine QF.blockNormal ?_
              refine QF.seqNext ?_
              refine WC.seq ?_
              refine WC.region ?_
              refine WL.v (RV.move rfl) rfl ?_
              refine WL.v (RV.move rfl) rfl ?_
              refine WL.v (RV.move rfl) rfl ?_
              refine WL.v (RV.assign rfl) rfl ?_
              refine WL.v (RV.assign rfl) rfl ?_
              refine WL.v (RV.assign rfl) rfl ?_
              refine WL.nil ?_
              refine QF.seqNext ?_
              refine WC.ret ?_
              refine QF.done3 rfl rfl rfl rfl (⟨?_, rfl⟩)
              simp only [Bool.and_eq_true, Bool.and_eq_false_iff, decide_eq_true_eq, decide_eq_false_iff_not, beq_iff_eq, beq_eq_false_iff_ne, ne_eq] at *
              rw [show needN c = 3 from by unfold needN; (repeat' split) <;> omega, show needLo c = 144 from by unfold needLo; (repeat' split) <;> omega, show needHi c = 191 from by unfold needHi; (repeat' split) <;> omega]; rfl
            · intro q3
              refine WC.seq ?_
              refine WC.region ?_
              refine WL.v (RV.eql rfl rfl) rfl ?_
              refine WL.v (RV.assign rfl) rfl ?_
              refine WL.nil ?_
              refine QF.seqNext ?_
              refine WC.cond rfl ?_ ?_
              · intro q4
                refine WC.region ?_
                refine WL.v (RV.assign rfl) rfl ?_
                refine WL.nil ?_
                refine QF.blockNormal ?_
                refine QF.seqNext ?_
                refine WC.seq ?_
                refine WC.region ?_
                refine WL.v (RV.move rfl) rfl ?_
                refine WL.v (RV.move rfl) rfl ?_
                refine WL.v (RV.move rfl) rfl ?_
                refine WL.v (RV.assign rfl) rfl ?_
                refine WL.v (RV.assign rfl) rfl ?_
                refine WL.v (RV.assign rfl) rfl ?_
                refine WL.nil ?_
                refine QF.seqNext ?_
                refine WC.ret ?_
                refine QF.done3 rfl rfl rfl rfl (⟨?_, rfl⟩)
                simp only [Bool.and_eq_true, Bool.and_eq_false_iff, decide_eq_true_eq, decide_eq_false_iff_not, beq_iff_eq, beq_eq_false_iff_ne, ne_eq] at *
                rw [show needN c = 3 from by unfold needN; (repeat' split) <;> omega, show needLo c = 128 from by unfold needLo; (repeat' split) <;> omega, show needHi c = 143 from by unfold needHi; (repeat' split) <;> omega]; rfl
              · intro q4
                refine WC.skip ?_
                refine QF.blockNormal ?_
                refine QF.seqNext ?_
                refine WC.seq ?_
                refine WC.region ?_
                refine WL.v (RV.move rfl) rfl ?_
                refine WL.v (RV.move rfl) rfl ?_
                refine WL.v (RV.move rfl) rfl ?_
                refine WL.v (RV.assign rfl) rfl ?_
                refine WL.v (RV.assign rfl) rfl ?_
                refine WL.v (RV.assign rfl) rfl ?_
                refine WL.nil ?_
                refine QF.seqNext ?_
                refine WC.ret ?_
                refine QF.done3 rfl rfl rfl rfl (⟨?_, rfl⟩)
                simp only [Bool.and_eq_true, Bool.and_eq_false_iff, decide_eq_true_eq, decide_eq_false_iff_not, beq_iff_eq, beq_eq_false_iff_ne, ne_eq] at *
                rw [show needN c = 3 from by unfold needN; (repeat' split) <;> omega, show needLo c = 128 from by unfold needLo; (repeat' split) <;> omega, show needHi c = 191 from by unfold needHi; (repeat' split) <;> omega]; rfl
      · intro p3
        refine WC.seq ?_
        refine WC.region ?_
        refine WL.v (RV.move rfl) rfl ?_
        refine WL.v (RV.geq rfl rfl) rfl ?_
        refine WL.v (RV.move rfl) rfl ?_
        refine WL.andBS (fun w1 => _ = w1) (decide ((c : Int) ≤ 244)) 2 (rfl) rfl rfl rfl rfl rfl ?_ ?_
        · skip
          intro r3
          refine WL.on rfl ?_
          refine WL.v (RV.move rfl) rfl ?_
          refine WL.on rfl ?_
          refine WL.v (RV.leq rfl rfl) rfl ?_
          refine WL.nil ?_
          refine QF.andEnd (tA := 28) 3 (rfl) rfl rfl rfl (fun v hv => (Option.some.inj hv).symm.trans (congrArg Value.bool r3)) rfl
        rintro _ rfl
        refine WL.v (RV.assign rfl) rfl ?_
        refine WL.nil ?_
        refine QF.seqNext ?_
        refine WC.cond rfl ?_ ?_
        · intro p4
          refine WC.region ?_
          refine WL.v (RV.assign rfl) rfl ?_
          refine WL.nil ?_
          refine QF.blockNormal ?_
          refine QF.seqNext ?_
          refine WC.seq ?_
          refine WC.seq ?_
          refine WC.region ?_
          refine WL.v (RV.move rfl) rfl ?_
          refine WL.nil ?_
          refine QF.seqNext ?_
          refine WC.block ?_
          refine WC.seq ?_
          refine WC.region ?_
          refine WL.v (RV.eql rfl rfl) rfl ?_
          refine WL.v (RV.assign rfl) rfl ?_
          refine WL.nil ?_
          refine QF.seqNext ?_
          refine WC.cond rfl ?_ ?_
          · intro q1
            refine WC.region ?_
            refine WL.v (RV.assign rfl) rfl ?_
            refine WL.nil ?_
            refine QF.blockNormal ?_
            refine QF.seqNext ?_
            refine WC.seq ?_
            refine WC.region ?_
            refine WL.v (RV.move rfl) rfl ?_
            refine WL.v (RV.move rfl) rfl ?_
            refine WL.v (RV.move rfl) rfl ?_
            refine WL.v (RV.assign rfl) rfl ?_
            refine WL.v (RV.assign rfl) rfl ?_
            refine WL.v (RV.assign rfl) rfl ?_
            refine WL.nil ?_
            refine QF.seqNext ?_
            refine WC.ret ?_
            refine QF.done3 rfl rfl rfl rfl (⟨?_, rfl⟩)
            simp only [Bool.and_eq_true, Bool.and_eq_false_iff, decide_eq_true_eq, decide_eq_false_iff_not, beq_iff_eq, beq_eq_false_iff_ne, ne_eq] at *
            rw [show needN c = 4 from by unfold needN; (repeat' split) <;> omega, show needLo c = 160 from by unfold needLo; (repeat' split) <;> omega, show needHi c = 191 from by unfold needHi; (repeat' split) <;> omega]; rfl
          · intro q1
            refine WC.seq ?_
            refine WC.region ?_
            refine WL.v (RV.eql rfl rfl) rfl ?_
            refine WL.v (RV.assign rfl) rfl ?_
            refine WL.nil ?_
            refine QF.seqNext ?_
            refine WC.cond rfl ?_ ?_
            · intro q2
              refine WC.region ?_
              refine WL.v (RV.assign rfl) rfl ?_
              refine WL.nil ?_
              refine QF.blockNormal ?_
              refine QF.seqNext ?_
              refine WC.seq ?_
              refine WC.region ?_
              refine WL.v (RV.move rfl) rfl ?_
              refine WL.v (RV.move rfl) rfl ?_
              refine WL.v (RV.move rfl) rfl ?_
              refine WL.v (RV.assign rfl) rfl ?_
              refine WL.v (RV.assign rfl) rfl ?_
              refine WL.v (RV.assign rfl) rfl ?_
              refine WL.nil ?_
              refine QF.seqNext ?_
              refine WC.ret ?_
              refine QF.done3 rfl rfl rfl rfl (⟨?_, rfl⟩)
              simp only [Bool.and_eq_true, Bool.and_eq_false_iff, decide_eq_true_eq, decide_eq_false_iff_not, beq_iff_eq, beq_eq_false_iff_ne, ne_eq] at *
              rw [show needN c = 4 from by unfold needN; (repeat' split) <;> omega, show needLo c = 128 from by unfold needLo; (repeat' split) <;> omega, show needHi c = 159 from by unfold needHi; (repeat' split) <;> omega]; rfl
            · intro q2
              refine WC.seq ?_
              refine WC.region ?_
              refine WL.v (RV.eql rfl rfl) rfl ?_
              refine WL.v (RV.assign rfl) rfl ?_
              refine WL.nil ?_
              refine QF.seqNext ?_
              refine WC.cond rfl ?_ ?_
              · intro q3
                refine WC.region ?_
                refine WL.v (RV.assign rfl) rfl ?_
                refine WL.nil ?_
                refine QF.blockNormal ?_
                refine QF.seqNext ?_
                refine WC.seq ?_
                refine WC.region ?_
                refine WL.v (RV.move rfl) rfl ?_
                refine WL.v (RV.move rfl) rfl ?_
                refine WL.v (RV.move rfl) rfl ?_
                refine WL.v (RV.assign rfl) rfl ?_
                refine WL.v (RV.assign rfl) rfl ?_
                refine WL.v (RV.assign rfl) rfl ?_
                refine WL.nil ?_
                refine QF.seqNext ?_
                refine WC.ret ?_
                refine QF.done3 rfl rfl rfl rfl (⟨?_, rfl⟩)
                simp only [Bool.and_eq_true, Bool.and_eq_false_iff, decide_eq_true_eq, decide_eq_false_iff_not, beq_iff_eq, beq_eq_false_iff_ne, ne_eq] at *
                rw [show needN c = 4 from by unfold needN; (repeat' split) <;> omega, show needLo c = 144 from by unfold needLo; (repeat' split) <;> omega, show needHi c = 191 from by unfold needHi; (repeat' split) <;> omega]; rfl
              · intro q3
                refine WC.seq ?_
                refine WC.region ?_
                refine WL.v (RV.eql rfl rfl) rfl ?_
                refine WL.v (RV.assign rfl) rfl ?_
                refine WL.nil ?_
                refine QF.seqNext ?_
                refine WC.cond rfl ?_ ?_
                · intro q4
                  refine WC.region ?_
                  refine WL.v (RV.assign rfl) rfl ?_
                  refine WL.nil ?_
                  refine QF.blockNormal ?_
                  refine QF.seqNext ?_
                  refine WC.seq ?_
                  refine WC.region ?_
                  refine WL.v (RV.move rfl) rfl ?_
                  refine WL.v (RV.move rfl) rfl ?_
                  refine WL.v (RV.move rfl) rfl ?_
                  refine WL.v (RV.assign rfl) rfl ?_
                  refine WL.v (RV.assign rfl) rfl ?_
                  refine WL.v (RV.assign rfl) rfl ?_
                  refine WL.nil ?_
                  refine QF.seqNext ?_
                  refine WC.ret ?_
                  refine QF.done3 rfl rfl rfl rfl (⟨?_, rfl⟩)
                  simp only [Bool.and_eq_true, Bool.and_eq_false_iff, decide_eq_true_eq, decide_eq_false_iff_not, beq_iff_eq, beq_eq_false_iff_ne, ne_eq] at *
                  rw [show needN c = 4 from by unfold needN; (repeat' split) <;> omega, show needLo c = 128 from by unfold needLo; (repeat' split) <;> omega, show needHi c = 143 from by unfold needHi; (repeat' split) <;> omega]; rfl
                · intro q4
                  refine WC.skip ?_
                  refine QF.blockNormal ?_
                  refine QF.seqNext ?_
                  refine WC.seq ?_
                  refine WC.region ?_
                  refine WL.v (RV.move rfl) rfl ?_
                  refine WL.v (RV.move rfl) rfl ?_
                  refine WL.v (RV.move rfl) rfl ?_
                  refine WL.v (RV.assign rfl) rfl ?_
                  refine WL.v (RV.assign rfl) rfl ?_
                  refine WL.v (RV.assign rfl) rfl ?_
                  refine WL.nil ?_
                  refine QF.seqNext ?_
                  refine WC.ret ?_
                  refine QF.done3 rfl rfl rfl rfl (⟨?_, rfl⟩)
                  simp only [Bool.and_eq_true, Bool.and_eq_false_iff, decide_eq_true_eq, decide_eq_false_iff_not, beq_iff_eq, beq_eq_false_iff_ne, ne_eq] at *
                  rw [show needN c = 4 from by unfold needN; (repeat' split) <;> omega, show needLo c = 128 from by unfold needLo; (repeat' split) <;> omega, show needHi c = 191 from by unfold needHi; (repeat' split) <;> omega]; rfl
        · intro p4
          refine WC.skip ?_
          refine QF.blockNormal ?_
          refine QF.seqNext ?_
          refine WC.seq ?_
          refine WC.seq ?_
          refine WC.region ?_
          refine WL.v (RV.move rfl) rfl ?_
          refine WL.nil ?_
          refine QF.seqNext ?_
          refine WC.block ?_
          refine WC.seq ?_
          refine WC.region ?_
          refine WL.v (RV.eql rfl rfl) rfl ?_
          refine WL.v (RV.assign rfl) rfl ?_
          refine WL.nil ?_
          refine QF.seqNext ?_
          refine WC.cond rfl ?_ ?_
          · intro q1
            refine WC.region ?_
            refine WL.v (RV.assign rfl) rfl ?_
            refine WL.nil ?_
            refine QF.blockNormal ?_
            refine QF.seqNext ?_
            refine WC.seq ?_
            refine WC.region ?_
            refine WL.v (RV.move rfl) rfl ?_
            refine WL.v (RV.move rfl) rfl ?_
            refine WL.v (RV.move rfl) rfl ?_
            refine WL.v (RV.assign rfl) rfl ?_
            refine WL.v (RV.assign rfl) rfl ?_
            refine WL.v (RV.assign rfl) rfl ?_
            refine WL.nil ?_
            refine QF.seqNext ?_
            refine WC.ret ?_
            refine QF.done3 rfl rfl rfl rfl (⟨?_, rfl⟩)
            simp only [Bool.and_eq_true, Bool.and_eq_false_iff, decide_eq_true_eq, decide_eq_false_iff_not, beq_iff_eq, beq_eq_false_iff_ne, ne_eq] at *
            rw [show needN c = 0 from by unfold needN; (repeat' split) <;> omega, show needLo c = 160 from by unfold needLo; (repeat' split) <;> omega, show needHi c = 191 from by unfold needHi; (repeat' split) <;> omega]; rfl
          · intro q1
            refine WC.seq ?_
            refine WC.region ?_
            refine WL.v (RV.eql rfl rfl) rfl ?_
            refine WL.v (RV.assign rfl) rfl ?_
            refine WL.nil ?_
            refine QF.seqNext ?_
            refine WC.cond rfl ?_ ?_
            · intro q2
              refine WC.region ?_
              refine WL.v (RV.assign rfl) rfl ?_
              refine WL.nil ?_
              refine QF.blockNormal ?_
              refine QF.seqNext ?_
              refine WC.seq ?_
              refine WC.region ?_
              refine WL.v (RV.move rfl) rfl ?_
              refine WL.v (RV.move rfl) rfl ?_
              refine WL.v (RV.move rfl) rfl ?_
              refine WL.v (RV.assign rfl) rfl ?_
              refine WL.v (RV.assign rfl) rfl ?_
              refine WL.v (RV.assign rfl) rfl ?_
              refine WL.nil ?_
              refine QF.seqNext ?_
              refine WC.ret ?_
              refine QF.done3 rfl rfl rfl rfl (⟨?_, rfl⟩)
              simp only [Bool.and_eq_true, Bool.and_eq_false_iff, decide_eq_true_eq, decide_eq_false_iff_not, beq_iff_eq, beq_eq_false_iff_ne, ne_eq] at *
              rw [show needN c = 0 from by unfold needN; (repeat' split) <;> omega, show needLo c = 128 from by unfold needLo; (repeat' split) <;> omega, show needHi c = 159 from by unfold needHi; (repeat' split) <;> omega]; rfl
            · intro q2
              refine WC.seq ?_
              refine WC.region ?_
              refine WL.v (RV.eql rfl rfl) rfl ?_
              refine WL.v (RV.assign rfl) rfl ?_
              refine WL.nil ?_
              refine QF.seqNext ?_
              refine WC.cond rfl ?_ ?_
              · intro q3
                refine WC.region ?_
                refine WL.v (RV.assign rfl) rfl ?_
                refine WL.nil ?_
                refine QF.blockNormal ?_
                refine QF.seqNext ?_
                refine WC.seq ?_
                refine WC.region ?_
                refine WL.v (RV.move rfl) rfl ?_
                refine WL.v (RV.move rfl) rfl ?_
                refine WL.v (RV.move rfl) rfl ?_
                refine WL.v (RV.assign rfl) rfl ?_
                refine WL.v (RV.assign rfl) rfl ?_
                refine WL.v (RV.assign rfl) rfl ?_
                refine WL.nil ?_
                refine QF.seqNext ?_
                refine WC.ret ?_
                refine QF.done3 rfl rfl rfl rfl (⟨?_, rfl⟩)
                simp only [Bool.and_eq_true, Bool.and_eq_false_iff, decide_eq_true_eq, decide_eq_false_iff_not, beq_iff_eq, beq_eq_false_iff_ne, ne_eq] at *
                rw [show needN c = 0 from by unfold needN; (repeat' split) <;> omega, show needLo c = 144 from by unfold needLo; (repeat' split) <;> omega, show needHi c = 191 from by unfold needHi; (repeat' split) <;> omega]; rfl
              · intro q3
                refine WC.seq ?_
                refine WC.region ?_
                refine WL.v (RV.eql rfl rfl) rfl ?_
                refine WL.v (RV.assign rfl) rfl ?_
                refine WL.nil ?_
                refine QF.seqNext ?_
                refine WC.cond rfl ?_ ?_
                · intro q4
                  refine WC.region ?_
                  refine WL.v (RV.assign rfl) rfl ?_
                  refine WL.nil ?_
                  refine QF.blockNormal ?_
                  refine QF.seqNext ?_
                  refine WC.seq ?_
                  refine WC.region ?_
                  refine WL.v (RV.move rfl) rfl ?_
                  refine WL.v (RV.move rfl) rfl ?_
                  refine WL.v (RV.move rfl) rfl ?_
                  refine WL.v (RV.assign rfl) rfl ?_
                  refine WL.v (RV.assign rfl) rfl ?_
                  refine WL.v (RV.assign rfl) rfl ?_
                  refine WL.nil ?_
                  refine QF.seqNext ?_
                  refine WC.ret ?_
                  refine QF.done3 rfl rfl rfl rfl (⟨?_, rfl⟩)
                  simp only [Bool.and_eq_true, Bool.and_eq_false_iff, decide_eq_true_eq, decide_eq_false_iff_not, beq_iff_eq, beq_eq_false_iff_ne, ne_eq] at *
                  rw [show needN c = 0 from by unfold needN; (repeat' split) <;> omega, show needLo c = 128 from by unfold needLo; (repeat' split) <;> omega, show needHi c = 143 from by unfold needHi; (repeat' split) <;> omega]; rfl
                · intro q4
                  refine WC.skip ?_
                  refine QF.blockNormal ?_
                  refine QF.seqNext ?_
                  refine WC.seq ?_
                  refine WC.region ?_
                  refine WL.v (RV.move rfl) rfl ?_
                  refine WL.v (RV.move rfl) rfl ?_
                  refine WL.v (RV.move rfl) rfl ?_
                  refine WL.v (RV.assign rfl) rfl ?_
                  refine WL.v (RV.assign rfl) rfl ?_
                  refine WL.v (RV.assign rfl) rfl ?_
                  refine WL.nil ?_
                  refine QF.seqNext ?_
                  refine WC.ret ?_
                  refine QF.done3 rfl rfl rfl rfl (⟨?_, rfl⟩)
                  simp only [Bool.and_eq_true, Bool.and_eq_false_iff, decide_eq_true_eq, decide_eq_false_iff_not, beq_iff_eq, beq_eq_false_iff_ne, ne_eq] at *
                  rw [show needN c = 0 from by unfold needN; (repeat' split) <;> omega, show needLo c = 128 from by unfold needLo; (repeat' split) <;> omega, show needHi c = 191 from by unfold needHi; (repeat' split) <;> omega]; rfl

/-- May a byte be the one at a place of a sequence? -/
def okB (l : List UInt8) (lo hi : Nat) (k : Nat) : Prop := k < l.length ∧ (if k = 1 then lo else 128) ≤ by8 l k ∧ by8 l k ≤ (if k = 1 then hi else 191)

theorem there_ret (l : List UInt8) (bv : Value) (n lo hi : Nat) (w : World) (h : Bytes w bv l) (hl : lo < 256) (hh : hi < 256) :
    Ret Tryz.prog 71 [bv, .int .i64 n, .int .u8 lo, .int .u8 hi] w fun v w' => ∃ k : Nat, v = .int .i64 k ∧ 1 ≤ k ∧ (∀ j, 1 ≤ j → j < k → j < n ∧ okB l lo hi j) ∧ ¬ (k < n ∧ okB l lo hi k) ∧ w = w' := by
  have hm := h.len_le
  refine Ret.enter Tryz.func71 Tryz.ntmps71 rfl rfl ?_
  refine WC.seq ?_
  refine WC.region ?_
  refine WL.v (RV.assign rfl) rfl ?_
  refine WL.nil ?_
  refine QF.seqNext ?_
  refine WC.seq ?_
  refine WC.region ?_
  refine WL.v (RV.assign rfl) rfl ?_
  refine WL.nil ?_
  refine QF.seqNext ?_
  refine WC.seq ?_
  refine WC.block ?_
  refine WC.loop (fun x : Nat × Nat × Nat => [(0, bv), (1, .int .i64 n), (2, .int .u8 x.2.1), (3, .int .u8 x.2.2), (9, .int .i64 x.1)]) (fun x : Nat × Nat × Nat => w) (fun x : Nat × Nat × Nat => 1 ≤ x.1 ∧ (x.1 = 1 ∨ x.1 ≤ l.length) ∧ (∀ j, 1 ≤ j → j < x.1 → j < n ∧ okB l lo hi j) ∧ x.2.1 = (if x.1 = 1 then lo else 128) ∧ x.2.2 = (if x.1 = 1 then hi else 191)) (fun x : Nat × Nat × Nat => l.length + 1 - x.1) (1, lo, hi) (⟨Nat.le_refl _, .inl rfl, fun j h1 h2 => by dsimp only at h2; omega, rfl, rfl⟩) ⟨rfl, rfl, rfl, rfl, rfl, trivial⟩ rfl ?_
  rintro ⟨k, lo', hi'⟩ ⟨hk, hkl, hj, hlo, hhi⟩
  dsimp only at hk hkl hj hlo hhi ⊢
  refine WC.seq ?_
  refine WC.seq ?_
  refine WC.region ?_
  refine WL.v (RV.move rfl) rfl ?_
  refine WL.v (RV.move rfl) rfl ?_
  refine WL.v (RV.lss rfl rfl) rfl ?_
  refine WL.v (RV.move rfl) rfl ?_
  have fin : ¬ (k < n ∧ okB l lo hi k) → ∃ k' : Nat, Value.int .i64 (k : Int) = .int .i64 k' ∧ 1 ≤ k' ∧ (∀ j, 1 ≤ j → j < k' → j < n ∧ okB l lo hi j) ∧ ¬ (k' < n ∧ okB l lo hi k') ∧ w = w := fun hno => ⟨k, rfl, hk, hj, hno, rfl⟩
  by_cases c1 : k < n
  · skip
    refine WL.know (d := 13) rfl (b' := true) (decide_eq_true (by omega)) ?_
    refine WL.on rfl ?_
    refine WL.v (RV.move rfl) rfl ?_
    refine WL.on rfl ?_
    refine WL.v (RV.move rfl) rfl ?_
    refine WL.on rfl ?_
    refine WL.v (RV.len (by first | exact h) Tryz.underlying31 rfl) rfl ?_
    refine WL.on rfl ?_
    refine WL.v (RV.lss rfl rfl) rfl ?_
    refine WL.v (RV.pickT rfl rfl) rfl ?_
    refine WL.v (RV.move rfl) rfl ?_
    by_cases c2 : k < l.length
    · skip
      refine WL.know (d := 19) rfl (b' := true) (decide_eq_true (by omega)) ?_
      refine WL.on rfl ?_
      refine WL.v (RV.move rfl) rfl ?_
      refine WL.on rfl ?_
      refine WL.v (RV.move rfl) rfl ?_
      refine WL.on rfl ?_
      refine WL.v (RV.indexAddr (by first | exact h) Tryz.underlying31 (Tryz.sizeOf5 _) rfl rfl _ rfl (by omega)) rfl ?_
      refine WL.on rfl ?_
      refine WL.v (RV.load (by first | exact h.ld c2) (Tryz.isAgg5 _) rfl) rfl ?_
      refine WL.on rfl ?_
      refine WL.v (RV.move rfl) rfl ?_
      refine WL.on rfl ?_
      refine WL.v (RV.geq rfl rfl) rfl ?_
      refine WL.v (RV.pickT rfl rfl) rfl ?_
      refine WL.v (RV.move rfl) rfl ?_
      by_cases c3 : lo' ≤ by8 l k
      · skip
        refine WL.know (d := 27) rfl (b' := true) (decide_eq_true (by have := c3; unfold by8 at this; omega)) ?_
        refine WL.on rfl ?_
        refine WL.v (RV.move rfl) rfl ?_
        refine WL.on rfl ?_
        refine WL.v (RV.move rfl) rfl ?_
        refine WL.on rfl ?_
        refine WL.v (RV.indexAddr (by first | exact h) Tryz.underlying31 (Tryz.sizeOf5 _) rfl rfl _ rfl (by omega)) rfl ?_
        refine WL.on rfl ?_
        refine WL.v (RV.load (by first | exact h.ld c2) (Tryz.isAgg5 _) rfl) rfl ?_
        refine WL.on rfl ?_
        refine WL.v (RV.move rfl) rfl ?_
        refine WL.on rfl ?_
        refine WL.v (RV.leq rfl rfl) rfl ?_
        refine WL.v (RV.pickT rfl rfl) rfl ?_
        refine WL.nil ?_
        refine QF.seqNext ?_
        refine WC.cond rfl ?_ ?_
        · intro c4
          replace c4 : by8 l k ≤ hi' := by have := of_decide_eq_true c4; unfold by8; omega
          refine WC.skip ?_
          refine QF.seqNext ?_
          refine WC.block ?_
          refine WC.seq ?_
          refine WC.region ?_
          refine WL.v (RV.assign rfl) rfl ?_
          refine WL.v (RV.assign rfl) rfl ?_
          refine WL.nil ?_
          refine QF.seqNext ?_
          refine WC.region ?_
          refine WL.v (RV.move rfl) rfl ?_
          refine WL.v (RV.add rfl rfl (Fit.i64 (by omega))) rfl ?_
          refine WL.v (RV.assign rfl) rfl ?_
          refine WL.nil ?_
          refine QF.blockNormal ?_
          refine QF.next ((k + 1, 128, 191)) (⟨by dsimp only; omega, .inr c2, fun j h1 h2 => (Nat.lt_succ_iff_lt_or_eq.1 h2).elim (hj j h1) (fun h3 => by subst h3; exact ⟨c1, c2, hlo ▸ c3, hhi ▸ c4⟩), by dsimp only; rw [if_neg (by omega)], by dsimp only; rw [if_neg (by omega)]⟩) (by dsimp only; omega) ⟨rfl, rfl, rfl, rfl, rfl, trivial⟩ rfl
        · intro c4
          replace c4 : ¬ by8 l k ≤ hi' := by have := of_decide_eq_false c4; unfold by8; omega
          refine WC.exit ?_
          refine QF.thenExit ?_
          refine QF.thenExit ?_
          refine QF.blockHit ?_
          refine QF.seqNext ?_
          refine WC.seq ?_
          refine WC.region ?_
          refine WL.v (RV.move rfl) rfl ?_
          refine WL.v (RV.assign rfl) rfl ?_
          refine WL.nil ?_
          refine QF.seqNext ?_
          refine WC.ret ?_
          refine QF.done1 rfl rfl (fin (fun h => c4 (hhi ▸ h.2.2.2)))
      · skip
        refine WL.know (d := 27) rfl (b' := false) (decide_eq_false (by have := c3; unfold by8 at this; omega)) ?_
        refine WL.off rfl rfl rfl ?_
        refine WL.off rfl rfl rfl ?_
        refine WL.off rfl rfl rfl ?_
        refine WL.off rfl rfl rfl ?_
        refine WL.off rfl rfl rfl ?_
        refine WL.off rfl rfl rfl ?_
        refine WL.v (RV.pickF rfl rfl) rfl ?_
        refine WL.nil ?_
        refine QF.seqNext ?_
        refine WC.condF rfl rfl ?_
        refine WC.exit ?_
        refine QF.thenExit ?_
        refine QF.thenExit ?_
        refine QF.blockHit ?_
        refine QF.seqNext ?_
        refine WC.seq ?_
        refine WC.region ?_
        refine WL.v (RV.move rfl) rfl ?_
        refine WL.v (RV.assign rfl) rfl ?_
        refine WL.nil ?_
        refine QF.seqNext ?_
        refine WC.ret ?_
        refine QF.done1 rfl rfl (fin (fun h => c3 (hlo ▸ h.2.2.1)))
    · skip
      refine WL.know (d := 19) rfl (b' := false) (decide_eq_false (by omega)) ?_
      refine WL.off rfl rfl rfl ?_
      refine WL.off rfl rfl rfl ?_
      refine WL.off rfl rfl rfl ?_
      refine WL.off rfl rfl rfl ?_
      refine WL.off rfl rfl rfl ?_
      refine WL.off rfl rfl rfl ?_
      refine WL.v (RV.pickF rfl rfl) rfl ?_
      refine WL.v (RV.move rfl) rfl ?_
      refine WL.off rfl rfl rfl ?_
      refine WL.off rfl rfl rfl ?_
      refine WL.off rfl rfl rfl ?_
      refine WL.off rfl rfl rfl ?_
      refine WL.off rfl rfl rfl ?_
      refine WL.off rfl rfl rfl ?_
      refine WL.v (RV.pickF rfl rfl) rfl ?_
      refine WL.nil ?_
      refine QF.seqNext ?_
      refine WC.condF rfl rfl ?_
      refine WC.exit ?_
      refine QF.thenExit ?_
      refine QF.thenExit ?_
      refine QF.blockHit ?_
      refine QF.seqNext ?_
      refine WC.seq ?_
      refine WC.region ?_
      refine WL.v (RV.move rfl) rfl ?_
      refine WL.v (RV.assign rfl) rfl ?_
      refine WL.nil ?_
      refine QF.seqNext ?_
      refine WC.ret ?_
      refine QF.done1 rfl rfl (fin (fun h => c2 h.2.1))
  · skip
    refine WL.know (d := 13) rfl (b' := false) (decide_eq_false (by omega)) ?_
    refine WL.off rfl rfl rfl ?_
    refine WL.off rfl rfl rfl ?_
    refine WL.off rfl rfl rfl ?_
    refine WL.off rfl rfl rfl ?_
    refine WL.v (RV.pickF rfl rfl) rfl ?_
    refine WL.v (RV.move rfl) rfl ?_
    refine WL.off rfl rfl rfl ?_
    refine WL.off rfl rfl rfl ?_
    refine WL.off rfl rfl rfl ?_
    refine WL.off rfl rfl rfl ?_
    refine WL.off rfl rfl rfl ?_
    refine WL.off rfl rfl rfl ?_
    refine WL.v (RV.pickF rfl rfl) rfl ?_
    refine WL.v (RV.move rfl) rfl ?_
    refine WL.off rfl rfl rfl ?_
    refine WL.off rfl rfl rfl ?_
    refine WL.off rfl rfl rfl ?_
    refine WL.off rfl rfl rfl ?_
    refine WL.off rfl rfl rfl ?_
    refine WL.off rfl rfl rfl ?_
    refine WL.v (RV.pickF rfl rfl) rfl ?_
    refine WL.nil ?_
    refine QF.seqNext ?_
    refine WC.condF rfl rfl ?_
    refine WC.exit ?_
    refine QF.thenExit ?_
    refine QF.thenExit ?_
    refine QF.blockHit ?_
    refine QF.seqNext ?_
    refine WC.seq ?_
    refine WC.region ?_
    refine WL.v (RV.move rfl) rfl ?_
    refine WL.v (RV.assign rfl) rfl ?_
    refine WL.nil ?_
    refine QF.seqNext ?_
    refine WC.ret ?_
    refine QF.done1 rfl rfl (fin (fun h => c1 h.1))
end Go.Proofs.YtakigpnccppheaaGreatDoor
