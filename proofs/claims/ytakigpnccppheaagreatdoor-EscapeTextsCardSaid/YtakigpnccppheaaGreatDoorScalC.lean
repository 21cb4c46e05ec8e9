/- Chapter 1 by the document, walked: begins. -/
import Derived.Test.YtakigpnccppheaaGreatDoorScalB
namespace Go.Proofs.YtakigpnccppheaaGreatDoor
open Go.VL Go.Proofs
set_option maxRecDepth 4000

/-- The value of bytes up to one. -/
def vN (l : List UInt8) (base : Nat) : Nat → Nat
  | 0 => 0
  | 1 => by8 l 0 - base
  | i + 2 => 64 * vN l base (i + 1) + (by8 l (i + 1) - 128)
def contTo (l : List UInt8) (i : Nat) : Prop := ∀ j, 1 ≤ j → j < i → 128 ≤ by8 l j ∧ by8 l j < 192
theorem vN_lt (l : List UInt8) (base : Nat) (h1 : by8 l 0 < base + 32) : ∀ i, contTo l (i + 1) → vN l base (i + 1) < 32 * 64 ^ i
  | 0, _ => by simp only [vN]; omega
  | i + 1, h => by
    have h2 := vN_lt l base h1 i (fun j a b => h j a (by omega))
    have h3 := h (i + 1) (by omega) (by omega)
    simp only [vN, Nat.pow_succ]; omega

/-- What bytes can still be the beginning of, where there are n bytes. -/
def begN (l : List UInt8) (n base least most : Nat) : Nat × Nat :=
  let lo := vN l base l.length * 64 ^ (n - l.length)
  let hi := lo + 64 ^ (n - l.length) - 1
  if hi < least ∨ most < lo ∨ (55296 ≤ lo ∧ hi ≤ 57343) then (0, 0) else (lo, n)
/-- What 'begins' answers, told by its answer. -/
def Beg (l : List UInt8) (r : Nat × Nat) : Prop :=
  let c := by8 l 0
  (c < 128 → r = (c, 1)) ∧ ((128 ≤ c ∧ c < 192 ∨ 248 ≤ c) → r = (0, 0)) ∧
  (∀ n base least most, (n = 2 ∧ base = 192 ∧ least = 128 ∧ most = 2047 ∧ 192 ≤ c ∧ c < 224 ∨ n = 3 ∧ base = 224 ∧ least = 2048 ∧ most = 65535 ∧ 224 ≤ c ∧ c < 240 ∨ n = 4 ∧ base = 240 ∧ least = 65536 ∧ most = 1114111 ∧ 240 ≤ c ∧ c < 248) →
    (n < l.length → r = (0, 0)) ∧ (l.length ≤ n → ¬ contTo l l.length → r = (0, 0)) ∧ (l.length ≤ n → contTo l l.length → r = begN l n base least most))


theorem begins_ret (l : List UInt8) (bv : Value) (w : World) (h : Bytes w bv l) (h1 : 1 ≤ l.length) (h4 : l.length ≤ 4) :
    Ret Tryz.prog 50 [bv] w fun v w' => ∃ r : Nat × Nat, v = .tuple #[.int .i32 r.1, .int .i64 r.2] ∧ Beg l r ∧ w = w' := by
  have hb0 := by8_lt l 0
  have hbe0 : (nth l 0).toNat = by8 l 0 := rfl
  refine Ret.enter Tryz.func50 Tryz.ntmps50 rfl rfl ?_
  refine WC.seq ?_
  refine WC.region ?_
  refine WL.v (RV.assign rfl) rfl ?_
  refine WL.v (RV.assign rfl) rfl ?_
  refine WL.nil ?_
  refine QF.seqNext ?_
  refine WC.seq ?_
  refine WC.region ?_
  refine WL.v (RV.move rfl) rfl ?_
  refine WL.v (RV.indexAddr h Tryz.underlying31 (Tryz.sizeOf5 _) rfl rfl 0 rfl h1) rfl ?_
  refine WL.v (RV.load (by first | exact h.ld (i := 0) h1) (Tryz.isAgg5 _) rfl) rfl ?_
  refine WL.v (RV.conv Tryz.underlying5 Tryz.underlying21 rfl (Fit.i32 (by omega))) rfl ?_
  refine WL.v (RV.assign rfl) rfl ?_
  refine WL.nil ?_
  refine QF.seqNext ?_
  refine WC.seq ?_
  refine WC.region ?_
  refine WL.v (RV.assign rfl) rfl ?_
  refine WL.v (RV.assign rfl) rfl ?_
  refine WL.v (RV.assign rfl) rfl ?_
  refine WL.nil ?_
  refine QF.seqNext ?_
  refine WC.seq ?_
  refine WC.region ?_
  refine WL.v (RV.assign rfl) rfl ?_
  refine WL.nil ?_
  refine QF.seqNext ?_
  refine WC.seq ?_
  refine WC.block ?_
  refine WC.seq ?_
  refine WC.region ?_
  refine WL.v (RV.move rfl) rfl ?_
  refine WL.v (RV.lss rfl rfl) rfl ?_
  refine WL.v (RV.assign rfl) rfl ?_
  refine WL.nil ?_
  refine QF.seqNext ?_
  have e15 : Value.int .i32 (((nth l 0).toNat : Nat) : Int) = .int .i32 (by8 l 0 : Int) := rfl
  refine WC.cond rfl ?_ ?_
  · intro p1
    replace p1 : by8 l 0 < 128 := by have := of_decide_eq_true p1; omega
    refine WC.seq ?_
    refine WC.region ?_
    refine WL.v (RV.move rfl) rfl ?_
    refine WL.v (RV.assign rfl) rfl ?_
    refine WL.v (RV.assign rfl) rfl ?_
    refine WL.nil ?_
    refine QF.seqNext ?_
    refine WC.ret ?_
    refine QF.blockRet ?_
    refine QF.thenRet ?_
    refine QF.done2 rfl rfl rfl (⟨(by8 l 0, 1), rfl, ⟨fun _ => rfl, fun hh => by omega, fun n base least most hh => by omega⟩, rfl⟩)
  · intro p1
    replace p1 : ¬ by8 l 0 < 128 := by have := of_decide_eq_false p1; omega
    refine WC.seq ?_
    refine WC.region ?_
    refine WL.v (RV.move rfl) rfl ?_
    refine WL.v (RV.geq rfl rfl) rfl ?_
    refine WL.v (RV.move rfl) rfl ?_
    refine WL.andBS (fun w1 => _ = w1) (decide ((by8 l 0 : Int) < 224)) 2 (rfl) rfl rfl rfl rfl rfl ?_ ?_
    · skip
      intro r1
      refine WL.on rfl ?_
      refine WL.v (RV.move rfl) rfl ?_
      refine WL.on rfl ?_
      refine WL.v (RV.lss rfl rfl) rfl ?_
      refine WL.nil ?_
      refine QF.andEnd (tA := 24) 3 (rfl) rfl rfl rfl (fun v hv => (Option.some.inj hv).symm.trans (congrArg Value.bool r1)) rfl
    rintro _ rfl
    refine WL.v (RV.assign rfl) rfl ?_
    refine WL.nil ?_
    refine QF.seqNext ?_
    refine WC.cond rfl ?_ ?_
    · intro p2
      replace p2 : 192 ≤ by8 l 0 ∧ by8 l 0 < 224 := by simp only [Bool.and_eq_true, decide_eq_true_eq, hbe0] at p2; omega
      have cc : 192 ≤ by8 l 0 ∧ by8 l 0 < 192 + 32 := by omega
      have hB : ∀ r : Nat × Nat, (((2 < l.length → r = (0, 0)) ∧ (l.length ≤ 2 → ¬ contTo l l.length → r = (0, 0)) ∧ (l.length ≤ 2 → contTo l l.length → r = begN l 2 192 128 2047))) → Beg l r := by
        intro r hr
        refine ⟨fun h => by omega, fun h => by omega, ?_⟩
        rintro n base least most (⟨rfl, rfl, rfl, rfl, h1, h2⟩ | ⟨rfl, rfl, rfl, rfl, h1, h2⟩ | ⟨rfl, rfl, rfl, rfl, h1, h2⟩) <;> first | exact hr | (exfalso; omega)
      refine WC.region ?_
      refine WL.v (RV.move rfl) rfl ?_
      refine WL.v (RV.sub rfl rfl (Fit.i32 (by omega))) rfl ?_
      refine WL.v (RV.assign rfl) rfl ?_
      refine WL.v (RV.assign rfl) rfl ?_
      refine WL.v (RV.assign rfl) rfl ?_
      refine WL.v (RV.assign rfl) rfl ?_
      refine WL.nil ?_
      refine QF.blockNormal ?_
      refine QF.seqNext ?_
      refine WC.seq ?_
      refine WC.seq ?_
      refine WC.region ?_
      refine WL.v (RV.move rfl) rfl ?_
      refine WL.v (RV.eql rfl rfl) rfl ?_
      refine WL.v (RV.move rfl) rfl ?_
      refine WL.know (d := 50) rfl (b' := false) (rfl) ?_
      refine WL.on rfl ?_
      refine WL.v (RV.move rfl) rfl ?_
      refine WL.on rfl ?_
      refine WL.v (RV.len (by first | exact h) Tryz.underlying31 rfl) rfl ?_
      refine WL.on rfl ?_
      refine WL.v (RV.move rfl) rfl ?_
      refine WL.on rfl ?_
      refine WL.v (RV.gtr rfl rfl) rfl ?_
      refine WL.v (RV.pickF rfl rfl) rfl ?_
      refine WL.nil ?_
      refine QF.seqNext ?_
      refine WC.cond rfl ?_ ?_
      · intro hbig
        replace hbig : 2 < l.length := by have := of_decide_eq_true hbig; omega
        refine WC.seq ?_
        refine WC.region ?_
        refine WL.v (RV.assign rfl) rfl ?_
        refine WL.v (RV.assign rfl) rfl ?_
        refine WL.nil ?_
        refine QF.seqNext ?_
        refine WC.ret ?_
        refine QF.thenRet ?_
        refine QF.done2 rfl rfl rfl (⟨(0, 0), rfl, hB _ ⟨fun _ => rfl, fun h => by omega, fun h => by omega⟩, rfl⟩)
      · intro hbig
        replace hbig : l.length ≤ 2 := by have := of_decide_eq_false hbig; omega
        refine WC.skip ?_
        refine QF.seqNext ?_
        refine WC.seq ?_
        refine WC.seq ?_
        refine WC.region ?_
        refine WL.v (RV.assign rfl) rfl ?_
        refine WL.nil ?_
        refine QF.seqNext ?_
        refine WC.block ?_
        refine WC.loop (fun x : Nat × Int => [(0, bv), (5, .int .i32 x.2), (6, .int .i32 128), (7, .int .i32 2047), (8, .int .i64 2), (9, .int .i64 x.1)]) (fun x : Nat × Int => w) (fun x : Nat × Int => 1 ≤ x.1 ∧ x.1 ≤ l.length ∧ contTo l x.1 ∧ x.2 = (vN l 192 x.1 : Nat)) (fun x : Nat × Int => l.length - x.1) (1, by8 l 0 - 192) (⟨Nat.le_refl _, h1, fun j a b => by dsimp only at b; omega, by simp only [vN]; omega⟩) ⟨rfl, rfl, rfl, rfl, rfl, rfl, trivial⟩ rfl ?_
        rintro ⟨i, v⟩ ⟨hi1, hil, hct, hv⟩
        dsimp only at hi1 hil hct hv ⊢
        refine WC.seq ?_
        refine WC.seq ?_
        refine WC.region ?_
        refine WL.v (RV.move rfl) rfl ?_
        refine WL.v (RV.move rfl) rfl ?_
        refine WL.v (RV.len (by first | exact h) Tryz.underlying31 rfl) rfl ?_
        refine WL.v (RV.lss rfl rfl) rfl ?_
        refine WL.nil ?_
        refine QF.seqNext ?_
        refine WC.cond rfl ?_ ?_
        · intro hlt
          replace hlt : i < l.length := by have := of_decide_eq_true hlt; omega
          obtain ⟨i, rfl⟩ : ∃ i', i = i' + 1 := ⟨i - 1, by omega⟩
          have hvl := vN_lt l 192 cc.2 i hct
          have hp : 64 ^ i ≤ 64 ^ 2 := Nat.pow_le_pow_right (by decide) (by omega)
          have hb256 := by8_lt l (i + 1)
          have hbe : (nth l (i + 1)).toNat = by8 l (i + 1) := rfl
          refine WC.skip ?_
          refine QF.seqNext ?_
          refine WC.seq ?_
          refine WC.block ?_
          refine WC.seq ?_
          refine WC.seq ?_
          refine WC.region ?_
          refine WL.v (RV.move rfl) rfl ?_
          refine WL.v (RV.move rfl) rfl ?_
          refine WL.v (RV.indexAddr (by first | exact h) Tryz.underlying31 (Tryz.sizeOf5 _) rfl rfl _ rfl (by omega)) rfl ?_
          refine WL.v (RV.load (by first | exact h.ld hlt) (Tryz.isAgg5 _) rfl) rfl ?_
          refine WL.v (RV.lss rfl rfl) rfl ?_
          refine WL.v (RV.move rfl) rfl ?_
          refine WL.orBS (fun w1 => _ = w1) (decide ((192 : Int) ≤ by8 l (i + 1))) 5 (rfl) rfl rfl rfl rfl rfl ?_ ?_
          · skip
            intro h4
            refine WL.on rfl ?_
            refine WL.v (RV.move rfl) rfl ?_
            refine WL.on rfl ?_
            refine WL.v (RV.move rfl) rfl ?_
            refine WL.on rfl ?_
            refine WL.v (RV.indexAddr (by first | exact h) Tryz.underlying31 (Tryz.sizeOf5 _) rfl rfl _ rfl (by omega)) rfl ?_
            refine WL.on rfl ?_
            refine WL.v (RV.load (by first | exact h.ld hlt) (Tryz.isAgg5 _) rfl) rfl ?_
            refine WL.on rfl ?_
            refine WL.v (RV.geq rfl rfl) rfl ?_
            refine WL.nil ?_
            refine QF.andEnd (tA := 67) 6 (rfl) rfl rfl rfl (fun v hv => (Option.some.inj hv).symm.trans (congrArg Value.bool h4)) rfl
          rintro _ rfl
          refine WL.nil ?_
          refine QF.seqNext ?_
          refine WC.cond rfl ?_ ?_
          · intro hbad
            replace hbad : by8 l (i + 1) < 128 ∨ 192 ≤ by8 l (i + 1) := by simp only [Bool.or_eq_true, decide_eq_true_eq, hbe] at hbad; omega
            refine WC.seq ?_
            refine WC.region ?_
            refine WL.v (RV.assign rfl) rfl ?_
            refine WL.v (RV.assign rfl) rfl ?_
            refine WL.nil ?_
            refine QF.seqNext ?_
            refine WC.ret ?_
            refine QF.thenRet ?_
            refine QF.blockRet ?_
            refine QF.thenRet ?_
            refine QF.thenRet ?_
            refine QF.blockRet ?_
            refine QF.thenRet ?_
            refine QF.done2 rfl rfl rfl (⟨(0, 0), rfl, hB _ ⟨fun _ => rfl, fun _ _ => rfl, fun _ hc => by have := hc (i + 1) (by omega) hlt; omega⟩, rfl⟩)
          · intro hok
            replace hok : 128 ≤ by8 l (i + 1) ∧ by8 l (i + 1) < 192 := by simp only [Bool.or_eq_false_iff, decide_eq_false_iff_not, hbe] at hok; omega
            refine WC.skip ?_
            refine QF.seqNext ?_
            refine WC.region ?_
            refine WL.v (RV.move rfl) rfl ?_
            refine WL.v (RV.mul rfl rfl (Fit.i32 (by omega))) rfl ?_
            refine WL.v (RV.move rfl) rfl ?_
            refine WL.v (RV.move rfl) rfl ?_
            refine WL.v (RV.indexAddr (by first | exact h) Tryz.underlying31 (Tryz.sizeOf5 _) rfl rfl _ rfl (by omega)) rfl ?_
            refine WL.v (RV.load (by first | exact h.ld hlt) (Tryz.isAgg5 _) rfl) rfl ?_
            refine WL.v (RV.conv Tryz.underlying5 Tryz.underlying21 rfl (Fit.i32 (by omega))) rfl ?_
            refine WL.v (RV.add rfl rfl (Fit.i32 (by omega))) rfl ?_
            refine WL.v (RV.sub rfl rfl (Fit.i32 (by omega))) rfl ?_
            refine WL.v (RV.assign rfl) rfl ?_
            refine WL.nil ?_
            refine QF.blockNormal ?_
            refine QF.seqNext ?_
            refine WC.region ?_
            refine WL.v (RV.move rfl) rfl ?_
            refine WL.v (RV.add rfl rfl (Fit.i64 (by omega))) rfl ?_
            refine WL.v (RV.assign rfl) rfl ?_
            refine WL.nil ?_
            refine QF.next ((i + 2, 64 * v + by8 l (i + 1) - 128)) (⟨by dsimp only; omega, hlt, fun j a b => (Nat.lt_succ_iff_lt_or_eq.1 b).elim (hct j a) (fun e => by subst e; exact hok), by dsimp only; simp only [vN]; omega⟩) (by dsimp only; omega) ⟨rfl, rfl, rfl, rfl, rfl, rfl, trivial⟩ rfl
        · intro hge
          obtain rfl : i = l.length := by have := of_decide_eq_false hge; omega
          have hvl : vN l 192 l.length < 32 * 64 ^ (l.length - 1) := by have := vN_lt l 192 cc.2 (l.length - 1) (by rw [Nat.sub_add_cancel h1]; exact hct); rwa [Nat.sub_add_cancel h1] at this
          refine WC.exit ?_
          refine QF.thenExit ?_
          refine QF.thenExit ?_
          refine QF.blockHit ?_
          refine QF.seqNext ?_
          refine WC.seq ?_
          refine WC.region ?_
          refine WL.v (RV.move rfl) rfl ?_
          refine WL.v (RV.move rfl) rfl ?_
          refine WL.v (RV.assign rfl) rfl ?_
          refine WL.v (RV.assign rfl) rfl ?_
          refine WL.nil ?_
          refine QF.seqNext ?_
          refine WC.seq ?_
          refine WC.seq ?_
          refine WC.region ?_
          refine WL.v (RV.move rfl) rfl ?_
          refine WL.v (RV.len (by first | exact h) Tryz.underlying31 rfl) rfl ?_
          refine WL.v (RV.assign rfl) rfl ?_
          refine WL.nil ?_
          refine QF.seqNext ?_
          refine WC.block ?_
          refine WC.loop (fun x : Nat × Int × Int => [(0, bv), (6, .int .i32 128), (7, .int .i32 2047), (8, .int .i64 2), (10, .int .i32 x.2.1), (11, .int .i32 x.2.2), (12, .int .i64 x.1)]) (fun x : Nat × Int × Int => w) (fun x : Nat × Int × Int => l.length ≤ x.1 ∧ x.1 ≤ 2 ∧ x.2.1 = (vN l 192 l.length * 64 ^ (x.1 - l.length) : Nat) ∧ x.2.2 = x.2.1 + (64 ^ (x.1 - l.length) : Nat) - 1) (fun x : Nat × Int × Int => 2 - x.1) (l.length, v, v) (⟨Nat.le_refl _, hbig, by simp [hv], by simp⟩) ⟨rfl, rfl, rfl, rfl, rfl, rfl, rfl, trivial⟩ rfl ?_
          rintro ⟨i, lo, hi⟩ ⟨hi1, hi2, hlo, hhi⟩
          dsimp only at hi1 hi2 hlo hhi ⊢
          have hbnd : vN l 192 l.length * 64 ^ (i - l.length) < 32 * 64 ^ (i - 1) := by
            have : 32 * 64 ^ (i - 1) = 32 * 64 ^ (l.length - 1) * 64 ^ (i - l.length) := by rw [Nat.mul_assoc, ← Nat.pow_add]; congr 2; omega
            rw [this]; exact Nat.mul_lt_mul_of_pos_right hvl (Nat.pow_pos (by decide))
          refine WC.seq ?_
          refine WC.seq ?_
          refine WC.region ?_
          refine WL.v (RV.move rfl) rfl ?_
          refine WL.v (RV.move rfl) rfl ?_
          refine WL.v (RV.lss rfl rfl) rfl ?_
          refine WL.nil ?_
          refine QF.seqNext ?_
          refine WC.cond rfl ?_ ?_
          · intro hlt
            replace hlt : i < 2 := by have := of_decide_eq_true hlt; omega
            have hp : 64 ^ (i - 1) ≤ 64 ^ 2 := Nat.pow_le_pow_right (by decide) (by omega)
            have hp2 : 64 ^ (i - l.length) ≤ 64 ^ 2 := Nat.pow_le_pow_right (by decide) (by omega)
            have hp3 : 64 ^ (i + 1 - l.length) = 64 * 64 ^ (i - l.length) := by rw [show i + 1 - l.length = (i - l.length) + 1 from by omega, Nat.pow_succ, Nat.mul_comm]
            have hp4 : vN l 192 l.length * (64 * 64 ^ (i - l.length)) = 64 * (vN l 192 l.length * 64 ^ (i - l.length)) := by rw [← Nat.mul_assoc, Nat.mul_comm _ 64, Nat.mul_assoc]
            generalize vN l 192 l.length * 64 ^ (i - l.length) = V at *
            generalize 64 ^ (i - l.length) = W at *
            refine WC.skip ?_
            refine QF.seqNext ?_
            refine WC.seq ?_
            refine WC.block ?_
            refine WC.region ?_
            refine WL.v (RV.move rfl) rfl ?_
            refine WL.v (RV.mul rfl rfl (Fit.i32 (by omega))) rfl ?_
            refine WL.v (RV.move rfl) rfl ?_
            refine WL.v (RV.mul rfl rfl (Fit.i32 (by omega))) rfl ?_
            refine WL.v (RV.add rfl rfl (Fit.i32 (by omega))) rfl ?_
            refine WL.v (RV.assign rfl) rfl ?_
            refine WL.v (RV.assign rfl) rfl ?_
            refine WL.nil ?_
            refine QF.blockNormal ?_
            refine QF.seqNext ?_
            refine WC.region ?_
            refine WL.v (RV.move rfl) rfl ?_
            refine WL.v (RV.add rfl rfl (Fit.i64 (by omega))) rfl ?_
            refine WL.v (RV.assign rfl) rfl ?_
            refine WL.nil ?_
            refine QF.next ((i + 1, 64 * lo, 64 * hi + 63)) (⟨by dsimp only; omega, hlt, by dsimp only; rw [hp3, hp4]; omega, by dsimp only; rw [hp3]; omega⟩) (by dsimp only; omega) ⟨rfl, rfl, rfl, rfl, rfl, rfl, rfl, trivial⟩ rfl
          · intro hge2
            obtain rfl : i = 2 := by have := of_decide_eq_false hge2; omega
            have hp2 : 1 ≤ 64 ^ (2 - l.length) := Nat.pow_pos (by decide)
            have hbg : begN l 2 192 128 2047 = if vN l 192 l.length * 64 ^ (2 - l.length) + 64 ^ (2 - l.length) - 1 < 128 ∨ 2047 < vN l 192 l.length * 64 ^ (2 - l.length) ∨ (55296 ≤ vN l 192 l.length * 64 ^ (2 - l.length) ∧ vN l 192 l.length * 64 ^ (2 - l.length) + 64 ^ (2 - l.length) - 1 ≤ 57343) then (0, 0) else (vN l 192 l.length * 64 ^ (2 - l.length), 2) := rfl
            generalize vN l 192 l.length * 64 ^ (2 - l.length) = V at *
            generalize 64 ^ (2 - l.length) = W at *
            have fin0 : (V + W - 1 < 128 ∨ 2047 < V ∨ (55296 ≤ V ∧ V + W - 1 ≤ 57343)) → Beg l (0, 0) := fun hh => hB _ ⟨fun _ => rfl, fun _ _ => rfl, fun _ _ => by rw [hbg, if_pos hh]⟩
            have fin1 : ¬ (V + W - 1 < 128 ∨ 2047 < V ∨ (55296 ≤ V ∧ V + W - 1 ≤ 57343)) → Beg l (V, 2) := fun hh => hB _ ⟨fun h => by omega, fun _ hc => absurd hct hc, fun _ _ => by rw [hbg, if_neg hh]⟩
            refine WC.exit ?_
            refine QF.thenExit ?_
            refine QF.thenExit ?_
            refine QF.blockHit ?_
            refine QF.seqNext ?_
            refine WC.seq ?_
            refine WC.seq ?_
            refine WC.region ?_
            refine WL.v (RV.move rfl) rfl ?_
            refine WL.v (RV.move rfl) rfl ?_
            refine WL.v (RV.lss rfl rfl) rfl ?_
            refine WL.v (RV.move rfl) rfl ?_
            by_cases q1 : hi < 128
            · skip
              refine WL.know (d := 100) rfl (b' := true) (decide_eq_true q1) ?_
              refine WL.off rfl rfl rfl ?_
              refine WL.off rfl rfl rfl ?_
              refine WL.off rfl rfl rfl ?_
              refine WL.v (RV.pickT rfl rfl) rfl ?_
              refine WL.v (RV.move rfl) rfl ?_
              refine WL.off rfl rfl rfl ?_
              refine WL.off rfl rfl rfl ?_
              refine WL.off rfl rfl rfl ?_
              refine WL.offU rfl rfl ?_
              refine WL.offU rfl rfl ?_
              refine WL.off rfl rfl rfl ?_
              refine WL.v (RV.pickT rfl rfl) rfl ?_
              refine WL.nil ?_
              refine QF.seqNext ?_
              refine WC.condT rfl rfl ?_
              refine WC.seq ?_
              refine WC.region ?_
              refine WL.v (RV.assign rfl) rfl ?_
              refine WL.v (RV.assign rfl) rfl ?_
              refine WL.nil ?_
              refine QF.seqNext ?_
              refine WC.ret ?_
              refine QF.thenRet ?_
              refine QF.done2 rfl rfl rfl (⟨(0, 0), rfl, fin0 (.inl (by omega)), rfl⟩)
            · skip
              refine WL.know (d := 100) rfl (b' := false) (decide_eq_false q1) ?_
              refine WL.on rfl ?_
              refine WL.v (RV.move rfl) rfl ?_
              refine WL.on rfl ?_
              refine WL.v (RV.move rfl) rfl ?_
              refine WL.on rfl ?_
              refine WL.v (RV.gtr rfl rfl) rfl ?_
              refine WL.v (RV.pickF rfl rfl) rfl ?_
              refine WL.v (RV.move rfl) rfl ?_
              by_cases q2 : 2047 < lo
              · skip
                refine WL.know (d := 105) rfl (b' := true) (decide_eq_true q2) ?_
                refine WL.off rfl rfl rfl ?_
                refine WL.off rfl rfl rfl ?_
                refine WL.off rfl rfl rfl ?_
                refine WL.offU rfl rfl ?_
                refine WL.offU rfl rfl ?_
                refine WL.off rfl rfl rfl ?_
                refine WL.v (RV.pickT rfl rfl) rfl ?_
                refine WL.nil ?_
                refine QF.seqNext ?_
                refine WC.condT rfl rfl ?_
                refine WC.seq ?_
                refine WC.region ?_
                refine WL.v (RV.assign rfl) rfl ?_
                refine WL.v (RV.assign rfl) rfl ?_
                refine WL.nil ?_
                refine QF.seqNext ?_
                refine WC.ret ?_
                refine QF.thenRet ?_
                refine QF.done2 rfl rfl rfl (⟨(0, 0), rfl, fin0 (.inr (.inl (by omega))), rfl⟩)
              · skip
                refine WL.know (d := 105) rfl (b' := false) (decide_eq_false q2) ?_
                refine WL.on rfl ?_
                refine WL.v (RV.move rfl) rfl ?_
                refine WL.on rfl ?_
                refine WL.v (RV.geq rfl rfl) rfl ?_
                refine WL.on rfl ?_
                refine WL.v (RV.move rfl) rfl ?_
                by_cases q3 : 55296 ≤ lo
                · skip
                  refine WL.know (d := 108) rfl (b' := true) (decide_eq_true q3) ?_
                  refine WL.on rfl ?_
                  refine WL.v (RV.move rfl) rfl ?_
                  refine WL.on rfl ?_
                  refine WL.v (RV.leq rfl rfl) rfl ?_
                  refine WL.on rfl ?_
                  refine WL.v (RV.pickT rfl rfl) rfl ?_
                  refine WL.v (RV.pickF rfl rfl) rfl ?_
                  refine WL.nil ?_
                  refine QF.seqNext ?_
                  refine WC.cond rfl ?_ ?_
                  · intro q4
                    replace q4 : hi ≤ 57343 := of_decide_eq_true q4
                    refine WC.seq ?_
                    refine WC.region ?_
                    refine WL.v (RV.assign rfl) rfl ?_
                    refine WL.v (RV.assign rfl) rfl ?_
                    refine WL.nil ?_
                    refine QF.seqNext ?_
                    refine WC.ret ?_
                    refine QF.thenRet ?_
                    refine QF.done2 rfl rfl rfl (⟨(0, 0), rfl, fin0 (.inr (.inr (by omega))), rfl⟩)
                  · intro q4
                    replace q4 : ¬ hi ≤ 57343 := of_decide_eq_false q4
                    refine WC.skip ?_
                    refine QF.seqNext ?_
                    refine WC.seq ?_
                    refine WC.region ?_
                    refine WL.v (RV.move rfl) rfl ?_
                    refine WL.v (RV.move rfl) rfl ?_
                    refine WL.v (RV.assign rfl) rfl ?_
                    refine WL.v (RV.assign rfl) rfl ?_
                    refine WL.nil ?_
                    refine QF.seqNext ?_
                    refine WC.ret ?_
                    refine QF.done2 rfl rfl rfl (⟨(V, 2), by rw [hlo]; rfl, fin1 (by omega), rfl⟩)
                · skip
                  refine WL.know (d := 108) rfl (b' := false) (decide_eq_false q3) ?_
                  refine WL.off rfl rfl rfl ?_
                  refine WL.off rfl rfl rfl ?_
                  refine WL.on rfl ?_
                  refine WL.v (RV.pickF rfl rfl) rfl ?_
                  refine WL.v (RV.pickF rfl rfl) rfl ?_
                  refine WL.nil ?_
                  refine QF.seqNext ?_
                  refine WC.condF rfl rfl ?_
                  refine WC.skip ?_
                  refine QF.seqNext ?_
                  refine WC.seq ?_
                  refine WC.region ?_
                  refine WL.v (RV.move rfl) rfl ?_
                  refine WL.v (RV.move rfl) rfl ?_
                  refine WL.v (RV.assign rfl) rfl ?_
                  refine WL.v (RV.assign rfl) rfl ?_
                  refine WL.nil ?_
                  refine QF.seqNext ?_
                  refine WC.ret ?_
                  refine QF.done2 rfl rfl rfl (⟨(V, 2), by rw [hlo]; rfl, fin1 (by omega), rfl⟩)
    · intro p2
      replace p2 : ¬ (192 ≤ by8 l 0 ∧ by8 l 0 < 224) := by simp only [Bool.and_eq_false_iff, decide_eq_false_iff_not, hbe0] at p2; omega
      refine WC.seq ?_
      refine WC.region ?_
      refine WL.v (RV.move rfl) rfl ?_
      refine WL.v (RV.geq rfl rfl) rfl ?_
      refine WL.v (RV.move rfl) rfl ?_
      refine WL.andBS (fun w1 => _ = w1) (decide ((by8 l 0 : Int) < 240)) 2 (rfl) rfl rfl rfl rfl rfl ?_ ?_
      · skip
        intro r2
        refine WL.on rfl ?_
        refine WL.v (RV.move rfl) rfl ?_
        refine WL.on rfl ?_
        refine WL.v (RV.lss rfl rfl) rfl ?_
        refine WL.nil ?_
        refine QF.andEnd (tA := 33) 3 (rfl) rfl rfl rfl (fun v hv => (Option.some.inj hv).symm.trans (congrArg Value.bool r2)) rfl
      rintro _ rfl
      refine WL.v (RV.assign rfl) rfl ?_
      refine WL.nil ?_
      refine QF.seqNext ?_
      refine WC.cond rfl ?_ ?_
      · intro p3
        replace p3 : 224 ≤ by8 l 0 ∧ by8 l 0 < 240 := by simp only [Bool.and_eq_true, decide_eq_true_eq, hbe0] at p3; omega
        have cc : 224 ≤ by8 l 0 ∧ by8 l 0 < 224 + 32 := by omega
        have hB : ∀ r : Nat × Nat, (((3 < l.length → r = (0, 0)) ∧ (l.length ≤ 3 → ¬ contTo l l.length → r = (0, 0)) ∧ (l.length ≤ 3 → contTo l l.length → r = begN l 3 224 2048 65535))) → Beg l r := by
          intro r hr
          refine ⟨fun h => by omega, fun h => by omega, ?_⟩
          rintro n base least most (⟨rfl, rfl, rfl, rfl, h1, h2⟩ | ⟨rfl, rfl, rfl, rfl, h1, h2⟩ | ⟨rfl, rfl, rfl, rfl, h1, h2⟩) <;> first | exact hr | (exfalso; omega)
        refine WC.region ?_
        refine WL.v (RV.move rfl) rfl ?_
        refine WL.v (RV.sub rfl rfl (Fit.i32 (by omega))) rfl ?_
        refine WL.v (RV.assign rfl) rfl ?_
        refine WL.v (RV.assign rfl) rfl ?_
        refine WL.v (RV.assign rfl) rfl ?_
        refine WL.v (RV.assign rfl) rfl ?_
        refine WL.nil ?_
        refine QF.blockNormal ?_
        refine QF.seqNext ?_
        refine WC.seq ?_
        refine WC.seq ?_
        refine WC.region ?_
        refine WL.v (RV.move rfl) rfl ?_
        refine WL.v (RV.eql rfl rfl) rfl ?_
        refine WL.v (RV.move rfl) rfl ?_
        refine WL.know (d := 50) rfl (b' := false) (rfl) ?_
        refine WL.on rfl ?_
        refine WL.v (RV.move rfl) rfl ?_
        refine WL.on rfl ?_
        refine WL.v (RV.len (by first | exact h) Tryz.underlying31 rfl) rfl ?_
        refine WL.on rfl ?_
        refine WL.v (RV.move rfl) rfl ?_
        refine WL.on rfl ?_
        refine WL.v (RV.gtr rfl rfl) rfl ?_
        refine WL.v (RV.pickF rfl rfl) rfl ?_
        refine WL.nil ?_
        refine QF.seqNext ?_
        refine WC.cond rfl ?_ ?_
        · intro hbig
          replace hbig : 3 < l.length := by have := of_decide_eq_true hbig; omega
          refine WC.seq ?_
          refine WC.region ?_
          refine WL.v (RV.assign rfl) rfl ?_
          refine WL.v (RV.assign rfl) rfl ?_
          refine WL.nil ?_
          refine QF.seqNext ?_
          refine WC.ret ?_
          refine QF.thenRet ?_
          refine QF.done2 rfl rfl rfl (⟨(0, 0), rfl, hB _ ⟨fun _ => rfl, fun h => by omega, fun h => by omega⟩, rfl⟩)
        · intro hbig
          replace hbig : l.length ≤ 3 := by have := of_decide_eq_false hbig; omega
          refine WC.skip ?_
          refine QF.seqNext ?_
          refine WC.seq ?_
          refine WC.seq ?_
          refine WC.region ?_
          refine WL.v (RV.assign rfl) rfl ?_
          refine WL.nil ?_
          refine QF.seqNext ?_
          refine WC.block ?_
          refine WC.loop (fun x : Nat × Int => [(0, bv), (5, .int .i32 x.2), (6, .int .i32 2048), (7, .int .i32 65535), (8, .int .i64 3), (9, .int .i64 x.1)]) (fun x : Nat × Int => w) (fun x : Nat × Int => 1 ≤ x.1 ∧ x.1 ≤ l.length ∧ contTo l x.1 ∧ x.2 = (vN l 224 x.1 : Nat)) (fun x : Nat × Int => l.length - x.1) (1, by8 l 0 - 224) (⟨Nat.le_refl _, h1, fun j a b => by dsimp only at b; omega, by simp only [vN]; omega⟩) ⟨rfl, rfl, rfl, rfl, rfl, rfl, trivial⟩ rfl ?_
          rintro ⟨i, v⟩ ⟨hi1, hil, hct, hv⟩
          dsimp only at hi1 hil hct hv ⊢
          refine WC.seq ?_
          refine WC.seq ?_
          refine WC.region ?_
          refine WL.v (RV.move rfl) rfl ?_
          refine WL.v (RV.move rfl) rfl ?_
          refine WL.v (RV.len (by first | exact h) Tryz.underlying31 rfl) rfl ?_
          refine WL.v (RV.lss rfl rfl) rfl ?_
          refine WL.nil ?_
          refine QF.seqNext ?_
          refine WC.cond rfl ?_ ?_
          · intro hlt
            replace hlt : i < l.length := by have := of_decide_eq_true hlt; omega
            obtain ⟨i, rfl⟩ : ∃ i', i = i' + 1 := ⟨i - 1, by omega⟩
            have hvl := vN_lt l 224 cc.2 i hct
            have hp : 64 ^ i ≤ 64 ^ 2 := Nat.pow_le_pow_right (by decide) (by omega)
            have hb256 := by8_lt l (i + 1)
            have hbe : (nth l (i + 1)).toNat = by8 l (i + 1) := rfl
            refine WC.skip ?_
            refine QF.seqNext ?_
            refine WC.seq ?_
            refine WC.block ?_
            refine WC.seq ?_
            refine WC.seq ?_
            refine WC.region ?_
            refine WL.v (RV.move rfl) rfl ?_
            refine WL.v (RV.move rfl) rfl ?_
            refine WL.v (RV.indexAddr (by first | exact h) Tryz.underlying31 (Tryz.sizeOf5 _) rfl rfl _ rfl (by omega)) rfl ?_
            refine WL.v (RV.load (by first | exact h.ld hlt) (Tryz.isAgg5 _) rfl) rfl ?_
            refine WL.v (RV.lss rfl rfl) rfl ?_
            refine WL.v (RV.move rfl) rfl ?_
            refine WL.orBS (fun w1 => _ = w1) (decide ((192 : Int) ≤ by8 l (i + 1))) 5 (rfl) rfl rfl rfl rfl rfl ?_ ?_
            · skip
              intro h4
              refine WL.on rfl ?_
              refine WL.v (RV.move rfl) rfl ?_
              refine WL.on rfl ?_
              refine WL.v (RV.move rfl) rfl ?_
              refine WL.on rfl ?_
              refine WL.v (RV.indexAddr (by first | exact h) Tryz.underlying31 (Tryz.sizeOf5 _) rfl rfl _ rfl (by omega)) rfl ?_
              refine WL.on rfl ?_
              refine WL.v (RV.load (by first | exact h.ld hlt) (Tryz.isAgg5 _) rfl) rfl ?_
              refine WL.on rfl ?_
              refine WL.v (RV.geq rfl rfl) rfl ?_
              refine WL.nil ?_
              refine QF.andEnd (tA := 67) 6 (rfl) rfl rfl rfl (fun v hv => (Option.some.inj hv).symm.trans (congrArg Value.bool h4)) rfl
            rintro _ rfl
            refine WL.nil ?_
            refine QF.seqNext ?_
            refine WC.cond rfl ?_ ?_
            · intro hbad
              replace hbad : by8 l (i + 1) < 128 ∨ 192 ≤ by8 l (i + 1) := by simp only [Bool.or_eq_true, decide_eq_true_eq, hbe] at hbad; omega
              refine WC.seq ?_
              refine WC.region ?_
              refine WL.v (RV.assign rfl) rfl ?_
              refine WL.v (RV.assign rfl) rfl ?_
              refine WL.nil ?_
              refine QF.seqNext ?_
              refine WC.ret ?_
              refine QF.thenRet ?_
              refine QF.blockRet ?_
              refine QF.thenRet ?_
              refine QF.thenRet ?_
              refine QF.blockRet ?_
              refine QF.thenRet ?_
              refine QF.done2 rfl rfl rfl (⟨(0, 0), rfl, hB _ ⟨fun _ => rfl, fun _ _ => rfl, fun _ hc => by have := hc (i + 1) (by omega) hlt; omega⟩, rfl⟩)
            · intro hok
              replace hok : 128 ≤ by8 l (i + 1) ∧ by8 l (i + 1) < 192 := by simp only [Bool.or_eq_false_iff, decide_eq_false_iff_not, hbe] at hok; omega
              refine WC.skip ?_
              refine QF.seqNext ?_
              refine WC.region ?_
              refine WL.v (RV.move rfl) rfl ?_
              refine WL.v (RV.mul rfl rfl (Fit.i32 (by omega))) rfl ?_
              refine WL.v (RV.move rfl) rfl ?_
              refine WL.v (RV.move rfl) rfl ?_
              refine WL.v (RV.indexAddr (by first | exact h) Tryz.underlying31 (Tryz.sizeOf5 _) rfl rfl _ rfl (by omega)) rfl ?_
              refine WL.v (RV.load (by first | exact h.ld hlt) (Tryz.isAgg5 _) rfl) rfl ?_
              refine WL.v (RV.conv Tryz.underlying5 Tryz.underlying21 rfl (Fit.i32 (by omega))) rfl ?_
              refine WL.v (RV.add rfl rfl (Fit.i32 (by omega))) rfl ?_
              refine WL.v (RV.sub rfl rfl (Fit.i32 (by omega))) rfl ?_
              refine WL.v (RV.assign rfl) rfl ?_
              refine WL.nil ?_
              refine QF.blockNormal ?_
              refine QF.seqNext ?_
              refine WC.region ?_
              refine WL.v (RV.move rfl) rfl ?_
              refine WL.v (RV.add rfl rfl (Fit.i64 (by omega))) rfl ?_
              refine WL.v (RV.assign rfl) rfl ?_
              refine WL.nil ?_
              refine QF.next ((i + 2, 64 * v + by8 l (i + 1) - 128)) (⟨by dsimp only; omega, hlt, fun j a b => (Nat.lt_succ_iff_lt_or_eq.1 b).elim (hct j a) (fun e => by subst e; exact hok), by dsimp only; simp only [vN]; omega⟩) (by dsimp only; omega) ⟨rfl, rfl, rfl, rfl, rfl, rfl, trivial⟩ rfl
          · intro hge
            obtain rfl : i = l.length := by have := of_decide_eq_false hge; omega
            have hvl : vN l 224 l.length < 32 * 64 ^ (l.length - 1) := by have := vN_lt l 224 cc.2 (l.length - 1) (by rw [Nat.sub_add_cancel h1]; exact hct); rwa [Nat.sub_add_cancel h1] at this
            refine WC.exit ?_
            refine QF.thenExit ?_
            refine QF.thenExit ?_
            refine QF.blockHit ?_
            refine QF.seqNext ?_
            refine WC.seq ?_
            refine WC.region ?_
            refine WL.v (RV.move rfl) rfl ?_
            refine WL.v (RV.move rfl) rfl ?_
            refine WL.v (RV.assign rfl) rfl ?_
            refine WL.v (RV.assign rfl) rfl ?_
            refine WL.nil ?_
            refine QF.seqNext ?_
            refine WC.seq ?_
            refine WC.seq ?_
            refine WC.region ?_
            refine WL.v (RV.move rfl) rfl ?_
            refine WL.v (RV.len (by first | exact h) Tryz.underlying31 rfl) rfl ?_
            refine WL.v (RV.assign rfl) rfl ?_
            refine WL.nil ?_
            refine QF.seqNext ?_
            refine WC.block ?_
            refine WC.loop (fun x : Nat × Int × Int => [(0, bv), (6, .int .i32 2048), (7, .int .i32 65535), (8, .int .i64 3), (10, .int .i32 x.2.1), (11, .int .i32 x.2.2), (12, .int .i64 x.1)]) (fun x : Nat × Int × Int => w) (fun x : Nat × Int × Int => l.length ≤ x.1 ∧ x.1 ≤ 3 ∧ x.2.1 = (vN l 224 l.length * 64 ^ (x.1 - l.length) : Nat) ∧ x.2.2 = x.2.1 + (64 ^ (x.1 - l.length) : Nat) - 1) (fun x : Nat × Int × Int => 3 - x.1) (l.length, v, v) (⟨Nat.le_refl _, hbig, by simp [hv], by simp⟩) ⟨rfl, rfl, rfl, rfl, rfl, rfl, rfl, trivial⟩ rfl ?_
            rintro ⟨i, lo, hi⟩ ⟨hi1, hi2, hlo, hhi⟩
            dsimp only at hi1 hi2 hlo hhi ⊢
            have hbnd : vN l 224 l.length * 64 ^ (i - l.length) < 32 * 64 ^ (i - 1) := by
              have : 32 * 64 ^ (i - 1) = 32 * 64 ^ (l.length - 1) * 64 ^ (i - l.length) := by rw [Nat.mul_assoc, ← Nat.pow_add]; congr 2; omega
              rw [this]; exact Nat.mul_lt_mul_of_pos_right hvl (Nat.pow_pos (by decide))
            refine WC.seq ?_
            refine WC.seq ?_
            refine WC.region ?_
            refine WL.v (RV.move rfl) rfl ?_
            refine WL.v (RV.move rfl) rfl ?_
            refine WL.v (RV.lss rfl rfl) rfl ?_
            refine WL.nil ?_
            refine QF.seqNext ?_
            refine WC.cond rfl ?_ ?_
            · intro hlt
              replace hlt : i < 3 := by have := of_decide_eq_true hlt; omega
              have hp : 64 ^ (i - 1) ≤ 64 ^ 2 := Nat.pow_le_pow_right (by decide) (by omega)
              have hp2 : 64 ^ (i - l.length) ≤ 64 ^ 2 := Nat.pow_le_pow_right (by decide) (by omega)
              have hp3 : 64 ^ (i + 1 - l.length) = 64 * 64 ^ (i - l.length) := by rw [show i + 1 - l.length = (i - l.length) + 1 from by omega, Nat.pow_succ, Nat.mul_comm]
              have hp4 : vN l 224 l.length * (64 * 64 ^ (i - l.length)) = 64 * (vN l 224 l.length * 64 ^ (i - l.length)) := by rw [← Nat.mul_assoc, Nat.mul_comm _ 64, Nat.mul_assoc]
              generalize vN l 224 l.length * 64 ^ (i - l.length) = V at *
              generalize 64 ^ (i - l.length) = W at *
              refine WC.skip ?_
              refine QF.seqNext ?_
              refine WC.seq ?_
              refine WC.block ?_
              refine WC.region ?_
              refine WL.v (RV.move rfl) rfl ?_
              refine WL.v (RV.mul rfl rfl (Fit.i32 (by omega))) rfl ?_
              refine WL.v (RV.move rfl) rfl ?_
              refine WL.v (RV.mul rfl rfl (Fit.i32 (by omega))) rfl ?_
              refine WL.v (RV.add rfl rfl (Fit.i32 (by omega))) rfl ?_
              refine WL.v (RV.assign rfl) rfl ?_
              refine WL.v (RV.assign rfl) rfl ?_
              refine WL.nil ?_
              refine QF.blockNormal ?_
              refine QF.seqNext ?_
              refine WC.region ?_
              refine WL.v (RV.move rfl) rfl ?_
              refine WL.v (RV.add rfl rfl (Fit.i64 (by omega))) rfl ?_
              refine WL.v (RV.assign rfl) rfl ?_
              refine WL.nil ?_
              refine QF.next ((i + 1, 64 * lo, 64 * hi + 63)) (⟨by dsimp only; omega, hlt, by dsimp only; rw [hp3, hp4]; omega, by dsimp only; rw [hp3]; omega⟩) (by dsimp only; omega) ⟨rfl, rfl, rfl, rfl, rfl, rfl, rfl, trivial⟩ rfl
            · intro hge2
              obtain rfl : i = 3 := by have := of_decide_eq_false hge2; omega
              have hp2 : 1 ≤ 64 ^ (3 - l.length) := Nat.pow_pos (by decide)
              have hbg : begN l 3 224 2048 65535 = if vN l 224 l.length * 64 ^ (3 - l.length) + 64 ^ (3 - l.length) - 1 < 2048 ∨ 65535 < vN l 224 l.length * 64 ^ (3 - l.length) ∨ (55296 ≤ vN l 224 l.length * 64 ^ (3 - l.length) ∧ vN l 224 l.length * 64 ^ (3 - l.length) + 64 ^ (3 - l.length) - 1 ≤ 57343) then (0, 0) else (vN l 224 l.length * 64 ^ (3 - l.length), 3) := rfl
              generalize vN l 224 l.length * 64 ^ (3 - l.length) = V at *
              generalize 64 ^ (3 - l.length) = W at *
              have fin0 : (V + W - 1 < 2048 ∨ 65535 < V ∨ (55296 ≤ V ∧ V + W - 1 ≤ 57343)) → Beg l (0, 0) := fun hh => hB _ ⟨fun _ => rfl, fun _ _ => rfl, fun _ _ => by rw [hbg, if_pos hh]⟩
              have fin1 : ¬ (V + W - 1 < 2048 ∨ 65535 < V ∨ (55296 ≤ V ∧ V + W - 1 ≤ 57343)) → Beg l (V, 3) := fun hh => hB _ ⟨fun h => by omega, fun _ hc => absurd hct hc, fun _ _ => by rw [hbg, if_neg hh]⟩
              refine WC.exit ?_
              refine QF.thenExit ?_
              refine QF.thenExit ?_
              refine QF.blockHit ?_
              refine QF.seqNext ?_
              refine WC.seq ?_
              refine WC.seq ?_
              refine WC.region ?_
              refine WL.v (RV.move rfl) rfl ?_
              refine WL.v (RV.move rfl) rfl ?_
              refine WL.v (RV.lss rfl rfl) rfl ?_
              refine WL.v (RV.move rfl) rfl ?_
              by_cases q1 : hi < 2048
              · skip
                refine WL.know (d := 100) rfl (b' := true) (decide_eq_true q1) ?_
                refine WL.off rfl rfl rfl ?_
                refine WL.off rfl rfl rfl ?_
                refine WL.off rfl rfl rfl ?_
                refine WL.v (RV.pickT rfl rfl) rfl ?_
                refine WL.v (RV.move rfl) rfl ?_
                refine WL.off rfl rfl rfl ?_
                refine WL.off rfl rfl rfl ?_
                refine WL.off rfl rfl rfl ?_
                refine WL.offU rfl rfl ?_
                refine WL.offU rfl rfl ?_
                refine WL.off rfl rfl rfl ?_
                refine WL.v (RV.pickT rfl rfl) rfl ?_
                refine WL.nil ?_
                refine QF.seqNext ?_
                refine WC.condT rfl rfl ?_
                refine WC.seq ?_
                refine WC.region ?_
                refine WL.v (RV.assign rfl) rfl ?_
                refine WL.v (RV.assign rfl) rfl ?_
                refine WL.nil ?_
                refine QF.seqNext ?_
                refine WC.ret ?_
                refine QF.thenRet ?_
                refine QF.done2 rfl rfl rfl (⟨(0, 0), rfl, fin0 (.inl (by omega)), rfl⟩)
              · skip
                refine WL.know (d := 100) rfl (b' := false) (decide_eq_false q1) ?_
                refine WL.on rfl ?_
                refine WL.v (RV.move rfl) rfl ?_
                refine WL.on rfl ?_
                refine WL.v (RV.move rfl) rfl ?_
                refine WL.on rfl ?_
                refine WL.v (RV.gtr rfl rfl) rfl ?_
                refine WL.v (RV.pickF rfl rfl) rfl ?_
                refine WL.v (RV.move rfl) rfl ?_
                by_cases q2 : 65535 < lo
                · skip
                  refine WL.know (d := 105) rfl (b' := true) (decide_eq_true q2) ?_
                  refine WL.off rfl rfl rfl ?_
                  refine WL.off rfl rfl rfl ?_
                  refine WL.off rfl rfl rfl ?_
                  refine WL.offU rfl rfl ?_
                  refine WL.offU rfl rfl ?_
                  refine WL.off rfl rfl rfl ?_
                  refine WL.v (RV.pickT rfl rfl) rfl ?_
                  refine WL.nil ?_
                  refine QF.seqNext ?_
                  refine WC.condT rfl rfl ?_
                  refine WC.seq ?_
                  refine WC.region ?_
                  refine WL.v (RV.assign rfl) rfl ?_
                  refine WL.v (RV.assign rfl) rfl ?_
                  refine WL.nil ?_
                  refine QF.seqNext ?_
                  refine WC.ret ?_
                  refine QF.thenRet ?_
                  refine QF.done2 rfl rfl rfl (⟨(0, 0), rfl, fin0 (.inr (.inl (by omega))), rfl⟩)
                · skip
                  refine WL.know (d := 105) rfl (b' := false) (decide_eq_false q2) ?_
                  refine WL.on rfl ?_
                  refine WL.v (RV.move rfl) rfl ?_
                  refine WL.on rfl ?_
                  refine WL.v (RV.geq rfl rfl) rfl ?_
                  refine WL.on rfl ?_
                  refine WL.v (RV.move rfl) rfl ?_
                  by_cases q3 : 55296 ≤ lo
                  · skip
                    refine WL.know (d := 108) rfl (b' := true) (decide_eq_true q3) ?_
                    refine WL.on rfl ?_
                    refine WL.v (RV.move rfl) rfl ?_
                    refine WL.on rfl ?_
                    refine WL.v (RV.leq rfl rfl) rfl ?_
                    refine WL.on rfl ?_
                    refine WL.v (RV.pickT rfl rfl) rfl ?_
                    refine WL.v (RV.pickF rfl rfl) rfl ?_
                    refine WL.nil ?_
                    refine QF.seqNext ?_
                    refine WC.cond rfl ?_ ?_
                    · intro q4
                      replace q4 : hi ≤ 57343 := of_decide_eq_true q4
                      refine WC.seq ?_
                      refine WC.region ?_
                      refine WL.v (RV.assign rfl) rfl ?_
                      refine WL.v (RV.assign rfl) rfl ?_
                      refine WL.nil ?_
                      refine QF.seqNext ?_
                      refine WC.ret ?_
                      refine QF.thenRet ?_
                      refine QF.done2 rfl rfl rfl (⟨(0, 0), rfl, fin0 (.inr (.inr (by omega))), rfl⟩)
                    · intro q4
                      replace q4 : ¬ hi ≤ 57343 := of_decide_eq_false q4
                      refine WC.skip ?_
                      refine QF.seqNext ?_
                      refine WC.seq ?_
                      refine WC.region ?_
                      refine WL.v (RV.move rfl) rfl ?_
                      refine WL.v (RV.move rfl) rfl ?_
                      refine WL.v (RV.assign rfl) rfl ?_
                      refine WL.v (RV.assign rfl) rfl ?_
                      refine WL.nil ?_
                      refine QF.seqNext ?_
                      refine WC.ret ?_
                      refine QF.done2 rfl rfl rfl (⟨(V, 3), by rw [hlo]; rfl, fin1 (by omega), rfl⟩)
                  · skip
                    refine WL.know (d := 108) rfl (b' := false) (decide_eq_false q3) ?_
                    refine WL.off rfl rfl rfl ?_
                    refine WL.off rfl rfl rfl ?_
                    refine WL.on rfl ?_
                    refine WL.v (RV.pickF rfl rfl) rfl ?_
                    refine WL.v (RV.pickF rfl rfl) rfl ?_
                    refine WL.nil ?_
                    refine QF.seqNext ?_
                    refine WC.condF rfl rfl ?_
                    refine WC.skip ?_
                    refine QF.seqNext ?_
                    refine WC.seq ?_
                    refine WC.region ?_
                    refine WL.v (RV.move rfl) rfl ?_
                    refine WL.v (RV.move rfl) rfl ?_
                    refine WL.v (RV.assign rfl) rfl ?_
                    refine WL.v (RV.assign rfl) rfl ?_
                    refine WL.nil ?_
                    refine QF.seqNext ?_
                    refine WC.ret ?_
                    refine QF.done2 rfl rfl rfl (⟨(V, 3), by rw [hlo]; rfl, fin1 (by omega), rfl⟩)
      · intro p3
        replace p3 : ¬ (224 ≤ by8 l 0 ∧ by8 l 0 < 240) := by simp only [Bool.and_eq_false_iff, decide_eq_false_iff_not, hbe0] at p3; omega
        refine WC.seq ?_
        refine WC.region ?_
        refine WL.v (RV.move rfl) rfl ?_
        refine WL.v (RV.geq rfl rfl) rfl ?_
        refine WL.v (RV.move rfl) rfl ?_
        refine WL.andBS (fun w1 => _ = w1) (decide ((by8 l 0 : Int) < 248)) 2 (rfl) rfl rfl rfl rfl rfl ?_ ?_
        · skip
          intro r3
          refine WL.on rfl ?_
          refine WL.v (RV.move rfl) rfl ?_
          refine WL.on rfl ?_
          refine WL.v (RV.lss rfl rfl) rfl ?_
          refine WL.nil ?_
          refine QF.andEnd (tA := 42) 3 (rfl) rfl rfl rfl (fun v hv => (Option.some.inj hv).symm.trans (congrArg Value.bool r3)) rfl
        rintro _ rfl
        refine WL.v (RV.assign rfl) rfl ?_
        refine WL.nil ?_
        refine QF.seqNext ?_
        refine WC.cond rfl ?_ ?_
        · intro p4
          replace p4 : 240 ≤ by8 l 0 ∧ by8 l 0 < 248 := by simp only [Bool.and_eq_true, decide_eq_true_eq, hbe0] at p4; omega
          have cc : 240 ≤ by8 l 0 ∧ by8 l 0 < 240 + 32 := by omega
          have hB : ∀ r : Nat × Nat, (((4 < l.length → r = (0, 0)) ∧ (l.length ≤ 4 → ¬ contTo l l.length → r = (0, 0)) ∧ (l.length ≤ 4 → contTo l l.length → r = begN l 4 240 65536 1114111))) → Beg l r := by
            intro r hr
            refine ⟨fun h => by omega, fun h => by omega, ?_⟩
            rintro n base least most (⟨rfl, rfl, rfl, rfl, h1, h2⟩ | ⟨rfl, rfl, rfl, rfl, h1, h2⟩ | ⟨rfl, rfl, rfl, rfl, h1, h2⟩) <;> first | exact hr | (exfalso; omega)
          refine WC.region ?_
          refine WL.v (RV.move rfl) rfl ?_
          refine WL.v (RV.sub rfl rfl (Fit.i32 (by omega))) rfl ?_
          refine WL.v (RV.assign rfl) rfl ?_
          refine WL.v (RV.assign rfl) rfl ?_
          refine WL.v (RV.assign rfl) rfl ?_
          refine WL.v (RV.assign rfl) rfl ?_
          refine WL.nil ?_
          refine QF.blockNormal ?_
          refine QF.seqNext ?_
          refine WC.seq ?_
          refine WC.seq ?_
          refine WC.region ?_
          refine WL.v (RV.move rfl) rfl ?_
          refine WL.v (RV.eql rfl rfl) rfl ?_
          refine WL.v (RV.move rfl) rfl ?_
          refine WL.know (d := 50) rfl (b' := false) (rfl) ?_
          refine WL.on rfl ?_
          refine WL.v (RV.move rfl) rfl ?_
          refine WL.on rfl ?_
          refine WL.v (RV.len (by first | exact h) Tryz.underlying31 rfl) rfl ?_
          refine WL.on rfl ?_
          refine WL.v (RV.move rfl) rfl ?_
          refine WL.on rfl ?_
          refine WL.v (RV.gtr rfl rfl) rfl ?_
          refine WL.v (RV.pickF rfl rfl) rfl ?_
          refine WL.nil ?_
          refine QF.seqNext ?_
          refine WC.cond rfl ?_ ?_
          · intro hbig
            replace hbig : 4 < l.length := by have := of_decide_eq_true hbig; omega
            refine WC.seq ?_
            refine WC.region ?_
            refine WL.v (RV.assign rfl) rfl ?_
            refine WL.v (RV.assign rfl) rfl ?_
            refine WL.nil ?_
            refine QF.seqNext ?_
            refine WC.ret ?_
            refine QF.thenRet ?_
            refine QF.done2 rfl rfl rfl (⟨(0, 0), rfl, hB _ ⟨fun _ => rfl, fun h => by omega, fun h => by omega⟩, rfl⟩)
          · intro hbig
            replace hbig : l.length ≤ 4 := by have := of_decide_eq_false hbig; omega
            refine WC.skip ?_
            refine QF.seqNext ?_
            refine WC.seq ?_
            refine WC.seq ?_
            refine WC.region ?_
            refine WL.v (RV.assign rfl) rfl ?_
            refine WL.nil ?_
            refine QF.seqNext ?_
            refine WC.block ?_
            refine WC.loop (fun x : Nat × Int => [(0, bv), (5, .int .i32 x.2), (6, .int .i32 65536), (7, .int .i32 1114111), (8, .int .i64 4), (9, .int .i64 x.1)]) (fun x : Nat × Int => w) (fun x : Nat × Int => 1 ≤ x.1 ∧ x.1 ≤ l.length ∧ contTo l x.1 ∧ x.2 = (vN l 240 x.1 : Nat)) (fun x : Nat × Int => l.length - x.1) (1, by8 l 0 - 240) (⟨Nat.le_refl _, h1, fun j a b => by dsimp only at b; omega, by simp only [vN]; omega⟩) ⟨rfl, rfl, rfl, rfl, rfl, rfl, trivial⟩ rfl ?_
            rintro ⟨i, v⟩ ⟨hi1, hil, hct, hv⟩
            dsimp only at hi1 hil hct hv ⊢
            refine WC.seq ?_
            refine WC.seq ?_
            refine WC.region ?_
            refine WL.v (RV.move rfl) rfl ?_
            refine WL.v (RV.move rfl) rfl ?_
            refine WL.v (RV.len (by first | exact h) Tryz.underlying31 rfl) rfl ?_
            refine WL.v (RV.lss rfl rfl) rfl ?_
            refine WL.nil ?_
            refine QF.seqNext ?_
            refine WC.cond rfl ?_ ?_
            · intro hlt
              replace hlt : i < l.length := by have := of_decide_eq_true hlt; omega
              obtain ⟨i, rfl⟩ : ∃ i', i = i' + 1 := ⟨i - 1, by omega⟩
              have hvl := vN_lt l 240 cc.2 i hct
              have hp : 64 ^ i ≤ 64 ^ 2 := Nat.pow_le_pow_right (by decide) (by omega)
              have hb256 := by8_lt l (i + 1)
              have hbe : (nth l (i + 1)).toNat = by8 l (i + 1) := rfl
              refine WC.skip ?_
              refine QF.seqNext ?_
              refine WC.seq ?_
              refine WC.block ?_
              refine WC.seq ?_
              refine WC.seq ?_
              refine WC.region ?_
              refine WL.v (RV.move rfl) rfl ?_
              refine WL.v (RV.move rfl) rfl ?_
              refine WL.v (RV.indexAddr (by first | exact h) Tryz.underlying31 (Tryz.sizeOf5 _) rfl rfl _ rfl (by omega)) rfl ?_
              refine WL.v (RV.load (by first | exact h.ld hlt) (Tryz.isAgg5 _) rfl) rfl ?_
              refine WL.v (RV.lss rfl rfl) rfl ?_
              refine WL.v (RV.move rfl) rfl ?_
              refine WL.orBS (fun w1 => _ = w1) (decide ((192 : Int) ≤ by8 l (i + 1))) 5 (rfl) rfl rfl rfl rfl rfl ?_ ?_
              · skip
                intro h4
                refine WL.on rfl ?_
                refine WL.v (RV.move rfl) rfl ?_
                refine WL.on rfl ?_
                refine WL.v (RV.move rfl) rfl ?_
                refine WL.on rfl ?_
                refine WL.v (RV.indexAddr (by first | exact h) Tryz.underlying31 (Tryz.sizeOf5 _) rfl rfl _ rfl (by omega)) rfl ?_
                refine WL.on rfl ?_
                refine WL.v (RV.load (by first | exact h.ld hlt) (Tryz.isAgg5 _) rfl) rfl ?_
                refine WL.on rfl ?_
                refine WL.v (RV.geq rfl rfl) rfl ?_
                refine WL.nil ?_
                refine QF.andEnd (tA := 67) 6 (rfl) rfl rfl rfl (fun v hv => (Option.some.inj hv).symm.trans (congrArg Value.bool h4)) rfl
              rintro _ rfl
              refine WL.nil ?_
              refine QF.seqNext ?_
              refine WC.cond rfl ?_ ?_
              · intro hbad
                replace hbad : by8 l (i + 1) < 128 ∨ 192 ≤ by8 l (i + 1) := by simp only [Bool.or_eq_true, decide_eq_true_eq, hbe] at hbad; omega
                refine WC.seq ?_
                refine WC.region ?_
                refine WL.v (RV.assign rfl) rfl ?_
                refine WL.v (RV.assign rfl) rfl ?_
                refine WL.nil ?_
                refine QF.seqNext ?_
                refine WC.ret ?_
                refine QF.thenRet ?_
                refine QF.blockRet ?_
                refine QF.thenRet ?_
                refine QF.thenRet ?_
                refine QF.blockRet ?_
                refine QF.thenRet ?_
                refine QF.done2 rfl rfl rfl (⟨(0, 0), rfl, hB _ ⟨fun _ => rfl, fun _ _ => rfl, fun _ hc => by have := hc (i + 1) (by omega) hlt; omega⟩, rfl⟩)
              · intro hok
                replace hok : 128 ≤ by8 l (i + 1) ∧ by8 l (i + 1) < 192 := by simp only [Bool.or_eq_false_iff, decide_eq_false_iff_not, hbe] at hok; omega
                refine WC.skip ?_
                refine QF.seqNext ?_
                refine WC.region ?_
                refine WL.v (RV.move rfl) rfl ?_
                refine WL.v (RV.mul rfl rfl (Fit.i32 (by omega))) rfl ?_
                refine WL.v (RV.move rfl) rfl ?_
                refine WL.v (RV.move rfl) rfl ?_
                refine WL.v (RV.indexAddr (by first | exact h) Tryz.underlying31 (Tryz.sizeOf5 _) rfl rfl _ rfl (by omega)) rfl ?_
                refine WL.v (RV.load (by first | exact h.ld hlt) (Tryz.isAgg5 _) rfl) rfl ?_
                refine WL.v (RV.conv Tryz.underlying5 Tryz.underlying21 rfl (Fit.i32 (by omega))) rfl ?_
                refine WL.v (RV.add rfl rfl (Fit.i32 (by omega))) rfl ?_
                refine WL.v (RV.sub rfl rfl (Fit.i32 (by omega))) rfl ?_
                refine WL.v (RV.assign rfl) rfl ?_
                refine WL.nil ?_
                refine QF.blockNormal ?_
                refine QF.seqNext ?_
                refine WC.region ?_
                refine WL.v (RV.move rfl) rfl ?_
                refine WL.v (RV.add rfl rfl (Fit.i64 (by omega))) rfl ?_
                refine WL.v (RV.assign rfl) rfl ?_
                refine WL.nil ?_
                refine QF.next ((i + 2, 64 * v + by8 l (i + 1) - 128)) (⟨by dsimp only; omega, hlt, fun j a b => (Nat.lt_succ_iff_lt_or_eq.1 b).elim (hct j a) (fun e => by subst e; exact hok), by dsimp only; simp only [vN]; omega⟩) (by dsimp only; omega) ⟨rfl, rfl, rfl, rfl, rfl, rfl, trivial⟩ rfl
            · intro hge
              obtain rfl : i = l.length := by have := of_decide_eq_false hge; omega
              have hvl : vN l 240 l.length < 32 * 64 ^ (l.length - 1) := by have := vN_lt l 240 cc.2 (l.length - 1) (by rw [Nat.sub_add_cancel h1]; exact hct); rwa [Nat.sub_add_cancel h1] at this
              refine WC.exit ?_
              refine QF.thenExit ?_
              refine QF.thenExit ?_
              refine QF.blockHit ?_
              refine QF.seqNext ?_
              refine WC.seq ?_
              refine WC.region ?_
              refine WL.v (RV.move rfl) rfl ?_
              refine WL.v (RV.move rfl) rfl ?_
              refine WL.v (RV.assign rfl) rfl ?_
              refine WL.v (RV.assign rfl) rfl ?_
              refine WL.nil ?_
              refine QF.seqNext ?_
              refine WC.seq ?_
              refine WC.seq ?_
              refine WC.region ?_
              refine WL.v (RV.move rfl) rfl ?_
              refine WL.v (RV.len (by first | exact h) Tryz.underlying31 rfl) rfl ?_
              refine WL.v (RV.assign rfl) rfl ?_
              refine WL.nil ?_
              refine QF.seqNext ?_
              refine WC.block ?_
              refine WC.loop (fun x : Nat × Int × Int => [(0, bv), (6, .int .i32 65536), (7, .int .i32 1114111), (8, .int .i64 4), (10, .int .i32 x.2.1), (11, .int .i32 x.2.2), (12, .int .i64 x.1)]) (fun x : Nat × Int × Int => w) (fun x : Nat × Int × Int => l.length ≤ x.1 ∧ x.1 ≤ 4 ∧ x.2.1 = (vN l 240 l.length * 64 ^ (x.1 - l.length) : Nat) ∧ x.2.2 = x.2.1 + (64 ^ (x.1 - l.length) : Nat) - 1) (fun x : Nat × Int × Int => 4 - x.1) (l.length, v, v) (⟨Nat.le_refl _, hbig, by simp [hv], by simp⟩) ⟨rfl, rfl, rfl, rfl, rfl, rfl, rfl, trivial⟩ rfl ?_
              rintro ⟨i, lo, hi⟩ ⟨hi1, hi2, hlo, hhi⟩
              dsimp only at hi1 hi2 hlo hhi ⊢
              have hbnd : vN l 240 l.length * 64 ^ (i - l.length) < 32 * 64 ^ (i - 1) := by
                have : 32 * 64 ^ (i - 1) = 32 * 64 ^ (l.length - 1) * 64 ^ (i - l.length) := by rw [Nat.mul_assoc, ← Nat.pow_add]; congr 2; omega
                rw [this]; exact Nat.mul_lt_mul_of_pos_right hvl (Nat.pow_pos (by decide))
              refine WC.seq ?_
              refine WC.seq ?_
              refine WC.region ?_
              refine WL.v (RV.move rfl) rfl ?_
              refine WL.v (RV.move rfl) rfl ?_
              refine WL.v (RV.lss rfl rfl) rfl ?_
              refine WL.nil ?_
              refine QF.seqNext ?_
              refine WC.cond rfl ?_ ?_
              · intro hlt
                replace hlt : i < 4 := by have := of_decide_eq_true hlt; omega
                have hp : 64 ^ (i - 1) ≤ 64 ^ 2 := Nat.pow_le_pow_right (by decide) (by omega)
                have hp2 : 64 ^ (i - l.length) ≤ 64 ^ 2 := Nat.pow_le_pow_right (by decide) (by omega)
                have hp3 : 64 ^ (i + 1 - l.length) = 64 * 64 ^ (i - l.length) := by rw [show i + 1 - l.length = (i - l.length) + 1 from by omega, Nat.pow_succ, Nat.mul_comm]
                have hp4 : vN l 240 l.length * (64 * 64 ^ (i - l.length)) = 64 * (vN l 240 l.length * 64 ^ (i - l.length)) := by rw [← Nat.mul_assoc, Nat.mul_comm _ 64, Nat.mul_assoc]
                generalize vN l 240 l.length * 64 ^ (i - l.length) = V at *
                generalize 64 ^ (i - l.length) = W at *
                refine WC.skip ?_
                refine QF.seqNext ?_
                refine WC.seq ?_
                refine WC.block ?_
                refine WC.region ?_
                refine WL.v (RV.move rfl) rfl ?_
                refine WL.v (RV.mul rfl rfl (Fit.i32 (by omega))) rfl ?_
                refine WL.v (RV.move rfl) rfl ?_
                refine WL.v (RV.mul rfl rfl (Fit.i32 (by omega))) rfl ?_
                refine WL.v (RV.add rfl rfl (Fit.i32 (by omega))) rfl ?_
                refine WL.v (RV.assign rfl) rfl ?_
                refine WL.v (RV.assign rfl) rfl ?_
                refine WL.nil ?_
                refine QF.blockNormal ?_
                refine QF.seqNext ?_
                refine WC.region ?_
                refine WL.v (RV.move rfl) rfl ?_
                refine WL.v (RV.add rfl rfl (Fit.i64 (by omega))) rfl ?_
                refine WL.v (RV.assign rfl) rfl ?_
                refine WL.nil ?_
                refine QF.next ((i + 1, 64 * lo, 64 * hi + 63)) (⟨by dsimp only; omega, hlt, by dsimp only; rw [hp3, hp4]; omega, by dsimp only; rw [hp3]; omega⟩) (by dsimp only; omega) ⟨rfl, rfl, rfl, rfl, rfl, rfl, rfl, trivial⟩ rfl
              · intro hge2
                obtain rfl : i = 4 := by have := of_decide_eq_false hge2; omega
                have hp2 : 1 ≤ 64 ^ (4 - l.length) := Nat.pow_pos (by decide)
                have hbg : begN l 4 240 65536 1114111 = if vN l 240 l.length * 64 ^ (4 - l.length) + 64 ^ (4 - l.length) - 1 < 65536 ∨ 1114111 < vN l 240 l.length * 64 ^ (4 - l.length) ∨ (55296 ≤ vN l 240 l.length * 64 ^ (4 - l.length) ∧ vN l 240 l.length * 64 ^ (4 - l.length) + 64 ^ (4 - l.length) - 1 ≤ 57343) then (0, 0) else (vN l 240 l.length * 64 ^ (4 - l.length), 4) := rfl
                generalize vN l 240 l.length * 64 ^ (4 - l.length) = V at *
                generalize 64 ^ (4 - l.length) = W at *
                have fin0 : (V + W - 1 < 65536 ∨ 1114111 < V ∨ (55296 ≤ V ∧ V + W - 1 ≤ 57343)) → Beg l (0, 0) := fun hh => hB _ ⟨fun _ => rfl, fun _ _ => rfl, fun _ _ => by rw [hbg, if_pos hh]⟩
                have fin1 : ¬ (V + W - 1 < 65536 ∨ 1114111 < V ∨ (55296 ≤ V ∧ V + W - 1 ≤ 57343)) → Beg l (V, 4) := fun hh => hB _ ⟨fun h => by omega, fun _ hc => absurd hct hc, fun _ _ => by rw [hbg, if_neg hh]⟩
                refine WC.exit ?_
                refine QF.thenExit ?_
                refine QF.thenExit ?_
                refine QF.blockHit ?_
                refine QF.seqNext ?_
                refine WC.seq ?_
                refine WC.seq ?_
                refine WC.region ?_
                refine WL.v (RV.move rfl) rfl ?_
                refine WL.v (RV.move rfl) rfl ?_
                refine WL.v (RV.lss rfl rfl) rfl ?_
                refine WL.v (RV.move rfl) rfl ?_
                by_cases q1 : hi < 65536
                · skip
                  refine WL.know (d := 100) rfl (b' := true) (decide_eq_true q1) ?_
                  refine WL.off rfl rfl rfl ?_
                  refine WL.off rfl rfl rfl ?_
                  refine WL.off rfl rfl rfl ?_
                  refine WL.v (RV.pickT rfl rfl) rfl ?_
                  refine WL.v (RV.move rfl) rfl ?_
                  refine WL.off rfl rfl rfl ?_
                  refine WL.off rfl rfl rfl ?_
                  refine WL.off rfl rfl rfl ?_
                  refine WL.offU rfl rfl ?_
                  refine WL.offU rfl rfl ?_
                  refine WL.off rfl rfl rfl ?_
                  refine WL.v (RV.pickT rfl rfl) rfl ?_
                  refine WL.nil ?_
                  refine QF.seqNext ?_
                  refine WC.condT rfl rfl ?_
                  refine WC.seq ?_
                  refine WC.region ?_
                  refine WL.v (RV.assign rfl) rfl ?_
                  refine WL.v (RV.assign rfl) rfl ?_
                  refine WL.nil ?_
                  refine QF.seqNext ?_
                  refine WC.ret ?_
                  refine QF.thenRet ?_
                  refine QF.done2 rfl rfl rfl (⟨(0, 0), rfl, fin0 (.inl (by omega)), rfl⟩)
                · skip
                  refine WL.know (d := 100) rfl (b' := false) (decide_eq_false q1) ?_
                  refine WL.on rfl ?_
                  refine WL.v (RV.move rfl) rfl ?_
                  refine WL.on rfl ?_
                  refine WL.v (RV.move rfl) rfl ?_
                  refine WL.on rfl ?_
                  refine WL.v (RV.gtr rfl rfl) rfl ?_
                  refine WL.v (RV.pickF rfl rfl) rfl ?_
                  refine WL.v (RV.move rfl) rfl ?_
                  by_cases q2 : 1114111 < lo
                  · skip
                    refine WL.know (d := 105) rfl (b' := true) (decide_eq_true q2) ?_
                    refine WL.off rfl rfl rfl ?_
                    refine WL.off rfl rfl rfl ?_
                    refine WL.off rfl rfl rfl ?_
                    refine WL.offU rfl rfl ?_
                    refine WL.offU rfl rfl ?_
                    refine WL.off rfl rfl rfl ?_
                    refine WL.v (RV.pickT rfl rfl) rfl ?_
                    refine WL.nil ?_
                    refine QF.seqNext ?_
                    refine WC.condT rfl rfl ?_
                    refine WC.seq ?_
                    refine WC.region ?_
                    refine WL.v (RV.assign rfl) rfl ?_
                    refine WL.v (RV.assign rfl) rfl ?_
                    refine WL.nil ?_
                    refine QF.seqNext ?_
                    refine WC.ret ?_
                    refine QF.thenRet ?_
                    refine QF.done2 rfl rfl rfl (⟨(0, 0), rfl, fin0 (.inr (.inl (by omega))), rfl⟩)
                  · skip
                    refine WL.know (d := 105) rfl (b' := false) (decide_eq_false q2) ?_
                    refine WL.on rfl ?_
                    refine WL.v (RV.move rfl) rfl ?_
                    refine WL.on rfl ?_
                    refine WL.v (RV.geq rfl rfl) rfl ?_
                    refine WL.on rfl ?_
                    refine WL.v (RV.move rfl) rfl ?_
                    by_cases q3 : 55296 ≤ lo
                    · skip
                      refine WL.know (d := 108) rfl (b' := true) (decide_eq_true q3) ?_
                      refine WL.on rfl ?_
                      refine WL.v (RV.move rfl) rfl ?_
                      refine WL.on rfl ?_
                      refine WL.v (RV.leq rfl rfl) rfl ?_
                      refine WL.on rfl ?_
                      refine WL.v (RV.pickT rfl rfl) rfl ?_
                      refine WL.v (RV.pickF rfl rfl) rfl ?_
                      refine WL.nil ?_
                      refine QF.seqNext ?_
                      refine WC.cond rfl ?_ ?_
                      · intro q4
                        replace q4 : hi ≤ 57343 := of_decide_eq_true q4
                        refine WC.seq ?_
                        refine WC.region ?_
                        refine WL.v (RV.assign rfl) rfl ?_
                        refine WL.v (RV.assign rfl) rfl ?_
                        refine WL.nil ?_
                        refine QF.seqNext ?_
                        refine WC.ret ?_
                        refine QF.thenRet ?_
                        refine QF.done2 rfl rfl rfl (⟨(0, 0), rfl, fin0 (.inr (.inr (by omega))), rfl⟩)
                      · intro q4
                        replace q4 : ¬ hi ≤ 57343 := of_decide_eq_false q4
                        refine WC.skip ?_
                        refine QF.seqNext ?_
                        refine WC.seq ?_
                        refine WC.region ?_
                        refine WL.v (RV.move rfl) rfl ?_
                        refine WL.v (RV.move rfl) rfl ?_
                        refine WL.v (RV.assign rfl) rfl ?_
                        refine WL.v (RV.assign rfl) rfl ?_
                        refine WL.nil ?_
                        refine QF.seqNext ?_
                        refine WC.ret ?_
                        refine QF.done2 rfl rfl rfl (⟨(V, 4), by rw [hlo]; rfl, fin1 (by omega), rfl⟩)
                    · skip
                      refine WL.know (d := 108) rfl (b' := false) (decide_eq_false q3) ?_
                      refine WL.off rfl rfl rfl ?_
                      refine WL.off rfl rfl rfl ?_
                      refine WL.on rfl ?_
                      refine WL.v (RV.pickF rfl rfl) rfl ?_
                      refine WL.v (RV.pickF rfl rfl) rfl ?_
                      refine WL.nil ?_
                      refine QF.seqNext ?_
                      refine WC.condF rfl rfl ?_
                      refine WC.skip ?_
                      refine QF.seqNext ?_
                      refine WC.seq ?_
                      refine WC.region ?_
                      refine WL.v (RV.move rfl) rfl ?_
                      refine WL.v (RV.move rfl) rfl ?_
                      refine WL.v (RV.assign rfl) rfl ?_
                      refine WL.v (RV.assign rfl) rfl ?_
                      refine WL.nil ?_
                      refine QF.seqNext ?_
                      refine WC.ret ?_
                      refine QF.done2 rfl rfl rfl (⟨(V, 4), by rw [hlo]; rfl, fin1 (by omega), rfl⟩)
        · intro p4
          replace p4 : ¬ (240 ≤ by8 l 0 ∧ by8 l 0 < 248) := by simp only [Bool.and_eq_false_iff, decide_eq_false_iff_not, hbe0] at p4; omega
          refine WC.skip ?_
          refine QF.blockNormal ?_
          refine QF.seqNext ?_
          refine WC.seq ?_
          refine WC.seq ?_
          refine WC.region ?_
          refine WL.v (RV.move rfl) rfl ?_
          refine WL.v (RV.eql rfl rfl) rfl ?_
          refine WL.v (RV.move rfl) rfl ?_
          refine WL.know (d := 50) rfl (b' := true) (rfl) ?_
          refine WL.off rfl rfl rfl ?_
          refine WL.off rfl rfl rfl ?_
          refine WL.off rfl rfl rfl ?_
          refine WL.off rfl rfl rfl ?_
          refine WL.v (RV.pickT rfl rfl) rfl ?_
          refine WL.nil ?_
          refine QF.seqNext ?_
          refine WC.condT rfl rfl ?_
          refine WC.seq ?_
          refine WC.region ?_
          refine WL.v (RV.assign rfl) rfl ?_
          refine WL.v (RV.assign rfl) rfl ?_
          refine WL.nil ?_
          refine QF.seqNext ?_
          refine WC.ret ?_
          refine QF.thenRet ?_
          refine QF.done2 rfl rfl rfl (⟨(0, 0), rfl, ⟨fun hh => by omega, fun _ => rfl, fun n base least most hh => by omega⟩, rfl⟩)
end Go.Proofs.YtakigpnccppheaaGreatDoor
