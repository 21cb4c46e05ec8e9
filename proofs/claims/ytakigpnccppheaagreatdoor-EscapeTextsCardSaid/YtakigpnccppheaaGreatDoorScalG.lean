/- Package scalar, walked: right, Put. -/
import Derived.Test.YtakigpnccppheaaGreatDoorScalF
namespace Go.Proofs.YtakigpnccppheaaGreatDoor
open Go.VL Go.Proofs
set_option maxRecDepth 4000

def rightR (r : Int) : Bool := decide (0 ≤ r) && decide (r ≤ 1114111) && (decide (r < 55296) || decide (57343 < r))
theorem scRight_ret (r : Int) (w : World) : Ret Tryz.prog 34 [.int .i32 r] w fun v w' => v = .bool (rightR r) ∧ w = w' := by
  refine Ret.enter Tryz.func34 Tryz.ntmps34 rfl rfl ?_
  refine WC.seq ?_
  refine WC.region ?_
  refine WL.v (RV.assign rfl) rfl ?_
  refine WL.nil ?_
  refine QF.seqNext ?_
  refine WC.seq ?_
  refine WC.region ?_
  refine WL.v (RV.move rfl) rfl ?_
  refine WL.v (RV.geq rfl rfl) rfl ?_
  refine WL.v (RV.move rfl) rfl ?_
  refine WL.andBS (fun w1 => _ = w1) (decide (r ≤ 1114111)) 2 (rfl) rfl rfl rfl rfl rfl ?_ ?_
  · skip
    intro h1
    refine WL.on rfl ?_
    refine WL.v (RV.move rfl) rfl ?_
    refine WL.on rfl ?_
    refine WL.v (RV.leq rfl rfl) rfl ?_
    refine WL.nil ?_
    refine QF.andEnd (tA := 5) 3 (rfl) rfl rfl rfl (fun v hv => (Option.some.inj hv).symm.trans (congrArg Value.bool h1)) rfl
  rintro _ rfl
  refine WL.v (RV.move rfl) rfl ?_
  cases hh : decide (0 ≤ r) && decide (r ≤ 1114111) with
  | false =>
    refine WL.know (d := 9) rfl (b' := false) (rfl) ?_
    refine WL.off rfl rfl rfl ?_
    refine WL.off rfl rfl rfl ?_
    refine WL.off rfl rfl rfl ?_
    refine WL.offU rfl rfl ?_
    refine WL.offU rfl rfl ?_
    refine WL.off rfl rfl rfl ?_
    refine WL.v (RV.pickF rfl rfl) rfl ?_
    refine WL.v (RV.assign rfl) rfl ?_
    refine WL.nil ?_
    refine QF.seqNext ?_
    refine WC.ret ?_
    refine QF.done1 rfl rfl (⟨by simp only [rightR, hh]; rfl, rfl⟩)
  | true =>
    refine WL.know (d := 9) rfl (b' := true) (rfl) ?_
    refine WL.on rfl ?_
    refine WL.v (RV.move rfl) rfl ?_
    refine WL.on rfl ?_
    refine WL.v (RV.lss rfl rfl) rfl ?_
    refine WL.on rfl ?_
    refine WL.v (RV.move rfl) rfl ?_
    cases h2 : decide (r < 55296) with
    | true =>
      refine WL.know (d := 12) rfl (b' := true) (rfl) ?_
      refine WL.off rfl rfl rfl ?_
      refine WL.off rfl rfl rfl ?_
      refine WL.on rfl ?_
      refine WL.v (RV.pickT rfl rfl) rfl ?_
      refine WL.v (RV.pickT rfl rfl) rfl ?_
      refine WL.v (RV.assign rfl) rfl ?_
      refine WL.nil ?_
      refine QF.seqNext ?_
      refine WC.ret ?_
      refine QF.done1 rfl rfl (⟨by simp only [rightR, hh, h2]; rfl, rfl⟩)
    | false =>
      refine WL.know (d := 12) rfl (b' := false) (rfl) ?_
      refine WL.on rfl ?_
      refine WL.v (RV.move rfl) rfl ?_
      refine WL.on rfl ?_
      refine WL.v (RV.gtr rfl rfl) rfl ?_
      refine WL.on rfl ?_
      refine WL.v (RV.pickF rfl rfl) rfl ?_
      refine WL.v (RV.pickT rfl rfl) rfl ?_
      refine WL.v (RV.assign rfl) rfl ?_
      refine WL.nil ?_
      refine QF.seqNext ?_
      refine WC.ret ?_
      refine QF.done1 rfl rfl (⟨by simp only [rightR, hh, h2]; rfl, rfl⟩)

/-- The bytes behind the first one. -/
def tailB (r : Nat) : Nat → List UInt8
  | 0 => []
  | d + 1 => UInt8.ofNat (128 + r / 64 ^ d % 64) :: tailB r d
theorem tailB_len (r d : Nat) : (tailB r d).length = d := by induction d with | zero => rfl | succ d ih => simp [tailB, ih]
def leadOf (n : Nat) : Nat := 255 - 255 / 2 ^ n
def putB (r n : Nat) : List UInt8 := UInt8.ofNat (leadOf n + r / 64 ^ (n - 1)) :: tailB r (n - 1)
/-- A scalar's bytes. -/
def putN (r : Nat) : List UInt8 := if r < 128 then [UInt8.ofNat r] else if r < 2048 then putB r 2 else if r < 65536 then putB r 3 else putB r 4
def putM (r : Int) : List UInt8 := putN (if rightR r then r.toNat else 65533)
theorem ofNat_toNat {k : Nat} (h : k < 256) : (UInt8.ofNat k).toNat = k := by simp [UInt8.toNat_ofNat']; omega
theorem elByte : Elem Tryz.prog 31 5 1 1 := ⟨Tryz.underlying31, by kernel_rfl, by decide⟩
abbrev bval (b : UInt8) : Value := .int .u8 (b.toNat : Int)

theorem or128 (x : Nat) : 128 ||| (x &&& 63) = 128 + x % 64 := by
  rw [nat_mask6, nat_join 6 128 (x % 64) (by decide) (Nat.mod_lt _ (by decide))]
theorem lead_or (n r : Nat) (hn : 2 ≤ n) (h4 : n ≤ 4) (hr : r < 2 ^ (5 * n + 1)) : (255 - 255 / 2 ^ n) ||| (r / 64 ^ (n - 1)) = leadOf n + r / 64 ^ (n - 1) ∧ leadOf n + r / 64 ^ (n - 1) < 256 ∧ r / 64 ^ (n - 1) < 32 := by
  have : n = 2 ∨ n = 3 ∨ n = 4 := by omega
  rcases this with rfl | rfl | rfl
  · have hx : r / 64 < 32 := by have : r < 2048 := hr; omega
    refine ⟨nat_join 5 192 (r / 64 ^ 1) (by decide) (by simpa using hx), ?_, by simpa using hx⟩
    simp [leadOf]; omega
  · have hx : r / 4096 < 16 := by have : r < 65536 := hr; omega
    refine ⟨nat_join 5 224 (r / 64 ^ 2) (by decide) (by simp; omega), ?_, by simp; omega⟩
    simp [leadOf]; omega
  · have hx : r / 262144 < 8 := by have : r < 2097152 := hr; omega
    refine ⟨nat_join 4 240 (r / 64 ^ 3) (by decide) (by simp; omega), ?_, by simp; omega⟩
    simp [leadOf]; omega



theorem put_ret (r0 : Int) (w : World) : Ret Tryz.prog 20 [.int .i32 r0] w fun v w' => Bytes w' v (putM r0) ∧ Ext w w' := by
  have hpm : putM r0 = putN (if rightR r0 then r0.toNat else 65533) := rfl
  refine Ret.enter Tryz.func20 Tryz.ntmps20 rfl rfl ?_
  refine WC.seq ?_
  refine WC.region ?_
  refine WL.v (RV.assign rfl) rfl ?_
  refine WL.nil ?_
  refine QF.seqNext ?_
  refine WC.seq ?_
  refine WC.seq ?_
  refine WC.region ?_
  refine WL.v (RV.move rfl) rfl ?_
  refine WL.call Tryz.call34 rfl (scRight_ret r0 w) rfl ?_
  rintro v _ ⟨rfl, rfl⟩
  refine WL.v (RV.not rfl) rfl ?_
  refine WL.nil ?_
  refine QF.seqNext ?_
  refine WC.cond rfl ?_ ?_
  · intro hw
    replace hw : rightR r0 = false := by simpa using hw
    rw [hw, if_neg Bool.false_ne_true] at hpm
    obtain ⟨r, hr⟩ : ∃ r : Nat, r = 65533 := ⟨_, rfl⟩
    rw [← hr] at hpm
    have hrb : r < 2097152 := by omega
    have h128 : ¬ r < 128 := by omega
    have e : Value.int .i32 65533 = .int .i32 (r : Int) := by rw [hr]; rfl
    refine WC.region ?_
    refine WL.v (RV.assign rfl) rfl ?_
    refine WL.nil ?_
    refine QF.seqNext ?_
    refine WC.seq ?_
    refine WC.seq ?_
    refine WC.region ?_
    refine WL.v (RV.move rfl) rfl ?_
    refine WL.v (RV.lss rfl rfl) rfl ?_
    refine WL.nil ?_
    refine QF.seqNext ?_
    refine WC.condF rfl (rfl) ?_
    rw [e]
    refine WC.skip ?_
    refine QF.seqNext ?_
    refine WC.seq ?_
    refine WC.region ?_
    refine WL.v (RV.assign rfl) rfl ?_
    refine WL.nil ?_
    refine QF.seqNext ?_
    refine WC.seq ?_
    refine WC.block ?_
    refine WC.loop (fun n : Nat => [(0, .int .i32 r), (3, .int .i64 n)]) (fun n : Nat => w) (fun n : Nat => n = 2 ∨ n = 3 ∧ 2048 ≤ r ∨ n = 4 ∧ 65536 ≤ r) (fun n : Nat => 4 - n) 2 (.inl rfl) ⟨rfl, rfl, trivial⟩ rfl ?_
    intro n hn
    refine WC.seq ?_
    refine WC.seq ?_
    refine WC.region ?_
    refine WL.v (RV.move rfl) rfl ?_
    refine WL.v (RV.lss rfl rfl) rfl ?_
    refine WL.v (RV.move rfl) rfl ?_
    rcases hn with rfl | ⟨rfl, hn3⟩ | ⟨rfl, hn4⟩
    · skip
      refine WL.know (d := 16) rfl (b' := true) (rfl) ?_
      refine WL.on rfl ?_
      refine WL.v (RV.move rfl) rfl ?_
      refine WL.on rfl ?_
      refine WL.v (RV.move rfl) rfl ?_
      refine WL.on rfl ?_
      refine WL.v (RV.mul rfl rfl (Fit.i64 (by omega))) rfl ?_
      refine WL.on rfl ?_
      refine WL.v (RV.add rfl rfl (Fit.i64 (by omega))) rfl ?_
      refine WL.on rfl ?_
      refine WL.v (RV.shlN (a := 1) (b := 5 * 2 + 1) rfl rfl rfl rfl (by decide) (by rw [maxI32]; decide)) rfl ?_
      refine WL.on rfl ?_
      refine WL.v (RV.geq rfl rfl) rfl ?_
      refine WL.v (RV.pickT rfl rfl) rfl ?_
      refine WL.nil ?_
      refine QF.seqNext ?_
      refine WC.cond rfl ?_ ?_
      · intro c
        replace c : 2 ^ (5 * 2 + 1) ≤ r := by have := of_decide_eq_true c; omega
        refine WC.skip ?_
        refine QF.seqNext ?_
        refine WC.block ?_
        refine WC.region ?_
        refine WL.v (RV.move rfl) rfl ?_
        refine WL.v (RV.add rfl rfl (Fit.i64 (by omega))) rfl ?_
        refine WL.v (RV.assign rfl) rfl ?_
        refine WL.nil ?_
        refine QF.blockNormal ?_
        refine QF.next ((2 + 1)) (by omega) (by omega) ⟨rfl, rfl, trivial⟩ rfl
      · intro c
        replace c : r < 2 ^ (5 * 2 + 1) := by have := of_decide_eq_false c; omega
        have hpn : putM r0 = putB r 2 := by rw [hpm, putN, if_neg h128]; rw [if_pos (by omega)]
        refine WC.exit ?_
        refine QF.thenExit ?_
        refine QF.thenExit ?_
        refine QF.blockHit ?_
        refine QF.seqNext ?_
        refine WC.seq ?_
        refine WC.region ?_
        refine WL.v (RV.move rfl) rfl ?_
        refine WL.makeRow elByte (val := bval) (0 : UInt8) (by kernel_rfl) (fun _ => rfl) (Rng.start w) 1 (by decide) 2 rfl rfl rfl rfl (by omega) (by omega) rfl ?_
        intro w2 O2 bv hbv hrow hU2 hR2 hE2
        refine WL.v (RV.assign rfl) rfl ?_
        refine WL.nil ?_
        refine QF.seqNext ?_
        refine WC.seq ?_
        refine WC.seq ?_
        refine WC.region ?_
        refine WL.v (RV.move rfl) rfl ?_
        refine WL.v (RV.sub rfl rfl (Fit.i64 (by omega))) rfl ?_
        refine WL.v (RV.assign rfl) rfl ?_
        refine WL.nil ?_
        refine QF.seqNext ?_
        refine WC.block ?_
        refine WC.loop (fun x : Nat × World × Nat × Int => [(0, .int .i32 x.2.2.1), (3, .int .i64 2), (4, bv), (5, .int .i64 x.2.2.2)]) (fun x : Nat × World × Nat × Int => x.2.1) (fun x : Nat × World × Nat × Int => x.1 ≤ 2 - 1 ∧ x.2.2.1 = r / 64 ^ (2 - 1 - x.1) ∧ RowT (fun b => [bval b]) 5 1 O2 x.2.1 1 bv (List.replicate (x.1 + 1) 0 ++ tailB r (2 - 1 - x.1)) ∧ Upd (fun j => j = 1) (fun _ => 0) w O2 x.2.1 ∧ x.2.2.2 = x.1) (fun x : Nat × World × Nat × Int => x.1) (2 - 1, w2, r, 2 - 1) (⟨Nat.le_refl _, by simp, by simpa [tailB] using hrow, hU2, rfl⟩) ⟨rfl, rfl, rfl, rfl, trivial⟩ rfl ?_
        rintro ⟨i, w3, q, ii⟩ ⟨hi, hq, hrow3, hU3, hii⟩
        dsimp only at hi hq hrow3 hU3 hii ⊢
        subst hii
        have hq31 : q ≤ r := by rw [hq]; exact Nat.div_le_self _ _
        have hrs := hrow3.sl
        have hlen : (List.replicate (i + 1) (0 : UInt8) ++ tailB r (2 - 1 - i)).length = 2 := by simp [tailB_len]; omega
        refine WC.seq ?_
        refine WC.seq ?_
        refine WC.region ?_
        refine WL.v (RV.move rfl) rfl ?_
        refine WL.v (RV.gtr rfl rfl) rfl ?_
        refine WL.nil ?_
        refine QF.seqNext ?_
        refine WC.cond rfl ?_ ?_
        · intro hlt
          replace hlt : 0 < i := by have := of_decide_eq_true hlt; omega
          have hle : q &&& 63 ≤ 63 := Nat.and_le_right
          have h128 := or128 q
          have hm6 := nat_mask6 q
          have hq64 : q % 64 < 64 := Nat.mod_lt _ (by decide)
          have hset : (List.replicate (i + 1) (0 : UInt8) ++ tailB r (2 - 1 - i)).set i (UInt8.ofNat (128 + q % 64)) = List.replicate (i - 1 + 1) 0 ++ tailB r (2 - 1 - (i - 1)) := by
            rw [show 2 - 1 - (i - 1) = (2 - 1 - i) + 1 from by omega, List.replicate_succ', List.append_assoc, List.set_append_right _ _ (by simp), show i - 1 + 1 = i from by omega]
            simp [tailB, hq]
          have hdiv : q / 2 ^ 6 = r / 64 ^ (2 - 1 - (i - 1)) := by
            rw [hq, show 2 - 1 - (i - 1) = (2 - 1 - i) + 1 from by omega, Nat.div_div_eq_div_mul]; exact congrArg (r / ·) (Nat.pow_succ (n := 64) (m := 2 - 1 - i)).symm
          refine WC.skip ?_
          refine QF.seqNext ?_
          refine WC.seq ?_
          refine WC.block ?_
          refine WC.seq ?_
          refine WC.region ?_
          refine WL.v (RV.move rfl) rfl ?_
          refine WL.v (RV.move rfl) rfl ?_
          refine WL.v (RV.move rfl) rfl ?_
          refine WL.v (RV.andN (a := q) (b := 63) rfl rfl rfl rfl (by rw [maxI32]; omega) (by rw [maxI32]; omega)) rfl ?_
          refine WL.v (RV.conv Tryz.underlying21 Tryz.underlying5 rfl (Fit.u8 (by omega))) rfl ?_
          refine WL.v (RV.orN (a := 128) (b := q &&& 63) rfl rfl rfl rfl (by rw [maxU8]; omega) (by rw [maxU8]; omega)) rfl ?_
          refine WL.v (RV.indexAddr (by first | exact hrs) Tryz.underlying31 (Tryz.sizeOf5 _) rfl rfl _ rfl (by omega)) rfl ?_
          refine WL.storeAt hrow3 i (by omega) (UInt8.ofNat (128 + q % 64)) (Tryz.sizeOf5 _) rfl (by decide) rfl rfl rfl (by rw [h128]; simp only [bval]; rw [ofNat_toNat (by omega)]) ?_
          intro w4 hrow4 hU4
          rw [hset] at hrow4
          refine WL.nil ?_
          refine QF.seqNext ?_
          refine WC.region ?_
          refine WL.v (RV.move rfl) rfl ?_
          refine WL.v (RV.shrN (a := q) (b := 6) rfl rfl rfl rfl (by decide)) rfl ?_
          refine WL.v (RV.assign rfl) rfl ?_
          refine WL.nil ?_
          refine QF.blockNormal ?_
          refine QF.seqNext ?_
          refine WC.region ?_
          refine WL.v (RV.move rfl) rfl ?_
          refine WL.v (RV.sub rfl rfl (Fit.i64 (by omega))) rfl ?_
          refine WL.v (RV.assign rfl) rfl ?_
          refine WL.nil ?_
          refine QF.next ((i - 1, w4, q / 2 ^ 6, (i : Int) - 1)) (⟨by dsimp only; omega, hdiv, hrow4, hU3.trans hU4, by dsimp only; omega⟩) (by dsimp only; omega) ⟨rfl, rfl, rfl, rfl, trivial⟩ rfl
        · intro hge
          obtain rfl : i = 0 := by have := of_decide_eq_false hge; omega
          obtain ⟨l1, l2, l3⟩ := lead_or 2 r (by decide) (by decide) (by omega)
          rw [Nat.sub_zero] at hq
          rw [← hq] at l1 l2 l3
          have hq8 : q < 256 := by omega
          refine WC.exit ?_
          refine QF.thenExit ?_
          refine QF.thenExit ?_
          refine QF.blockHit ?_
          refine QF.seqNext ?_
          refine WC.seq ?_
          refine WC.region ?_
          refine WL.v (RV.move rfl) rfl ?_
          refine WL.v (RV.move rfl) rfl ?_
          refine WL.v (RV.shrN (a := 255) (b := 2) rfl rfl rfl rfl (by decide)) rfl ?_
          refine WL.v (RV.not8 (a := 255 / 2 ^ 2) rfl rfl (by decide)) rfl ?_
          refine WL.v (RV.move rfl) rfl ?_
          refine WL.v (RV.conv Tryz.underlying21 Tryz.underlying5 rfl (Fit.u8 (by omega))) rfl ?_
          refine WL.v (RV.orN (a := 255 - 255 / 2 ^ 2) (b := q) rfl rfl rfl rfl (by decide) (by rw [maxU8]; omega)) rfl ?_
          refine WL.v (RV.indexAddr hrs Tryz.underlying31 (Tryz.sizeOf5 _) rfl rfl 0 rfl (by omega)) rfl ?_
          refine WL.storeAt hrow3 0 (by omega) (UInt8.ofNat (leadOf 2 + q)) (Tryz.sizeOf5 _) rfl (by decide) rfl rfl rfl (by rw [l1]; simp only [bval]; rw [ofNat_toNat l2]) ?_
          intro w5 hrow5 hU5
          refine WL.nil ?_
          refine QF.seqNext ?_
          refine WC.seq ?_
          refine WC.region ?_
          refine WL.v (RV.move rfl) rfl ?_
          refine WL.v (RV.assign rfl) rfl ?_
          refine WL.nil ?_
          refine QF.seqNext ?_
          refine WC.ret ?_
          refine QF.done1 rfl rfl (⟨?_, (hU3.trans hU5).ext⟩)
          have hs5 := hrow5.sl
          rw [hpn, putB, ← hq]
          simpa using hs5
    · skip
      refine WL.know (d := 16) rfl (b' := true) (rfl) ?_
      refine WL.on rfl ?_
      refine WL.v (RV.move rfl) rfl ?_
      refine WL.on rfl ?_
      refine WL.v (RV.move rfl) rfl ?_
      refine WL.on rfl ?_
      refine WL.v (RV.mul rfl rfl (Fit.i64 (by omega))) rfl ?_
      refine WL.on rfl ?_
      refine WL.v (RV.add rfl rfl (Fit.i64 (by omega))) rfl ?_
      refine WL.on rfl ?_
      refine WL.v (RV.shlN (a := 1) (b := 5 * 3 + 1) rfl rfl rfl rfl (by decide) (by rw [maxI32]; decide)) rfl ?_
      refine WL.on rfl ?_
      refine WL.v (RV.geq rfl rfl) rfl ?_
      refine WL.v (RV.pickT rfl rfl) rfl ?_
      refine WL.nil ?_
      refine QF.seqNext ?_
      refine WC.cond rfl ?_ ?_
      · intro c
        replace c : 2 ^ (5 * 3 + 1) ≤ r := by have := of_decide_eq_true c; omega
        refine WC.skip ?_
        refine QF.seqNext ?_
        refine WC.block ?_
        refine WC.region ?_
        refine WL.v (RV.move rfl) rfl ?_
        refine WL.v (RV.add rfl rfl (Fit.i64 (by omega))) rfl ?_
        refine WL.v (RV.assign rfl) rfl ?_
        refine WL.nil ?_
        refine QF.blockNormal ?_
        refine QF.next ((3 + 1)) (by omega) (by omega) ⟨rfl, rfl, trivial⟩ rfl
      · intro c
        replace c : r < 2 ^ (5 * 3 + 1) := by have := of_decide_eq_false c; omega
        have hpn : putM r0 = putB r 3 := by rw [hpm, putN, if_neg h128]; rw [if_neg (by omega), if_pos (by omega)]
        refine WC.exit ?_
        refine QF.thenExit ?_
        refine QF.thenExit ?_
        refine QF.blockHit ?_
        refine QF.seqNext ?_
        refine WC.seq ?_
        refine WC.region ?_
        refine WL.v (RV.move rfl) rfl ?_
        refine WL.makeRow elByte (val := bval) (0 : UInt8) (by kernel_rfl) (fun _ => rfl) (Rng.start w) 1 (by decide) 3 rfl rfl rfl rfl (by omega) (by omega) rfl ?_
        intro w2 O2 bv hbv hrow hU2 hR2 hE2
        refine WL.v (RV.assign rfl) rfl ?_
        refine WL.nil ?_
        refine QF.seqNext ?_
        refine WC.seq ?_
        refine WC.seq ?_
        refine WC.region ?_
        refine WL.v (RV.move rfl) rfl ?_
        refine WL.v (RV.sub rfl rfl (Fit.i64 (by omega))) rfl ?_
        refine WL.v (RV.assign rfl) rfl ?_
        refine WL.nil ?_
        refine QF.seqNext ?_
        refine WC.block ?_
        refine WC.loop (fun x : Nat × World × Nat × Int => [(0, .int .i32 x.2.2.1), (3, .int .i64 3), (4, bv), (5, .int .i64 x.2.2.2)]) (fun x : Nat × World × Nat × Int => x.2.1) (fun x : Nat × World × Nat × Int => x.1 ≤ 3 - 1 ∧ x.2.2.1 = r / 64 ^ (3 - 1 - x.1) ∧ RowT (fun b => [bval b]) 5 1 O2 x.2.1 1 bv (List.replicate (x.1 + 1) 0 ++ tailB r (3 - 1 - x.1)) ∧ Upd (fun j => j = 1) (fun _ => 0) w O2 x.2.1 ∧ x.2.2.2 = x.1) (fun x : Nat × World × Nat × Int => x.1) (3 - 1, w2, r, 3 - 1) (⟨Nat.le_refl _, by simp, by simpa [tailB] using hrow, hU2, rfl⟩) ⟨rfl, rfl, rfl, rfl, trivial⟩ rfl ?_
        rintro ⟨i, w3, q, ii⟩ ⟨hi, hq, hrow3, hU3, hii⟩
        dsimp only at hi hq hrow3 hU3 hii ⊢
        subst hii
        have hq31 : q ≤ r := by rw [hq]; exact Nat.div_le_self _ _
        have hrs := hrow3.sl
        have hlen : (List.replicate (i + 1) (0 : UInt8) ++ tailB r (3 - 1 - i)).length = 3 := by simp [tailB_len]; omega
        refine WC.seq ?_
        refine WC.seq ?_
        refine WC.region ?_
        refine WL.v (RV.move rfl) rfl ?_
        refine WL.v (RV.gtr rfl rfl) rfl ?_
        refine WL.nil ?_
        refine QF.seqNext ?_
        refine WC.cond rfl ?_ ?_
        · intro hlt
          replace hlt : 0 < i := by have := of_decide_eq_true hlt; omega
          have hle : q &&& 63 ≤ 63 := Nat.and_le_right
          have h128 := or128 q
          have hm6 := nat_mask6 q
          have hq64 : q % 64 < 64 := Nat.mod_lt _ (by decide)
          have hset : (List.replicate (i + 1) (0 : UInt8) ++ tailB r (3 - 1 - i)).set i (UInt8.ofNat (128 + q % 64)) = List.replicate (i - 1 + 1) 0 ++ tailB r (3 - 1 - (i - 1)) := by
            rw [show 3 - 1 - (i - 1) = (3 - 1 - i) + 1 from by omega, List.replicate_succ', List.append_assoc, List.set_append_right _ _ (by simp), show i - 1 + 1 = i from by omega]
            simp [tailB, hq]
          have hdiv : q / 2 ^ 6 = r / 64 ^ (3 - 1 - (i - 1)) := by
            rw [hq, show 3 - 1 - (i - 1) = (3 - 1 - i) + 1 from by omega, Nat.div_div_eq_div_mul]; exact congrArg (r / ·) (Nat.pow_succ (n := 64) (m := 3 - 1 - i)).symm
          refine WC.skip ?_
          refine QF.seqNext ?_
          refine WC.seq ?_
          refine WC.block ?_
          refine WC.seq ?_
          refine WC.region ?_
          refine WL.v (RV.move rfl) rfl ?_
          refine WL.v (RV.move rfl) rfl ?_
          refine WL.v (RV.move rfl) rfl ?_
          refine WL.v (RV.andN (a := q) (b := 63) rfl rfl rfl rfl (by rw [maxI32]; omega) (by rw [maxI32]; omega)) rfl ?_
          refine WL.v (RV.conv Tryz.underlying21 Tryz.underlying5 rfl (Fit.u8 (by omega))) rfl ?_
          refine WL.v (RV.orN (a := 128) (b := q &&& 63) rfl rfl rfl rfl (by rw [maxU8]; omega) (by rw [maxU8]; omega)) rfl ?_
          refine WL.v (RV.indexAddr (by first | exact hrs) Tryz.underlying31 (Tryz.sizeOf5 _) rfl rfl _ rfl (by omega)) rfl ?_
          refine WL.storeAt hrow3 i (by omega) (UInt8.ofNat (128 + q % 64)) (Tryz.sizeOf5 _) rfl (by decide) rfl rfl rfl (by rw [h128]; simp only [bval]; rw [ofNat_toNat (by omega)]) ?_
          intro w4 hrow4 hU4
          rw [hset] at hrow4
          refine WL.nil ?_
          refine QF.seqNext ?_
          refine WC.region ?_
          refine WL.v (RV.move rfl) rfl ?_
          refine WL.v (RV.shrN (a := q) (b := 6) rfl rfl rfl rfl (by decide)) rfl ?_
          refine WL.v (RV.assign rfl) rfl ?_
          refine WL.nil ?_
          refine QF.blockNormal ?_
          refine QF.seqNext ?_
          refine WC.region ?_
          refine WL.v (RV.move rfl) rfl ?_
          refine WL.v (RV.sub rfl rfl (Fit.i64 (by omega))) rfl ?_
          refine WL.v (RV.assign rfl) rfl ?_
          refine WL.nil ?_
          refine QF.next ((i - 1, w4, q / 2 ^ 6, (i : Int) - 1)) (⟨by dsimp only; omega, hdiv, hrow4, hU3.trans hU4, by dsimp only; omega⟩) (by dsimp only; omega) ⟨rfl, rfl, rfl, rfl, trivial⟩ rfl
        · intro hge
          obtain rfl : i = 0 := by have := of_decide_eq_false hge; omega
          obtain ⟨l1, l2, l3⟩ := lead_or 3 r (by decide) (by decide) (by omega)
          rw [Nat.sub_zero] at hq
          rw [← hq] at l1 l2 l3
          have hq8 : q < 256 := by omega
          refine WC.exit ?_
          refine QF.thenExit ?_
          refine QF.thenExit ?_
          refine QF.blockHit ?_
          refine QF.seqNext ?_
          refine WC.seq ?_
          refine WC.region ?_
          refine WL.v (RV.move rfl) rfl ?_
          refine WL.v (RV.move rfl) rfl ?_
          refine WL.v (RV.shrN (a := 255) (b := 3) rfl rfl rfl rfl (by decide)) rfl ?_
          refine WL.v (RV.not8 (a := 255 / 2 ^ 3) rfl rfl (by decide)) rfl ?_
          refine WL.v (RV.move rfl) rfl ?_
          refine WL.v (RV.conv Tryz.underlying21 Tryz.underlying5 rfl (Fit.u8 (by omega))) rfl ?_
          refine WL.v (RV.orN (a := 255 - 255 / 2 ^ 3) (b := q) rfl rfl rfl rfl (by decide) (by rw [maxU8]; omega)) rfl ?_
          refine WL.v (RV.indexAddr hrs Tryz.underlying31 (Tryz.sizeOf5 _) rfl rfl 0 rfl (by omega)) rfl ?_
          refine WL.storeAt hrow3 0 (by omega) (UInt8.ofNat (leadOf 3 + q)) (Tryz.sizeOf5 _) rfl (by decide) rfl rfl rfl (by rw [l1]; simp only [bval]; rw [ofNat_toNat l2]) ?_
          intro w5 hrow5 hU5
          refine WL.nil ?_
          refine QF.seqNext ?_
          refine WC.seq ?_
          refine WC.region ?_
          refine WL.v (RV.move rfl) rfl ?_
          refine WL.v (RV.assign rfl) rfl ?_
          refine WL.nil ?_
          refine QF.seqNext ?_
          refine WC.ret ?_
          refine QF.done1 rfl rfl (⟨?_, (hU3.trans hU5).ext⟩)
          have hs5 := hrow5.sl
          rw [hpn, putB, ← hq]
          simpa using hs5
    · skip
      refine WL.know (d := 16) rfl (b' := false) (rfl) ?_
      have hpn : putM r0 = putB r 4 := by rw [hpm, putN, if_neg h128, if_neg (by omega), if_neg (by omega)]
      refine WL.off rfl rfl rfl ?_
      refine WL.off rfl rfl rfl ?_
      refine WL.off rfl rfl rfl ?_
      refine WL.off rfl rfl rfl ?_
      refine WL.off rfl rfl rfl ?_
      refine WL.off rfl rfl rfl ?_
      refine WL.v (RV.pickF rfl rfl) rfl ?_
      refine WL.nil ?_
      refine QF.seqNext ?_
      refine WC.condF rfl rfl ?_
      refine WC.exit ?_
      refine QF.thenExit ?_
      refine QF.thenExit ?_
      refine QF.blockHit ?_
      refine QF.seqNext ?_
      refine WC.seq ?_
      refine WC.region ?_
      refine WL.v (RV.move rfl) rfl ?_
      refine WL.makeRow elByte (val := bval) (0 : UInt8) (by kernel_rfl) (fun _ => rfl) (Rng.start w) 1 (by decide) 4 rfl rfl rfl rfl (by omega) (by omega) rfl ?_
      intro w2 O2 bv hbv hrow hU2 hR2 hE2
      refine WL.v (RV.assign rfl) rfl ?_
      refine WL.nil ?_
      refine QF.seqNext ?_
      refine WC.seq ?_
      refine WC.seq ?_
      refine WC.region ?_
      refine WL.v (RV.move rfl) rfl ?_
      refine WL.v (RV.sub rfl rfl (Fit.i64 (by omega))) rfl ?_
      refine WL.v (RV.assign rfl) rfl ?_
      refine WL.nil ?_
      refine QF.seqNext ?_
      refine WC.block ?_
      refine WC.loop (fun x : Nat × World × Nat × Int => [(0, .int .i32 x.2.2.1), (3, .int .i64 4), (4, bv), (5, .int .i64 x.2.2.2)]) (fun x : Nat × World × Nat × Int => x.2.1) (fun x : Nat × World × Nat × Int => x.1 ≤ 4 - 1 ∧ x.2.2.1 = r / 64 ^ (4 - 1 - x.1) ∧ RowT (fun b => [bval b]) 5 1 O2 x.2.1 1 bv (List.replicate (x.1 + 1) 0 ++ tailB r (4 - 1 - x.1)) ∧ Upd (fun j => j = 1) (fun _ => 0) w O2 x.2.1 ∧ x.2.2.2 = x.1) (fun x : Nat × World × Nat × Int => x.1) (4 - 1, w2, r, 4 - 1) (⟨Nat.le_refl _, by simp, by simpa [tailB] using hrow, hU2, rfl⟩) ⟨rfl, rfl, rfl, rfl, trivial⟩ rfl ?_
      rintro ⟨i, w3, q, ii⟩ ⟨hi, hq, hrow3, hU3, hii⟩
      dsimp only at hi hq hrow3 hU3 hii ⊢
      subst hii
      have hq31 : q ≤ r := by rw [hq]; exact Nat.div_le_self _ _
      have hrs := hrow3.sl
      have hlen : (List.replicate (i + 1) (0 : UInt8) ++ tailB r (4 - 1 - i)).length = 4 := by simp [tailB_len]; omega
      refine WC.seq ?_
      refine WC.seq ?_
      refine WC.region ?_
      refine WL.v (RV.move rfl) rfl ?_
      refine WL.v (RV.gtr rfl rfl) rfl ?_
      refine WL.nil ?_
      refine QF.seqNext ?_
      refine WC.cond rfl ?_ ?_
      · intro hlt
        replace hlt : 0 < i := by have := of_decide_eq_true hlt; omega
        have hle : q &&& 63 ≤ 63 := Nat.and_le_right
        have h128 := or128 q
        have hm6 := nat_mask6 q
        have hq64 : q % 64 < 64 := Nat.mod_lt _ (by decide)
        have hset : (List.replicate (i + 1) (0 : UInt8) ++ tailB r (4 - 1 - i)).set i (UInt8.ofNat (128 + q % 64)) = List.replicate (i - 1 + 1) 0 ++ tailB r (4 - 1 - (i - 1)) := by
          rw [show 4 - 1 - (i - 1) = (4 - 1 - i) + 1 from by omega, List.replicate_succ', List.append_assoc, List.set_append_right _ _ (by simp), show i - 1 + 1 = i from by omega]
          simp [tailB, hq]
        have hdiv : q / 2 ^ 6 = r / 64 ^ (4 - 1 - (i - 1)) := by
          rw [hq, show 4 - 1 - (i - 1) = (4 - 1 - i) + 1 from by omega, Nat.div_div_eq_div_mul]; exact congrArg (r / ·) (Nat.pow_succ (n := 64) (m := 4 - 1 - i)).symm
        refine WC.skip ?_
        refine QF.seqNext ?_
        refine WC.seq ?_
        refine WC.block ?_
        refine WC.seq ?_
        refine WC.region ?_
        refine WL.v (RV.move rfl) rfl ?_
        refine WL.v (RV.move rfl) rfl ?_
        refine WL.v (RV.move rfl) rfl ?_
        refine WL.v (RV.andN (a := q) (b := 63) rfl rfl rfl rfl (by rw [maxI32]; omega) (by rw [maxI32]; omega)) rfl ?_
        refine WL.v (RV.conv Tryz.underlying21 Tryz.underlying5 rfl (Fit.u8 (by omega))) rfl ?_
        refine WL.v (RV.orN (a := 128) (b := q &&& 63) rfl rfl rfl rfl (by rw [maxU8]; omega) (by rw [maxU8]; omega)) rfl ?_
        refine WL.v (RV.indexAddr (by first | exact hrs) Tryz.underlying31 (Tryz.sizeOf5 _) rfl rfl _ rfl (by omega)) rfl ?_
        refine WL.storeAt hrow3 i (by omega) (UInt8.ofNat (128 + q % 64)) (Tryz.sizeOf5 _) rfl (by decide) rfl rfl rfl (by rw [h128]; simp only [bval]; rw [ofNat_toNat (by omega)]) ?_
        intro w4 hrow4 hU4
        rw [hset] at hrow4
        refine WL.nil ?_
        refine QF.seqNext ?_
        refine WC.region ?_
        refine WL.v (RV.move rfl) rfl ?_
        refine WL.v (RV.shrN (a := q) (b := 6) rfl rfl rfl rfl (by decide)) rfl ?_
        refine WL.v (RV.assign rfl) rfl ?_
        refine WL.nil ?_
        refine QF.blockNormal ?_
        refine QF.seqNext ?_
        refine WC.region ?_
        refine WL.v (RV.move rfl) rfl ?_
        refine WL.v (RV.sub rfl rfl (Fit.i64 (by omega))) rfl ?_
        refine WL.v (RV.assign rfl) rfl ?_
        refine WL.nil ?_
        refine QF.next ((i - 1, w4, q / 2 ^ 6, (i : Int) - 1)) (⟨by dsimp only; omega, hdiv, hrow4, hU3.trans hU4, by dsimp only; omega⟩) (by dsimp only; omega) ⟨rfl, rfl, rfl, rfl, trivial⟩ rfl
      · intro hge
        obtain rfl : i = 0 := by have := of_decide_eq_false hge; omega
        obtain ⟨l1, l2, l3⟩ := lead_or 4 r (by decide) (by decide) (by omega)
        rw [Nat.sub_zero] at hq
        rw [← hq] at l1 l2 l3
        have hq8 : q < 256 := by omega
        refine WC.exit ?_
        refine QF.thenExit ?_
        refine QF.thenExit ?_
        refine QF.blockHit ?_
        refine QF.seqNext ?_
        refine WC.seq ?_
        refine WC.region ?_
        refine WL.v (RV.move rfl) rfl ?_
        refine WL.v (RV.move rfl) rfl ?_
        refine WL.v (RV.shrN (a := 255) (b := 4) rfl rfl rfl rfl (by decide)) rfl ?_
        refine WL.v (RV.not8 (a := 255 / 2 ^ 4) rfl rfl (by decide)) rfl ?_
        refine WL.v (RV.move rfl) rfl ?_
        refine WL.v (RV.conv Tryz.underlying21 Tryz.underlying5 rfl (Fit.u8 (by omega))) rfl ?_
        refine WL.v (RV.orN (a := 255 - 255 / 2 ^ 4) (b := q) rfl rfl rfl rfl (by decide) (by rw [maxU8]; omega)) rfl ?_
        refine WL.v (RV.indexAddr hrs Tryz.underlying31 (Tryz.sizeOf5 _) rfl rfl 0 rfl (by omega)) rfl ?_
        refine WL.storeAt hrow3 0 (by omega) (UInt8.ofNat (leadOf 4 + q)) (Tryz.sizeOf5 _) rfl (by decide) rfl rfl rfl (by rw [l1]; simp only [bval]; rw [ofNat_toNat l2]) ?_
        intro w5 hrow5 hU5
        refine WL.nil ?_
        refine QF.seqNext ?_
        refine WC.seq ?_
        refine WC.region ?_
        refine WL.v (RV.move rfl) rfl ?_
        refine WL.v (RV.assign rfl) rfl ?_
        refine WL.nil ?_
        refine QF.seqNext ?_
        refine WC.ret ?_
        refine QF.done1 rfl rfl (⟨?_, (hU3.trans hU5).ext⟩)
        have hs5 := hrow5.sl
        rw [hpn, putB, ← hq]
        simpa using hs5
  · intro hw
    replace hw : rightR r0 = true := by simpa using hw
    rw [hw, if_pos rfl] at hpm
    have hw2 : 0 ≤ r0 ∧ r0 ≤ 1114111 := by simp only [rightR, Bool.and_eq_true, decide_eq_true_eq] at hw; exact hw.1
    obtain ⟨r, rfl⟩ := Int.eq_ofNat_of_zero_le hw2.1
    rw [Int.toNat_natCast] at hpm
    have hrb : r < 2097152 := by omega
    refine WC.skip ?_
    refine QF.seqNext ?_
    refine WC.seq ?_
    refine WC.seq ?_
    refine WC.region ?_
    refine WL.v (RV.move rfl) rfl ?_
    refine WL.v (RV.lss rfl rfl) rfl ?_
    refine WL.nil ?_
    refine QF.seqNext ?_
    refine WC.cond rfl ?_ ?_
    · intro c0
      replace c0 : r < 128 := by have := of_decide_eq_true c0; omega
      have hb1 : (UInt8.ofNat r).toNat = r := ofNat_toNat (by omega)
      refine WC.seq ?_
      refine WC.region ?_
      refine WL.v (RV.move rfl) rfl ?_
      refine WL.v (RV.conv Tryz.underlying21 Tryz.underlying5 rfl (Fit.u8 (by omega))) rfl ?_
      refine WL.buildSl Tryz.underlying31 (Tryz.sizeOf5 _) (Tryz.zeroValue5 _) (fun (x : UInt8) => [bval x]) [UInt8.ofNat r] rfl rfl rfl rfl (by simp only [bval, List.flatMap_cons, List.flatMap_nil, hb1]; kernel_rfl) (by simp) rfl ?_
      intro v1 w1 h1 hE1
      refine WL.v (RV.assign rfl) rfl ?_
      refine WL.nil ?_
      refine QF.seqNext ?_
      refine WC.ret ?_
      refine QF.thenRet ?_
      refine QF.done1 rfl rfl (⟨by rw [hpm, putN, if_pos c0]; exact h1, hE1⟩)
    · intro c0
      have h128 : ¬ r < 128 := by have := of_decide_eq_false c0; omega
      refine WC.skip ?_
      refine QF.seqNext ?_
      refine WC.seq ?_
      refine WC.region ?_
      refine WL.v (RV.assign rfl) rfl ?_
      refine WL.nil ?_
      refine QF.seqNext ?_
      refine WC.seq ?_
      refine WC.block ?_
      refine WC.loop (fun n : Nat => [(0, .int .i32 r), (3, .int .i64 n)]) (fun n : Nat => w) (fun n : Nat => n = 2 ∨ n = 3 ∧ 2048 ≤ r ∨ n = 4 ∧ 65536 ≤ r) (fun n : Nat => 4 - n) 2 (.inl rfl) ⟨rfl, rfl, trivial⟩ rfl ?_
      intro n hn
      refine WC.seq ?_
      refine WC.seq ?_
      refine WC.region ?_
      refine WL.v (RV.move rfl) rfl ?_
      refine WL.v (RV.lss rfl rfl) rfl ?_
      refine WL.v (RV.move rfl) rfl ?_
      rcases hn with rfl | ⟨rfl, hn3⟩ | ⟨rfl, hn4⟩
      · skip
        refine WL.know (d := 16) rfl (b' := true) (rfl) ?_
        refine WL.on rfl ?_
        refine WL.v (RV.move rfl) rfl ?_
        refine WL.on rfl ?_
        refine WL.v (RV.move rfl) rfl ?_
        refine WL.on rfl ?_
        refine WL.v (RV.mul rfl rfl (Fit.i64 (by omega))) rfl ?_
        refine WL.on rfl ?_
        refine WL.v (RV.add rfl rfl (Fit.i64 (by omega))) rfl ?_
        refine WL.on rfl ?_
        refine WL.v (RV.shlN (a := 1) (b := 5 * 2 + 1) rfl rfl rfl rfl (by decide) (by rw [maxI32]; decide)) rfl ?_
        refine WL.on rfl ?_
        refine WL.v (RV.geq rfl rfl) rfl ?_
        refine WL.v (RV.pickT rfl rfl) rfl ?_
        refine WL.nil ?_
        refine QF.seqNext ?_
        refine WC.cond rfl ?_ ?_
        · intro c
          replace c : 2 ^ (5 * 2 + 1) ≤ r := by have := of_decide_eq_true c; omega
          refine WC.skip ?_
          refine QF.seqNext ?_
          refine WC.block ?_
          refine WC.region ?_
          refine WL.v (RV.move rfl) rfl ?_
          refine WL.v (RV.add rfl rfl (Fit.i64 (by omega))) rfl ?_
          refine WL.v (RV.assign rfl) rfl ?_
          refine WL.nil ?_
          refine QF.blockNormal ?_
          refine QF.next ((2 + 1)) (by omega) (by omega) ⟨rfl, rfl, trivial⟩ rfl
        · intro c
          replace c : r < 2 ^ (5 * 2 + 1) := by have := of_decide_eq_false c; omega
          have hpn : putM (r : Int) = putB r 2 := by rw [hpm, putN, if_neg h128]; rw [if_pos (by omega)]
          refine WC.exit ?_
          refine QF.thenExit ?_
          refine QF.thenExit ?_
          refine QF.blockHit ?_
          refine QF.seqNext ?_
          refine WC.seq ?_
          refine WC.region ?_
          refine WL.v (RV.move rfl) rfl ?_
          refine WL.makeRow elByte (val := bval) (0 : UInt8) (by kernel_rfl) (fun _ => rfl) (Rng.start w) 1 (by decide) 2 rfl rfl rfl rfl (by omega) (by omega) rfl ?_
          intro w2 O2 bv hbv hrow hU2 hR2 hE2
          refine WL.v (RV.assign rfl) rfl ?_
          refine WL.nil ?_
          refine QF.seqNext ?_
          refine WC.seq ?_
          refine WC.seq ?_
          refine WC.region ?_
          refine WL.v (RV.move rfl) rfl ?_
          refine WL.v (RV.sub rfl rfl (Fit.i64 (by omega))) rfl ?_
          refine WL.v (RV.assign rfl) rfl ?_
          refine WL.nil ?_
          refine QF.seqNext ?_
          refine WC.block ?_
          refine WC.loop (fun x : Nat × World × Nat × Int => [(0, .int .i32 x.2.2.1), (3, .int .i64 2), (4, bv), (5, .int .i64 x.2.2.2)]) (fun x : Nat × World × Nat × Int => x.2.1) (fun x : Nat × World × Nat × Int => x.1 ≤ 2 - 1 ∧ x.2.2.1 = r / 64 ^ (2 - 1 - x.1) ∧ RowT (fun b => [bval b]) 5 1 O2 x.2.1 1 bv (List.replicate (x.1 + 1) 0 ++ tailB r (2 - 1 - x.1)) ∧ Upd (fun j => j = 1) (fun _ => 0) w O2 x.2.1 ∧ x.2.2.2 = x.1) (fun x : Nat × World × Nat × Int => x.1) (2 - 1, w2, r, 2 - 1) (⟨Nat.le_refl _, by simp, by simpa [tailB] using hrow, hU2, rfl⟩) ⟨rfl, rfl, rfl, rfl, trivial⟩ rfl ?_
          rintro ⟨i, w3, q, ii⟩ ⟨hi, hq, hrow3, hU3, hii⟩
          dsimp only at hi hq hrow3 hU3 hii ⊢
          subst hii
          have hq31 : q ≤ r := by rw [hq]; exact Nat.div_le_self _ _
          have hrs := hrow3.sl
          have hlen : (List.replicate (i + 1) (0 : UInt8) ++ tailB r (2 - 1 - i)).length = 2 := by simp [tailB_len]; omega
          refine WC.seq ?_
          refine WC.seq ?_
          refine WC.region ?_
          refine WL.v (RV.move rfl) rfl ?_
          refine WL.v (RV.gtr rfl rfl) rfl ?_
          refine WL.nil ?_
          refine QF.seqNext ?_
          refine WC.cond rfl ?_ ?_
          · intro hlt
            replace hlt : 0 < i := by have := of_decide_eq_true hlt; omega
            have hle : q &&& 63 ≤ 63 := Nat.and_le_right
            have h128 := or128 q
            have hm6 := nat_mask6 q
            have hq64 : q % 64 < 64 := Nat.mod_lt _ (by decide)
            have hset : (List.replicate (i + 1) (0 : UInt8) ++ tailB r (2 - 1 - i)).set i (UInt8.ofNat (128 + q % 64)) = List.replicate (i - 1 + 1) 0 ++ tailB r (2 - 1 - (i - 1)) := by
              rw [show 2 - 1 - (i - 1) = (2 - 1 - i) + 1 from by omega, List.replicate_succ', List.append_assoc, List.set_append_right _ _ (by simp), show i - 1 + 1 = i from by omega]
              simp [tailB, hq]
            have hdiv : q / 2 ^ 6 = r / 64 ^ (2 - 1 - (i - 1)) := by
              rw [hq, show 2 - 1 - (i - 1) = (2 - 1 - i) + 1 from by omega, Nat.div_div_eq_div_mul]; exact congrArg (r / ·) (Nat.pow_succ (n := 64) (m := 2 - 1 - i)).symm
            refine WC.skip ?_
            refine QF.seqNext ?_
            refine WC.seq ?_
            refine WC.block ?_
            refine WC.seq ?_
            refine WC.region ?_
            refine WL.v (RV.move rfl) rfl ?_
            refine WL.v (RV.move rfl) rfl ?_
            refine WL.v (RV.move rfl) rfl ?_
            refine WL.v (RV.andN (a := q) (b := 63) rfl rfl rfl rfl (by rw [maxI32]; omega) (by rw [maxI32]; omega)) rfl ?_
            refine WL.v (RV.conv Tryz.underlying21 Tryz.underlying5 rfl (Fit.u8 (by omega))) rfl ?_
            refine WL.v (RV.orN (a := 128) (b := q &&& 63) rfl rfl rfl rfl (by rw [maxU8]; omega) (by rw [maxU8]; omega)) rfl ?_
            refine WL.v (RV.indexAddr (by first | exact hrs) Tryz.underlying31 (Tryz.sizeOf5 _) rfl rfl _ rfl (by omega)) rfl ?_
            refine WL.storeAt hrow3 i (by omega) (UInt8.ofNat (128 + q % 64)) (Tryz.sizeOf5 _) rfl (by decide) rfl rfl rfl (by rw [h128]; simp only [bval]; rw [ofNat_toNat (by omega)]) ?_
            intro w4 hrow4 hU4
            rw [hset] at hrow4
            refine WL.nil ?_
            refine QF.seqNext ?_
            refine WC.region ?_
            refine WL.v (RV.move rfl) rfl ?_
            refine WL.v (RV.shrN (a := q) (b := 6) rfl rfl rfl rfl (by decide)) rfl ?_
            refine WL.v (RV.assign rfl) rfl ?_
            refine WL.nil ?_
            refine QF.blockNormal ?_
            refine QF.seqNext ?_
            refine WC.region ?_
            refine WL.v (RV.move rfl) rfl ?_
            refine WL.v (RV.sub rfl rfl (Fit.i64 (by omega))) rfl ?_
            refine WL.v (RV.assign rfl) rfl ?_
            refine WL.nil ?_
            refine QF.next ((i - 1, w4, q / 2 ^ 6, (i : Int) - 1)) (⟨by dsimp only; omega, hdiv, hrow4, hU3.trans hU4, by dsimp only; omega⟩) (by dsimp only; omega) ⟨rfl, rfl, rfl, rfl, trivial⟩ rfl
          · intro hge
            obtain rfl : i = 0 := by have := of_decide_eq_false hge; omega
            obtain ⟨l1, l2, l3⟩ := lead_or 2 r (by decide) (by decide) (by omega)
            rw [Nat.sub_zero] at hq
            rw [← hq] at l1 l2 l3
            have hq8 : q < 256 := by omega
            refine WC.exit ?_
            refine QF.thenExit ?_
            refine QF.thenExit ?_
            refine QF.blockHit ?_
            refine QF.seqNext ?_
            refine WC.seq ?_
            refine WC.region ?_
            refine WL.v (RV.move rfl) rfl ?_
            refine WL.v (RV.move rfl) rfl ?_
            refine WL.v (RV.shrN (a := 255) (b := 2) rfl rfl rfl rfl (by decide)) rfl ?_
            refine WL.v (RV.not8 (a := 255 / 2 ^ 2) rfl rfl (by decide)) rfl ?_
            refine WL.v (RV.move rfl) rfl ?_
            refine WL.v (RV.conv Tryz.underlying21 Tryz.underlying5 rfl (Fit.u8 (by omega))) rfl ?_
            refine WL.v (RV.orN (a := 255 - 255 / 2 ^ 2) (b := q) rfl rfl rfl rfl (by decide) (by rw [maxU8]; omega)) rfl ?_
            refine WL.v (RV.indexAddr hrs Tryz.underlying31 (Tryz.sizeOf5 _) rfl rfl 0 rfl (by omega)) rfl ?_
            refine WL.storeAt hrow3 0 (by omega) (UInt8.ofNat (leadOf 2 + q)) (Tryz.sizeOf5 _) rfl (by decide) rfl rfl rfl (by rw [l1]; simp only [bval]; rw [ofNat_toNat l2]) ?_
            intro w5 hrow5 hU5
            refine WL.nil ?_
            refine QF.seqNext ?_
            refine WC.seq ?_
            refine WC.region ?_
            refine WL.v (RV.move rfl) rfl ?_
            refine WL.v (RV.assign rfl) rfl ?_
            refine WL.nil ?_
            refine QF.seqNext ?_
            refine WC.ret ?_
            refine QF.done1 rfl rfl (⟨?_, (hU3.trans hU5).ext⟩)
            have hs5 := hrow5.sl
            rw [hpn, putB, ← hq]
            simpa using hs5
      · skip
        refine WL.know (d := 16) rfl (b' := true) (rfl) ?_
        refine WL.on rfl ?_
        refine WL.v (RV.move rfl) rfl ?_
        refine WL.on rfl ?_
        refine WL.v (RV.move rfl) rfl ?_
        refine WL.on rfl ?_
        refine WL.v (RV.mul rfl rfl (Fit.i64 (by omega))) rfl ?_
        refine WL.on rfl ?_
        refine WL.v (RV.add rfl rfl (Fit.i64 (by omega))) rfl ?_
        refine WL.on rfl ?_
        refine WL.v (RV.shlN (a := 1) (b := 5 * 3 + 1) rfl rfl rfl rfl (by decide) (by rw [maxI32]; decide)) rfl ?_
        refine WL.on rfl ?_
        refine WL.v (RV.geq rfl rfl) rfl ?_
        refine WL.v (RV.pickT rfl rfl) rfl ?_
        refine WL.nil ?_
        refine QF.seqNext ?_
        refine WC.cond rfl ?_ ?_
        · intro c
          replace c : 2 ^ (5 * 3 + 1) ≤ r := by have := of_decide_eq_true c; omega
          refine WC.skip ?_
          refine QF.seqNext ?_
          refine WC.block ?_
          refine WC.region ?_
          refine WL.v (RV.move rfl) rfl ?_
          refine WL.v (RV.add rfl rfl (Fit.i64 (by omega))) rfl ?_
          refine WL.v (RV.assign rfl) rfl ?_
          refine WL.nil ?_
          refine QF.blockNormal ?_
          refine QF.next ((3 + 1)) (by omega) (by omega) ⟨rfl, rfl, trivial⟩ rfl
        · intro c
          replace c : r < 2 ^ (5 * 3 + 1) := by have := of_decide_eq_false c; omega
          have hpn : putM (r : Int) = putB r 3 := by rw [hpm, putN, if_neg h128]; rw [if_neg (by omega), if_pos (by omega)]
          refine WC.exit ?_
          refine QF.thenExit ?_
          refine QF.thenExit ?_
          refine QF.blockHit ?_
          refine QF.seqNext ?_
          refine WC.seq ?_
          refine WC.region ?_
          refine WL.v (RV.move rfl) rfl ?_
          refine WL.makeRow elByte (val := bval) (0 : UInt8) (by kernel_rfl) (fun _ => rfl) (Rng.start w) 1 (by decide) 3 rfl rfl rfl rfl (by omega) (by omega) rfl ?_
          intro w2 O2 bv hbv hrow hU2 hR2 hE2
          refine WL.v (RV.assign rfl) rfl ?_
          refine WL.nil ?_
          refine QF.seqNext ?_
          refine WC.seq ?_
          refine WC.seq ?_
          refine WC.region ?_
          refine WL.v (RV.move rfl) rfl ?_
          refine WL.v (RV.sub rfl rfl (Fit.i64 (by omega))) rfl ?_
          refine WL.v (RV.assign rfl) rfl ?_
          refine WL.nil ?_
          refine QF.seqNext ?_
          refine WC.block ?_
          refine WC.loop (fun x : Nat × World × Nat × Int => [(0, .int .i32 x.2.2.1), (3, .int .i64 3), (4, bv), (5, .int .i64 x.2.2.2)]) (fun x : Nat × World × Nat × Int => x.2.1) (fun x : Nat × World × Nat × Int => x.1 ≤ 3 - 1 ∧ x.2.2.1 = r / 64 ^ (3 - 1 - x.1) ∧ RowT (fun b => [bval b]) 5 1 O2 x.2.1 1 bv (List.replicate (x.1 + 1) 0 ++ tailB r (3 - 1 - x.1)) ∧ Upd (fun j => j = 1) (fun _ => 0) w O2 x.2.1 ∧ x.2.2.2 = x.1) (fun x : Nat × World × Nat × Int => x.1) (3 - 1, w2, r, 3 - 1) (⟨Nat.le_refl _, by simp, by simpa [tailB] using hrow, hU2, rfl⟩) ⟨rfl, rfl, rfl, rfl, trivial⟩ rfl ?_
          rintro ⟨i, w3, q, ii⟩ ⟨hi, hq, hrow3, hU3, hii⟩
          dsimp only at hi hq hrow3 hU3 hii ⊢
          subst hii
          have hq31 : q ≤ r := by rw [hq]; exact Nat.div_le_self _ _
          have hrs := hrow3.sl
          have hlen : (List.replicate (i + 1) (0 : UInt8) ++ tailB r (3 - 1 - i)).length = 3 := by simp [tailB_len]; omega
          refine WC.seq ?_
          refine WC.seq ?_
          refine WC.region ?_
          refine WL.v (RV.move rfl) rfl ?_
          refine WL.v (RV.gtr rfl rfl) rfl ?_
          refine WL.nil ?_
          refine QF.seqNext ?_
          refine WC.cond rfl ?_ ?_
          · intro hlt
            replace hlt : 0 < i := by have := of_decide_eq_true hlt; omega
            have hle : q &&& 63 ≤ 63 := Nat.and_le_right
            have h128 := or128 q
            have hm6 := nat_mask6 q
            have hq64 : q % 64 < 64 := Nat.mod_lt _ (by decide)
            have hset : (List.replicate (i + 1) (0 : UInt8) ++ tailB r (3 - 1 - i)).set i (UInt8.ofNat (128 + q % 64)) = List.replicate (i - 1 + 1) 0 ++ tailB r (3 - 1 - (i - 1)) := by
              rw [show 3 - 1 - (i - 1) = (3 - 1 - i) + 1 from by omega, List.replicate_succ', List.append_assoc, List.set_append_right _ _ (by simp), show i - 1 + 1 = i from by omega]
              simp [tailB, hq]
            have hdiv : q / 2 ^ 6 = r / 64 ^ (3 - 1 - (i - 1)) := by
              rw [hq, show 3 - 1 - (i - 1) = (3 - 1 - i) + 1 from by omega, Nat.div_div_eq_div_mul]; exact congrArg (r / ·) (Nat.pow_succ (n := 64) (m := 3 - 1 - i)).symm
            refine WC.skip ?_
            refine QF.seqNext ?_
            refine WC.seq ?_
            refine WC.block ?_
            refine WC.seq ?_
            refine WC.region ?_
            refine WL.v (RV.move rfl) rfl ?_
            refine WL.v (RV.move rfl) rfl ?_
            refine WL.v (RV.move rfl) rfl ?_
            refine WL.v (RV.andN (a := q) (b := 63) rfl rfl rfl rfl (by rw [maxI32]; omega) (by rw [maxI32]; omega)) rfl ?_
            refine WL.v (RV.conv Tryz.underlying21 Tryz.underlying5 rfl (Fit.u8 (by omega))) rfl ?_
            refine WL.v (RV.orN (a := 128) (b := q &&& 63) rfl rfl rfl rfl (by rw [maxU8]; omega) (by rw [maxU8]; omega)) rfl ?_
            refine WL.v (RV.indexAddr (by first | exact hrs) Tryz.underlying31 (Tryz.sizeOf5 _) rfl rfl _ rfl (by omega)) rfl ?_
            refine WL.storeAt hrow3 i (by omega) (UInt8.ofNat (128 + q % 64)) (Tryz.sizeOf5 _) rfl (by decide) rfl rfl rfl (by rw [h128]; simp only [bval]; rw [ofNat_toNat (by omega)]) ?_
            intro w4 hrow4 hU4
            rw [hset] at hrow4
            refine WL.nil ?_
            refine QF.seqNext ?_
            refine WC.region ?_
            refine WL.v (RV.move rfl) rfl ?_
            refine WL.v (RV.shrN (a := q) (b := 6) rfl rfl rfl rfl (by decide)) rfl ?_
            refine WL.v (RV.assign rfl) rfl ?_
            refine WL.nil ?_
            refine QF.blockNormal ?_
            refine QF.seqNext ?_
            refine WC.region ?_
            refine WL.v (RV.move rfl) rfl ?_
            refine WL.v (RV.sub rfl rfl (Fit.i64 (by omega))) rfl ?_
            refine WL.v (RV.assign rfl) rfl ?_
            refine WL.nil ?_
            refine QF.next ((i - 1, w4, q / 2 ^ 6, (i : Int) - 1)) (⟨by dsimp only; omega, hdiv, hrow4, hU3.trans hU4, by dsimp only; omega⟩) (by dsimp only; omega) ⟨rfl, rfl, rfl, rfl, trivial⟩ rfl
          · intro hge
            obtain rfl : i = 0 := by have := of_decide_eq_false hge; omega
            obtain ⟨l1, l2, l3⟩ := lead_or 3 r (by decide) (by decide) (by omega)
            rw [Nat.sub_zero] at hq
            rw [← hq] at l1 l2 l3
            have hq8 : q < 256 := by omega
            refine WC.exit ?_
            refine QF.thenExit ?_
            refine QF.thenExit ?_
            refine QF.blockHit ?_
            refine QF.seqNext ?_
            refine WC.seq ?_
            refine WC.region ?_
            refine WL.v (RV.move rfl) rfl ?_
            refine WL.v (RV.move rfl) rfl ?_
            refine WL.v (RV.shrN (a := 255) (b := 3) rfl rfl rfl rfl (by decide)) rfl ?_
            refine WL.v (RV.not8 (a := 255 / 2 ^ 3) rfl rfl (by decide)) rfl ?_
            refine WL.v (RV.move rfl) rfl ?_
            refine WL.v (RV.conv Tryz.underlying21 Tryz.underlying5 rfl (Fit.u8 (by omega))) rfl ?_
            refine WL.v (RV.orN (a := 255 - 255 / 2 ^ 3) (b := q) rfl rfl rfl rfl (by decide) (by rw [maxU8]; omega)) rfl ?_
            refine WL.v (RV.indexAddr hrs Tryz.underlying31 (Tryz.sizeOf5 _) rfl rfl 0 rfl (by omega)) rfl ?_
            refine WL.storeAt hrow3 0 (by omega) (UInt8.ofNat (leadOf 3 + q)) (Tryz.sizeOf5 _) rfl (by decide) rfl rfl rfl (by rw [l1]; simp only [bval]; rw [ofNat_toNat l2]) ?_
            intro w5 hrow5 hU5
            refine WL.nil ?_
            refine QF.seqNext ?_
            refine WC.seq ?_
            refine WC.region ?_
            refine WL.v (RV.move rfl) rfl ?_
            refine WL.v (RV.assign rfl) rfl ?_
            refine WL.nil ?_
            refine QF.seqNext ?_
            refine WC.ret ?_
            refine QF.done1 rfl rfl (⟨?_, (hU3.trans hU5).ext⟩)
            have hs5 := hrow5.sl
            rw [hpn, putB, ← hq]
            simpa using hs5
      · skip
        refine WL.know (d := 16) rfl (b' := false) (rfl) ?_
        have hpn : putM (r : Int) = putB r 4 := by rw [hpm, putN, if_neg h128, if_neg (by omega), if_neg (by omega)]
        refine WL.off rfl rfl rfl ?_
        refine WL.off rfl rfl rfl ?_
        refine WL.off rfl rfl rfl ?_
        refine WL.off rfl rfl rfl ?_
        refine WL.off rfl rfl rfl ?_
        refine WL.off rfl rfl rfl ?_
        refine WL.v (RV.pickF rfl rfl) rfl ?_
        refine WL.nil ?_
        refine QF.seqNext ?_
        refine WC.condF rfl rfl ?_
        refine WC.exit ?_
        refine QF.thenExit ?_
        refine QF.thenExit ?_
        refine QF.blockHit ?_
        refine QF.seqNext ?_
        refine WC.seq ?_
        refine WC.region ?_
        refine WL.v (RV.move rfl) rfl ?_
        refine WL.makeRow elByte (val := bval) (0 : UInt8) (by kernel_rfl) (fun _ => rfl) (Rng.start w) 1 (by decide) 4 rfl rfl rfl rfl (by omega) (by omega) rfl ?_
        intro w2 O2 bv hbv hrow hU2 hR2 hE2
        refine WL.v (RV.assign rfl) rfl ?_
        refine WL.nil ?_
        refine QF.seqNext ?_
        refine WC.seq ?_
        refine WC.seq ?_
        refine WC.region ?_
        refine WL.v (RV.move rfl) rfl ?_
        refine WL.v (RV.sub rfl rfl (Fit.i64 (by omega))) rfl ?_
        refine WL.v (RV.assign rfl) rfl ?_
        refine WL.nil ?_
        refine QF.seqNext ?_
        refine WC.block ?_
        refine WC.loop (fun x : Nat × World × Nat × Int => [(0, .int .i32 x.2.2.1), (3, .int .i64 4), (4, bv), (5, .int .i64 x.2.2.2)]) (fun x : Nat × World × Nat × Int => x.2.1) (fun x : Nat × World × Nat × Int => x.1 ≤ 4 - 1 ∧ x.2.2.1 = r / 64 ^ (4 - 1 - x.1) ∧ RowT (fun b => [bval b]) 5 1 O2 x.2.1 1 bv (List.replicate (x.1 + 1) 0 ++ tailB r (4 - 1 - x.1)) ∧ Upd (fun j => j = 1) (fun _ => 0) w O2 x.2.1 ∧ x.2.2.2 = x.1) (fun x : Nat × World × Nat × Int => x.1) (4 - 1, w2, r, 4 - 1) (⟨Nat.le_refl _, by simp, by simpa [tailB] using hrow, hU2, rfl⟩) ⟨rfl, rfl, rfl, rfl, trivial⟩ rfl ?_
        rintro ⟨i, w3, q, ii⟩ ⟨hi, hq, hrow3, hU3, hii⟩
        dsimp only at hi hq hrow3 hU3 hii ⊢
        subst hii
        have hq31 : q ≤ r := by rw [hq]; exact Nat.div_le_self _ _
        have hrs := hrow3.sl
        have hlen : (List.replicate (i + 1) (0 : UInt8) ++ tailB r (4 - 1 - i)).length = 4 := by simp [tailB_len]; omega
        refine WC.seq ?_
        refine WC.seq ?_
        refine WC.region ?_
        refine WL.v (RV.move rfl) rfl ?_
        refine WL.v (RV.gtr rfl rfl) rfl ?_
        refine WL.nil ?_
        refine QF.seqNext ?_
        refine WC.cond rfl ?_ ?_
        · intro hlt
          replace hlt : 0 < i := by have := of_decide_eq_true hlt; omega
          have hle : q &&& 63 ≤ 63 := Nat.and_le_right
          have h128 := or128 q
          have hm6 := nat_mask6 q
          have hq64 : q % 64 < 64 := Nat.mod_lt _ (by decide)
          have hset : (List.replicate (i + 1) (0 : UInt8) ++ tailB r (4 - 1 - i)).set i (UInt8.ofNat (128 + q % 64)) = List.replicate (i - 1 + 1) 0 ++ tailB r (4 - 1 - (i - 1)) := by
            rw [show 4 - 1 - (i - 1) = (4 - 1 - i) + 1 from by omega, List.replicate_succ', List.append_assoc, List.set_append_right _ _ (by simp), show i - 1 + 1 = i from by omega]
            simp [tailB, hq]
          have hdiv : q / 2 ^ 6 = r / 64 ^ (4 - 1 - (i - 1)) := by
            rw [hq, show 4 - 1 - (i - 1) = (4 - 1 - i) + 1 from by omega, Nat.div_div_eq_div_mul]; exact congrArg (r / ·) (Nat.pow_succ (n := 64) (m := 4 - 1 - i)).symm
          refine WC.skip ?_
          refine QF.seqNext ?_
          refine WC.seq ?_
          refine WC.block ?_
          refine WC.seq ?_
          refine WC.region ?_
          refine WL.v (RV.move rfl) rfl ?_
          refine WL.v (RV.move rfl) rfl ?_
          refine WL.v (RV.move rfl) rfl ?_
          refine WL.v (RV.andN (a := q) (b := 63) rfl rfl rfl rfl (by rw [maxI32]; omega) (by rw [maxI32]; omega)) rfl ?_
          refine WL.v (RV.conv Tryz.underlying21 Tryz.underlying5 rfl (Fit.u8 (by omega))) rfl ?_
          refine WL.v (RV.orN (a := 128) (b := q &&& 63) rfl rfl rfl rfl (by rw [maxU8]; omega) (by rw [maxU8]; omega)) rfl ?_
          refine WL.v (RV.indexAddr (by first | exact hrs) Tryz.underlying31 (Tryz.sizeOf5 _) rfl rfl _ rfl (by omega)) rfl ?_
          refine WL.storeAt hrow3 i (by omega) (UInt8.ofNat (128 + q % 64)) (Tryz.sizeOf5 _) rfl (by decide) rfl rfl rfl (by rw [h128]; simp only [bval]; rw [ofNat_toNat (by omega)]) ?_
          intro w4 hrow4 hU4
          rw [hset] at hrow4
          refine WL.nil ?_
          refine QF.seqNext ?_
          refine WC.region ?_
          refine WL.v (RV.move rfl) rfl ?_
          refine WL.v (RV.shrN (a := q) (b := 6) rfl rfl rfl rfl (by decide)) rfl ?_
          refine WL.v (RV.assign rfl) rfl ?_
          refine WL.nil ?_
          refine QF.blockNormal ?_
          refine QF.seqNext ?_
          refine WC.region ?_
          refine WL.v (RV.move rfl) rfl ?_
          refine WL.v (RV.sub rfl rfl (Fit.i64 (by omega))) rfl ?_
          refine WL.v (RV.assign rfl) rfl ?_
          refine WL.nil ?_
          refine QF.next ((i - 1, w4, q / 2 ^ 6, (i : Int) - 1)) (⟨by dsimp only; omega, hdiv, hrow4, hU3.trans hU4, by dsimp only; omega⟩) (by dsimp only; omega) ⟨rfl, rfl, rfl, rfl, trivial⟩ rfl
        · intro hge
          obtain rfl : i = 0 := by have := of_decide_eq_false hge; omega
          obtain ⟨l1, l2, l3⟩ := lead_or 4 r (by decide) (by decide) (by omega)
          rw [Nat.sub_zero] at hq
          rw [← hq] at l1 l2 l3
          have hq8 : q < 256 := by omega
          refine WC.exit ?_
          refine QF.thenExit ?_
          refine QF.thenExit ?_
          refine QF.blockHit ?_
          refine QF.seqNext ?_
          refine WC.seq ?_
          refine WC.region ?_
          refine WL.v (RV.move rfl) rfl ?_
          refine WL.v (RV.move rfl) rfl ?_
          refine WL.v (RV.shrN (a := 255) (b := 4) rfl rfl rfl rfl (by decide)) rfl ?_
          refine WL.v (RV.not8 (a := 255 / 2 ^ 4) rfl rfl (by decide)) rfl ?_
          refine WL.v (RV.move rfl) rfl ?_
          refine WL.v (RV.conv Tryz.underlying21 Tryz.underlying5 rfl (Fit.u8 (by omega))) rfl ?_
          refine WL.v (RV.orN (a := 255 - 255 / 2 ^ 4) (b := q) rfl rfl rfl rfl (by decide) (by rw [maxU8]; omega)) rfl ?_
          refine WL.v (RV.indexAddr hrs Tryz.underlying31 (Tryz.sizeOf5 _) rfl rfl 0 rfl (by omega)) rfl ?_
          refine WL.storeAt hrow3 0 (by omega) (UInt8.ofNat (leadOf 4 + q)) (Tryz.sizeOf5 _) rfl (by decide) rfl rfl rfl (by rw [l1]; simp only [bval]; rw [ofNat_toNat l2]) ?_
          intro w5 hrow5 hU5
          refine WL.nil ?_
          refine QF.seqNext ?_
          refine WC.seq ?_
          refine WC.region ?_
          refine WL.v (RV.move rfl) rfl ?_
          refine WL.v (RV.assign rfl) rfl ?_
          refine WL.nil ?_
          refine QF.seqNext ?_
          refine WC.ret ?_
          refine QF.done1 rfl rfl (⟨?_, (hU3.trans hU5).ext⟩)
          have hs5 := hrow5.sl
          rw [hpn, putB, ← hq]
          simpa using hs5
end Go.Proofs.YtakigpnccppheaaGreatDoor
