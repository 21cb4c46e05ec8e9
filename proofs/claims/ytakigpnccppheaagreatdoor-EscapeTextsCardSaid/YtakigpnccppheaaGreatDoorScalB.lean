/- Package scalar, walked: what stands at a place. -/
import Derived.Test.YtakigpnccppheaaGreatDoorScalA
import Derived.Laws.BitsAllLaws
namespace Go.Proofs.YtakigpnccppheaaGreatDoor
open Go.VL Go.Proofs

def valTo (l : List UInt8) (n : Nat) : Nat → Nat
  | 0 => by8 l 0 % 2 ^ (7 - n)
  | j + 1 => valTo l n j * 64 + by8 l (j + 1) % 64
/-- The scalar of a whole sequence. -/
def valM (l : List UInt8) (n : Nat) : Nat := if n = 1 then by8 l 0 else valTo l n (n - 1)
theorem valTo_lt (l : List UInt8) (n : Nat) (hn : 2 ≤ n) : ∀ j, valTo l n j < 32 * 64 ^ j
  | 0 => by
    have h1 : by8 l 0 % 2 ^ (7 - n) < 2 ^ (7 - n) := Nat.mod_lt _ (Nat.two_pow_pos _)
    have h2 : 2 ^ (7 - n) ≤ 2 ^ 5 := Nat.pow_le_pow_right (by decide) (by omega)
    simp only [valTo]; omega
  | j + 1 => by
    have := valTo_lt l n hn j
    simp only [valTo, Nat.pow_succ]; omega
theorem valTo_take (l : List UInt8) (n m : Nat) : ∀ j, j < m → valTo (l.take m) n j = valTo l n j
  | 0, h => by simp only [valTo]; rw [by8_take _ _ _ h]
  | j + 1, h => by simp only [valTo]; rw [by8_take _ _ _ h, valTo_take l n m j (by omega)]
theorem maxI32 : IntKind.i32.max = 2147483647 := by decide
theorem maxU8 : IntKind.u8.max = 255 := by decide
theorem mask_lead (a n : Nat) (h2 : 2 ≤ n) (h4 : n ≤ 4) : a &&& (127 / 2 ^ n) = a % 2 ^ (7 - n) := by
  have : n = 2 ∨ n = 3 ∨ n = 4 := by omega
  rcases this with rfl | rfl | rfl
  · exact Nat.and_two_pow_sub_one_eq_mod a 5
  · exact Nat.and_two_pow_sub_one_eq_mod a 4
  · exact Nat.and_two_pow_sub_one_eq_mod a 3
theorem join6 (r c : Nat) : r * 2 ^ 6 ||| (c &&& 63) = r * 64 + c % 64 := by
  rw [nat_mask6, nat_join 6 (r * 2 ^ 6) (c % 64) (Nat.mul_mod_left _ _) (Nat.mod_lt _ (by decide))]

set_option maxRecDepth 4000 in
theorem value_ret (l : List UInt8) (bv : Value) (w : World) (h : Bytes w bv l) (h1 : 1 ≤ l.length) (h4 : l.length ≤ 4) :
    Ret Tryz.prog 72 [bv] w fun v w' => v = .int .i32 (valM l l.length) ∧ Ext w w' := by
  have b0 : (nth l 0).toNat < 256 := (nth l 0).toNat_lt
  refine Ret.enter Tryz.func72 Tryz.ntmps72 rfl rfl ?_
  refine WC.seq ?_
  refine WC.region ?_
  refine WL.v (RV.assign rfl) rfl ?_
  refine WL.nil ?_
  refine QF.seqNext ?_
  refine WC.seq ?_
  refine WC.seq ?_
  refine WC.region ?_
  refine WL.v (RV.move rfl) rfl ?_
  refine WL.v (RV.len (by first | exact h) Tryz.underlying31 rfl) rfl ?_
  refine WL.v (RV.eql rfl rfl) rfl ?_
  refine WL.nil ?_
  refine QF.seqNext ?_
  refine WC.cond rfl ?_ ?_
  · intro hn
    replace hn : l.length = 1 := by have : (l.length : Int) = 1 := by simpa using hn
                                    omega
    refine WC.seq ?_
    refine WC.region ?_
    refine WL.v (RV.move rfl) rfl ?_
    refine WL.v (RV.indexAddr h Tryz.underlying31 (Tryz.sizeOf5 _) rfl rfl 0 rfl (by omega)) rfl ?_
    refine WL.v (RV.load (by first | exact h.ld (i := 0) (by omega)) (Tryz.isAgg5 _) rfl) rfl ?_
    refine WL.v (RV.conv Tryz.underlying5 Tryz.underlying21 rfl (Fit.i32 (by omega))) rfl ?_
    refine WL.v (RV.assign rfl) rfl ?_
    refine WL.nil ?_
    refine QF.seqNext ?_
    refine WC.ret ?_
    refine QF.thenRet ?_
    refine QF.done1 rfl rfl (⟨by rw [valM, if_pos hn]; rfl, Ext.refl w⟩)
  · intro hn
    replace hn : l.length ≠ 1 := by have : ¬ (l.length : Int) = 1 := by simpa using hn
                                    omega
    have hd := h.drew
    refine WC.skip ?_
    refine QF.seqNext ?_
    refine WC.seq ?_
    refine WC.still (by kernel_rfl) (by kernel_rfl) ?_
    refine WS.v (RV.move rfl) rfl ?_
    refine WS.v (RV.indexAddr hd Tryz.underlying31 (Tryz.sizeOf5 _) (by rfl) (by rfl) 0 (by rfl) (Nat.lt_of_lt_of_le Nat.zero_lt_one h1)) rfl ?_
    refine WS.v (RV.load (by first | exact hd.ld (i := 0) (by omega)) (Tryz.isAgg5 _) rfl) rfl ?_
    refine WS.v (RV.conv Tryz.underlying5 Tryz.underlying21 rfl (Fit.i32 (by omega))) rfl ?_
    refine WS.v (RV.move rfl) rfl ?_
    refine WS.v (RV.len (by first | exact (h).drew) Tryz.underlying31 rfl) rfl ?_
    refine WS.v (RV.shrN (a := 127) (b := l.length) rfl rfl rfl rfl (by simp [IntKind.bits]; omega)) rfl ?_
    refine WS.v (RV.andN (a := by8 l 0) (b := 127 / 2 ^ l.length) rfl rfl rfl rfl (by rw [maxI32]; unfold by8; omega) (by have : 127 / 2 ^ l.length ≤ 127 := Nat.div_le_self _ _; rw [maxI32]; omega)) rfl ?_
    refine WS.v (RV.assign rfl) rfl ?_
    refine WS.nil ?_
    refine QF.seqNext ?_
    refine WC.seq ?_
    refine WC.seq ?_
    refine WC.region ?_
    refine WL.v (RV.move rfl) rfl ?_
    refine WL.v (RV.sliceLo hd Tryz.underlying31 (Tryz.sizeOf5 _) rfl rfl 1 rfl (by omega)) rfl ?_
    have hs : Bytes w.drew (sliceV bv 1 1 l.length) ((l.take l.length).drop 1) := hd.slice (by omega) (Nat.le_refl _)
    rw [List.take_length] at hs
    have hsl : (l.drop 1).length = l.length - 1 := by simp
    refine WL.v (RV.len (by first | exact hs) Tryz.underlying31 rfl) rfl ?_
    refine WL.v (RV.move rfl) rfl ?_
    refine WL.nil ?_
    refine QF.seqNext ?_
    refine WC.block ?_
    have hmask : by8 l 0 &&& (127 / 2 ^ l.length) = valTo l l.length 0 := mask_lead (by8 l 0) l.length (by omega) h4
    refine WC.loop (fun x : Nat × Nat => [(3, .int .i32 x.2), (22, sliceV bv 1 1 l.length), (23, .int .i64 (l.drop 1).length), (24, .int .i64 x.1)]) (fun x : Nat × Nat => w.drew) (fun x : Nat × Nat => x.1 ≤ (l.drop 1).length ∧ x.2 = valTo l l.length x.1) (fun x : Nat × Nat => (l.drop 1).length - x.1) (0, by8 l 0 &&& (127 / 2 ^ l.length)) (⟨Nat.zero_le _, hmask⟩) ⟨rfl, rfl, rfl, rfl, trivial⟩ rfl ?_
    clear hmask
    rintro ⟨j, r⟩ ⟨hj, hr⟩
    dsimp only at hj hr ⊢
    have hb := valTo_lt l l.length (by omega) j
    rw [← hr] at hb
    have hc : (nth (l.drop 1) j).toNat < 256 := (nth (l.drop 1) j).toNat_lt
    have hcj : (nth (l.drop 1) j).toNat = by8 l (j + 1) := by have := by8_drop l 1 j; rw [Nat.add_comm 1 j] at this; exact this
    have hp : 64 ^ j ≤ 64 ^ 3 := Nat.pow_le_pow_right (by decide) (by omega)
    refine WC.seq ?_
    refine WC.region ?_
    refine WL.v (RV.lss rfl rfl) rfl ?_
    refine WL.nil ?_
    refine QF.seqNext ?_
    refine WC.seq ?_
    refine WC.cond rfl ?_ ?_
    · intro hlt
      replace hlt : j < (l.drop 1).length := by have := of_decide_eq_true hlt; omega
      have hp : 64 ^ j ≤ 64 ^ 2 := Nat.pow_le_pow_right (by decide) (by omega)
      refine WC.skip ?_
      refine QF.seqNext ?_
      refine WC.seq ?_
      refine WC.block ?_
      refine WC.seq ?_
      refine WC.region ?_
      refine WL.v (RV.indexAddr (by first | exact hs) Tryz.underlying31 (Tryz.sizeOf5 _) rfl rfl _ rfl (by omega)) rfl ?_
      refine WL.v (RV.load (by first | exact hs.ld hlt) (Tryz.isAgg5 _) rfl) rfl ?_
      refine WL.v (RV.assign rfl) rfl ?_
      refine WL.nil ?_
      refine QF.seqNext ?_
      refine WC.region ?_
      refine WL.v (RV.move rfl) rfl ?_
      refine WL.v (RV.shlN (a := r) (b := 6) rfl rfl rfl rfl (by decide) (by rw [maxI32]; omega)) rfl ?_
      refine WL.v (RV.move rfl) rfl ?_
      refine WL.v (RV.andN (a := (nth (l.drop 1) j).toNat) (b := 63) rfl rfl rfl rfl (by rw [maxU8]; omega) (by rw [maxU8]; omega)) rfl ?_
      have hle : (nth (l.drop 1) j).toNat &&& 63 ≤ 63 := Nat.and_le_right
      refine WL.v (RV.conv Tryz.underlying5 Tryz.underlying21 rfl (Fit.i32 (by omega))) rfl ?_
      refine WL.v (RV.orN (a := r * 2 ^ 6) (b := (nth (l.drop 1) j).toNat &&& 63) rfl rfl rfl rfl (by rw [maxI32]; omega) (by rw [maxI32]; omega)) rfl ?_
      refine WL.v (RV.assign rfl) rfl ?_
      refine WL.nil ?_
      refine QF.blockNormal ?_
      refine QF.seqNext ?_
      refine WC.region ?_
      refine WL.v (RV.add rfl rfl (Fit.i64 (by omega))) rfl ?_
      refine WL.v (RV.move rfl) rfl ?_
      refine WL.nil ?_
      refine QF.next ((j + 1, r * 2 ^ 6 ||| ((nth (l.drop 1) j).toNat &&& 63))) (⟨hlt, by dsimp only; rw [join6, hcj, hr]; rfl⟩) (by dsimp only; omega) ⟨rfl, rfl, rfl, rfl, trivial⟩ rfl
    · intro hge
      obtain rfl : j = (l.drop 1).length := by have := of_decide_eq_false hge; omega
      refine WC.exit ?_
      refine QF.thenExit ?_
      refine QF.thenExit ?_
      refine QF.blockHit ?_
      refine QF.seqNext ?_
      refine WC.seq ?_
      refine WC.region ?_
      refine WL.v (RV.move rfl) rfl ?_
      refine WL.v (RV.assign rfl) rfl ?_
      refine WL.nil ?_
      refine QF.seqNext ?_
      refine WC.ret ?_
      refine QF.done1 rfl rfl (⟨by rw [valM, if_neg hn, hr, hsl], (Ext.refl w).drew⟩)

/-- Is a byte from one to another? -/
def isB (l : List UInt8) (lo hi k : Nat) : Bool := decide (k < l.length) && decide (lo ≤ by8 l k) && decide (by8 l k ≤ hi)
/-- How many bytes of a sequence of so many stand at the beginning. -/
def thereM (l : List UInt8) (n lo hi : Nat) : Nat :=
  if n < 2 ∨ isB l lo hi 1 = false then 1 else if n < 3 ∨ isB l 128 191 2 = false then 2 else if n < 4 ∨ isB l 128 191 3 = false then 3 else 4
/-- What stands at the beginning, how many bytes it has, and whether it is whole. -/
def decM (l : List UInt8) : Int × Nat × Bool :=
  if l = [] then (0, 0, false) else
  if needN (by8 l 0) = 0 then (65533, 1, false) else
  if thereM l (needN (by8 l 0)) (needLo (by8 l 0)) (needHi (by8 l 0)) < needN (by8 l 0) then (65533, thereM l (needN (by8 l 0)) (needLo (by8 l 0)) (needHi (by8 l 0)), false)
  else ((valM l (needN (by8 l 0)) : Nat), needN (by8 l 0), true)

theorem okB_isB {l : List UInt8} {lo hi k : Nat} : okB l lo hi k ↔ isB l (if k = 1 then lo else 128) (if k = 1 then hi else 191) k = true := by
  simp [okB, isB, and_assoc]
theorem there_unique {l : List UInt8} {n lo hi k : Nat} (hn : n ≤ 4) (h1 : 1 ≤ k) (hj : ∀ j, 1 ≤ j → j < k → j < n ∧ okB l lo hi j) (hk : ¬ (k < n ∧ okB l lo hi k)) : k = thereM l n lo hi := by
  have a1 : k ≤ 1 ∨ (1 < n ∧ isB l lo hi 1 = true) := by
    by_cases h : k ≤ 1
    · exact .inl h
    · have := hj 1 (by omega) (by omega); rw [okB_isB] at this; exact .inr (by simpa using this)
  have a2 : k ≤ 2 ∨ (2 < n ∧ isB l 128 191 2 = true) := by
    by_cases h : k ≤ 2
    · exact .inl h
    · have := hj 2 (by omega) (by omega); rw [okB_isB] at this; exact .inr (by simpa using this)
  have a3 : k ≤ 3 ∨ (3 < n ∧ isB l 128 191 3 = true) := by
    by_cases h : k ≤ 3
    · exact .inl h
    · have := hj 3 (by omega) (by omega); rw [okB_isB] at this; exact .inr (by simpa using this)
  have a4 : k ≤ 4 := by
    by_cases h : k ≤ 4
    · exact h
    · have := (hj 4 (by omega) (by omega)).1; omega
  rw [okB_isB] at hk
  unfold thereM
  have : k = 1 ∨ k = 2 ∨ k = 3 ∨ k = 4 := by omega
  rcases this with rfl | rfl | rfl | rfl
  · rw [if_pos]
    simp only [if_true] at hk
    cases hb : isB l lo hi 1 with
    | false => exact .inr rfl
    | true => rw [hb] at hk; simp at hk; exact .inl (by omega)
  · have b1 := a1.resolve_left (by omega)
    rw [if_neg (by rw [b1.2]; simp; omega), if_pos]
    cases hb : isB l 128 191 2 with
    | false => exact .inr rfl
    | true => left; have : ¬ (2 < n ∧ isB l 128 191 2 = true) := by simpa using hk
              rw [hb] at this; simp at this; omega
  · have b1 := a1.resolve_left (by omega)
    have b2 := a2.resolve_left (by omega)
    rw [if_neg (by rw [b1.2]; simp; omega), if_neg (by rw [b2.2]; simp; omega), if_pos]
    cases hb : isB l 128 191 3 with
    | false => exact .inr rfl
    | true => left; have : ¬ (3 < n ∧ isB l 128 191 3 = true) := by simpa using hk
              rw [hb] at this; simp at this; omega
  · have b1 := a1.resolve_left (by omega)
    have b2 := a2.resolve_left (by omega)
    have b3 := a3.resolve_left (by omega)
    rw [if_neg (by rw [b1.2]; simp; omega), if_neg (by rw [b2.2]; simp; omega), if_neg (by rw [b3.2]; simp; omega)]
theorem thereM_len {l : List UInt8} {n lo hi : Nat} (hl : 1 ≤ l.length) : thereM l n lo hi ≤ l.length := by
  unfold thereM
  split
  · omega
  · rename_i h1
    have : isB l lo hi 1 = true := by cases h : isB l lo hi 1 <;> simp [h] at h1 ⊢
    simp only [isB, Bool.and_eq_true, decide_eq_true_eq] at this
    split
    · omega
    · rename_i h2
      have : isB l 128 191 2 = true := by cases h : isB l 128 191 2 <;> simp [h] at h2 ⊢
      simp only [isB, Bool.and_eq_true, decide_eq_true_eq] at this
      split
      · omega
      · rename_i h3
        have : isB l 128 191 3 = true := by cases h : isB l 128 191 3 <;> simp [h] at h3 ⊢
        simp only [isB, Bool.and_eq_true, decide_eq_true_eq] at this
        omega
theorem needN_le (c : Nat) : needN c ≤ 4 := by unfold needN; (repeat' split) <;> omega
theorem needLo_lt (c : Nat) : needLo c < 256 := by unfold needLo; (repeat' split) <;> omega
theorem needHi_lt (c : Nat) : needHi c < 256 := by unfold needHi; (repeat' split) <;> omega
theorem valM_take (l : List UInt8) (n : Nat) (h : 1 ≤ n) : valM (l.take n) n = valM l n := by
  unfold valM
  split
  · rw [by8_take _ _ _ (by omega)]
  · rw [valTo_take _ _ _ _ (by omega)]

theorem read_ret (l : List UInt8) (bv : Value) (at' : Nat) (w : World) (h : Bytes w bv l) (ha : at' < l.length) :
    Ret Tryz.prog 48 [bv, .int .i64 at'] w fun v w' => v = .tuple #[.int .i32 (decM (l.drop at')).1, .int .i64 (decM (l.drop at')).2.1, .bool (decM (l.drop at')).2.2] ∧ Ext w w' := by
  have hm := h.len_le
  generalize hL : l.drop at' = L
  have hLl : L.length = l.length - at' := by rw [← hL]; simp
  have hne : L ≠ [] := fun e => by rw [e] at hLl; simp at hLl; omega
  refine Ret.enter Tryz.func48 Tryz.ntmps48 rfl rfl ?_
  refine WC.seq ?_
  refine WC.region ?_
  refine WL.v (RV.assign rfl) rfl ?_
  refine WL.v (RV.assign rfl) rfl ?_
  refine WL.v (RV.assign rfl) rfl ?_
  refine WL.nil ?_
  refine QF.seqNext ?_
  refine WC.seq ?_
  refine WC.seq ?_
  refine WC.region ?_
  refine WL.v (RV.move rfl) rfl ?_
  refine WL.v (RV.lss rfl rfl) rfl ?_
  refine WL.v (RV.move rfl) rfl ?_
  refine WL.know (d := 13) rfl (b' := false) (decide_eq_false (by omega)) ?_
  refine WL.on rfl ?_
  refine WL.v (RV.move rfl) rfl ?_
  refine WL.on rfl ?_
  refine WL.v (RV.move rfl) rfl ?_
  refine WL.on rfl ?_
  refine WL.v (RV.len (by first | exact h) Tryz.underlying31 rfl) rfl ?_
  refine WL.on rfl ?_
  refine WL.v (RV.geq rfl rfl) rfl ?_
  refine WL.v (RV.pickF rfl rfl) rfl ?_
  refine WL.nil ?_
  refine QF.seqNext ?_
  refine WC.condF rfl (decide_eq_false (by omega)) ?_
  refine WC.skip ?_
  refine QF.seqNext ?_
  refine WC.seq ?_
  refine WC.region ?_
  refine WL.v (RV.move rfl) rfl ?_
  refine WL.v (RV.move rfl) rfl ?_
  refine WL.v (RV.sliceLo h Tryz.underlying31 (Tryz.sizeOf5 _) rfl rfl at' rfl (by omega)) rfl ?_
  have hs : Bytes w (sliceV bv 1 at' l.length) ((l.take l.length).drop at') := h.slice (by omega) (Nat.le_refl _)
  rw [List.take_length, hL] at hs
  generalize sliceV bv 1 at' l.length = sv at *
  refine WL.v (RV.assign rfl) rfl ?_
  refine WL.nil ?_
  refine QF.seqNext ?_
  refine WC.seq ?_
  refine WC.region ?_
  refine WL.v (RV.move rfl) rfl ?_
  refine WL.v (RV.indexAddr hs Tryz.underlying31 (Tryz.sizeOf5 _) rfl rfl 0 rfl (by omega)) rfl ?_
  refine WL.v (RV.load (by first | exact hs.ld (i := 0) (by omega)) (Tryz.isAgg5 _) rfl) rfl ?_
  refine WL.call Tryz.call70 rfl (need_ret (by8 L 0) w) rfl ?_
  rintro v _ ⟨rfl, rfl⟩
  have hn4 := needN_le (by8 L 0)
  have hd : decM L = if needN (by8 L 0) = 0 then ((65533 : Int), 1, false) else if thereM L (needN (by8 L 0)) (needLo (by8 L 0)) (needHi (by8 L 0)) < needN (by8 L 0) then ((65533 : Int), thereM L (needN (by8 L 0)) (needLo (by8 L 0)) (needHi (by8 L 0)), false) else (((valM L (needN (by8 L 0)) : Nat) : Int), needN (by8 L 0), true) := by unfold decM; rw [if_neg hne]
  generalize needN (by8 L 0) = n at *
  refine WL.v (RV.move rfl) rfl ?_
  refine WL.v (RV.extract rfl rfl) rfl ?_
  refine WL.v (RV.extract rfl rfl) rfl ?_
  refine WL.v (RV.extract rfl rfl) rfl ?_
  refine WL.v (RV.assign rfl) rfl ?_
  refine WL.v (RV.assign rfl) rfl ?_
  refine WL.v (RV.assign rfl) rfl ?_
  refine WL.nil ?_
  refine QF.seqNext ?_
  refine WC.seq ?_
  refine WC.seq ?_
  refine WC.region ?_
  refine WL.v (RV.move rfl) rfl ?_
  refine WL.v (RV.eql rfl rfl) rfl ?_
  refine WL.nil ?_
  refine QF.seqNext ?_
  refine WC.cond rfl ?_ ?_
  · intro h0
    replace h0 : n = 0 := by have : (n : Int) = 0 := by simpa using h0
                             omega
    refine WC.seq ?_
    refine WC.region ?_
    refine WL.v (RV.assign rfl) rfl ?_
    refine WL.v (RV.assign rfl) rfl ?_
    refine WL.v (RV.assign rfl) rfl ?_
    refine WL.nil ?_
    refine QF.seqNext ?_
    refine WC.ret ?_
    refine QF.thenRet ?_
    refine QF.done3 rfl rfl rfl rfl (⟨by rw [hd, if_pos h0]; rfl, Ext.refl w⟩)
  · intro h0
    replace h0 : n ≠ 0 := by have : ¬ (n : Int) = 0 := by simpa using h0
                             omega
    rw [if_neg h0] at hd
    refine WC.skip ?_
    refine QF.seqNext ?_
    refine WC.seq ?_
    refine WC.seq ?_
    refine WC.region ?_
    refine WL.v (RV.move rfl) rfl ?_
    refine WL.v (RV.move rfl) rfl ?_
    refine WL.v (RV.move rfl) rfl ?_
    refine WL.v (RV.move rfl) rfl ?_
    refine WL.call Tryz.call71 rfl (there_ret L sv n (needLo (by8 L 0)) (needHi (by8 L 0)) w hs (needLo_lt _) (needHi_lt _)) rfl ?_
    rintro v _ ⟨k, rfl, k1, kj, kn, rfl⟩
    have hk := there_unique hn4 k1 kj kn
    have hkl := thereM_len (l := L) (n := n) (lo := needLo (by8 L 0)) (hi := needHi (by8 L 0)) (by omega)
    rw [← hk] at hkl hd
    refine WL.v (RV.assign rfl) rfl ?_
    refine WL.nil ?_
    refine QF.seqNext ?_
    refine WC.seq ?_
    refine WC.region ?_
    refine WL.v (RV.move rfl) rfl ?_
    refine WL.v (RV.move rfl) rfl ?_
    refine WL.v (RV.lss rfl rfl) rfl ?_
    refine WL.nil ?_
    refine QF.seqNext ?_
    refine WC.cond rfl ?_ ?_
    · intro hlt
      replace hlt : k < n := by have := of_decide_eq_true hlt; omega
      refine WC.seq ?_
      refine WC.region ?_
      refine WL.v (RV.move rfl) rfl ?_
      refine WL.v (RV.assign rfl) rfl ?_
      refine WL.v (RV.assign rfl) rfl ?_
      refine WL.v (RV.assign rfl) rfl ?_
      refine WL.nil ?_
      refine QF.seqNext ?_
      refine WC.ret ?_
      refine QF.thenRet ?_
      refine QF.done3 rfl rfl rfl rfl (⟨by rw [hd, if_pos hlt], Ext.refl w⟩)
    · intro hge
      replace hge : ¬ k < n := by have := of_decide_eq_false hge; omega
      have hkn : n ≤ L.length := by
        rcases Nat.lt_or_ge 1 k with h | h
        · have := (kj (k - 1) (by omega) (by omega)).1; omega
        · omega
      rw [if_neg hge] at hd
      refine WC.skip ?_
      refine QF.seqNext ?_
      refine WC.seq ?_
      refine WC.region ?_
      refine WL.v (RV.move rfl) rfl ?_
      refine WL.v (RV.move rfl) rfl ?_
      refine WL.v (RV.sliceHi hs Tryz.underlying31 (Tryz.sizeOf5 _) rfl rfl n rfl hkn) rfl ?_
      have ht : Bytes w (sliceV sv 1 0 n) ((L.take n).drop 0) := hs.slice (by omega) hkn
      rw [List.drop_zero] at ht
      have hnl : (L.take n).length = n := by simp; omega
      refine WL.call Tryz.call72 rfl (value_ret (L.take n) _ w ht (by omega) (by omega)) rfl ?_
      rintro v w1 ⟨rfl, hE⟩
      refine WL.v (RV.move rfl) rfl ?_
      refine WL.v (RV.assign rfl) rfl ?_
      refine WL.v (RV.assign rfl) rfl ?_
      refine WL.v (RV.assign rfl) rfl ?_
      refine WL.nil ?_
      refine QF.seqNext ?_
      refine WC.ret ?_
      refine QF.done3 rfl rfl rfl rfl (⟨by rw [hd, hnl, valM_take _ _ (by omega)]; rfl, hE⟩)
end Go.Proofs.YtakigpnccppheaaGreatDoor
