/- Chapter 1: a scalar that was read whole is put as it stood: plain words. -/
import Derived.Test.YtakigpnccppheaaGreatDoorEscC0
namespace Go.Proofs.YtakigpnccppheaaGreatDoor
open Go.VL Go.Proofs
set_option maxRecDepth 4000

theorem take_bytes (L : List UInt8) (n : Nat) (h : n ≤ L.length) : L.take n = (List.range n).map fun i => UInt8.ofNat (by8 L i) := by
  refine List.ext_getElem (by simp; omega) fun i h1 h2 => ?_
  simp at h1
  simp only [List.getElem_take, List.getElem_map, List.getElem_range, by8]
  rw [nth_eq (by omega)]; simp
/-- What a whole sequence is like. -/
theorem whole_ok {L : List UInt8} (hw : (decM L).2.2 = true) : L ≠ [] ∧ 1 ≤ needN (by8 L 0) ∧ (∀ j, 1 ≤ j → j < needN (by8 L 0) → okB L (needLo (by8 L 0)) (needHi (by8 L 0)) j) ∧ decM L = (((valM L (needN (by8 L 0)) : Nat) : Int), needN (by8 L 0), true) := by
  unfold decM at hw
  split at hw
  · cases hw
  · rename_i hne
    split at hw
    · cases hw
    · rename_i hn0
      split at hw
      · cases hw
      · rename_i hlt
        have hj : ∀ j, 1 ≤ j → j < needN (by8 L 0) → okB L (needLo (by8 L 0)) (needHi (by8 L 0)) j := by
          intro j a b
          have h4 := needN_le (by8 L 0)
          rw [okB_isB]
          unfold thereM at hlt
          have : j = 1 ∨ j = 2 ∨ j = 3 := by omega
          rcases this with rfl | rfl | rfl
          · simp only [if_true]
            cases hb : isB L (needLo (by8 L 0)) (needHi (by8 L 0)) 1 with
            | true => rfl
            | false => rw [if_pos (.inr hb)] at hlt; omega
          · simp only [show ¬ (2 : Nat) = 1 from by decide, if_false]
            cases hb : isB L 128 191 2 with
            | true => rfl
            | false =>
              split at hlt
              · omega
              · rw [if_pos (.inr hb)] at hlt; omega
          · simp only [show ¬ (3 : Nat) = 1 from by decide, if_false]
            cases hb : isB L 128 191 3 with
            | true => rfl
            | false =>
              split at hlt
              · omega
              · split at hlt
                · omega
                · rw [if_pos (.inr hb)] at hlt; omega
        exact ⟨hne, by omega, hj, decM_whole hne (by omega) hj⟩

theorem rightR_nat (v : Nat) (h : v ≤ 1114111) (h2 : v < 55296 ∨ 57343 < v) : rightR (v : Int) = true := by
  simp only [rightR, Bool.and_eq_true, Bool.or_eq_true, decide_eq_true_eq]; omega
theorem putM_nat (v : Nat) (h : v ≤ 1114111) (h2 : v < 55296 ∨ 57343 < v) : putM (v : Int) = putN v := by
  rw [putM, rightR_nat v h h2, if_pos rfl, Int.toNat_natCast]
theorem put_dec {L : List UInt8} (hw : (decM L).2.2 = true) : putM (decM L).1 = L.take (decM L).2.1 := by
  obtain ⟨hne, h1, hj, hd⟩ := whole_ok hw
  have hlen : 1 ≤ L.length := by cases L with | nil => exact absurd rfl hne | cons a l => simp
  have hc := by8_lt L 0
  have hcN : needN (by8 L 0) = 1 ∧ by8 L 0 < 128 ∨ needN (by8 L 0) = 2 ∧ 194 ≤ by8 L 0 ∧ by8 L 0 < 224 ∨ needN (by8 L 0) = 3 ∧ 224 ≤ by8 L 0 ∧ by8 L 0 < 240 ∨ needN (by8 L 0) = 4 ∧ 240 ≤ by8 L 0 ∧ by8 L 0 < 245 := by
    unfold needN at h1 ⊢; (repeat' split) <;> simp_all <;> omega
  rw [hd]
  dsimp only
  rcases hcN with ⟨hn, c1⟩ | ⟨hn, c1, c2⟩ | ⟨hn, c1, c2⟩ | ⟨hn, c1, c2⟩
  · rw [hn, take_bytes L 1 hlen]
    have hv : valM L 1 = by8 L 0 := rfl
    rw [hv, putM_nat _ (by omega) (by omega), putN, if_pos c1]
    rfl
  · rw [hn] at hj ⊢
    have k1 := hj 1 (by omega) (by omega)
    simp only [okB, if_true] at k1
    have hlo : 128 ≤ needLo (by8 L 0) := by unfold needLo; (repeat' split) <;> omega
    have hhi : needHi (by8 L 0) ≤ 191 := by unfold needHi; (repeat' split) <;> omega
    have hv : valM L 2 = by8 L 0 % 32 * 64 + by8 L 1 % 64 := rfl
    rw [take_bytes L 2 (by omega), hv, putM_nat _ (by omega) (by omega), putN, if_neg (by omega), if_pos (by omega), putB]
    simp only [tailB, List.range_succ, List.range_zero, List.nil_append, List.map_append, List.map_cons, List.map_nil, List.cons_append, leadOf]
    rw [show 255 - 255 / 2 ^ 2 + (by8 L 0 % 32 * 64 + by8 L 1 % 64) / 64 ^ (2 - 1) = by8 L 0 from by simp; omega, show 128 + (by8 L 0 % 32 * 64 + by8 L 1 % 64) / 64 ^ 0 % 64 = by8 L 1 from by simp; omega]
  · rw [hn] at hj ⊢
    have k1 := hj 1 (by omega) (by omega)
    have k2 := hj 2 (by omega) (by omega)
    simp only [okB, if_true] at k1
    simp only [okB] at k2
    rw [if_neg (by decide), if_neg (by decide)] at k2
    have hlo : 128 ≤ needLo (by8 L 0) ∧ (by8 L 0 = 224 → needLo (by8 L 0) = 160) := by unfold needLo; (repeat' split) <;> omega
    have hhi : needHi (by8 L 0) ≤ 191 ∧ (by8 L 0 = 237 → needHi (by8 L 0) = 159) := by unfold needHi; (repeat' split) <;> omega
    have hv : valM L 3 = (by8 L 0 % 16 * 64 + by8 L 1 % 64) * 64 + by8 L 2 % 64 := rfl
    rw [take_bytes L 3 (by omega), hv, putM_nat _ (by omega) (by omega), putN, if_neg (by omega), if_neg (by omega), if_pos (by omega), putB]
    simp only [tailB, List.range_succ, List.range_zero, List.nil_append, List.map_append, List.map_cons, List.map_nil, List.cons_append, leadOf]
    rw [show 255 - 255 / 2 ^ 3 + ((by8 L 0 % 16 * 64 + by8 L 1 % 64) * 64 + by8 L 2 % 64) / 64 ^ (3 - 1) = by8 L 0 from by simp; omega, show 128 + ((by8 L 0 % 16 * 64 + by8 L 1 % 64) * 64 + by8 L 2 % 64) / 64 ^ 1 % 64 = by8 L 1 from by simp; omega, show 128 + ((by8 L 0 % 16 * 64 + by8 L 1 % 64) * 64 + by8 L 2 % 64) / 64 ^ 0 % 64 = by8 L 2 from by simp; omega]
  · rw [hn] at hj ⊢
    have k1 := hj 1 (by omega) (by omega)
    have k2 := hj 2 (by omega) (by omega)
    have k3 := hj 3 (by omega) (by omega)
    simp only [okB, if_true] at k1
    simp only [okB] at k2 k3
    rw [if_neg (by decide), if_neg (by decide)] at k2
    rw [if_neg (by decide), if_neg (by decide)] at k3
    have hlo : 128 ≤ needLo (by8 L 0) ∧ (by8 L 0 = 240 → needLo (by8 L 0) = 144) := by unfold needLo; (repeat' split) <;> omega
    have hhi : needHi (by8 L 0) ≤ 191 ∧ (by8 L 0 = 244 → needHi (by8 L 0) = 143) := by unfold needHi; (repeat' split) <;> omega
    have hv : valM L 4 = ((by8 L 0 % 8 * 64 + by8 L 1 % 64) * 64 + by8 L 2 % 64) * 64 + by8 L 3 % 64 := rfl
    rw [take_bytes L 4 (by omega), hv, putM_nat _ (by omega) (by omega), putN, if_neg (by omega), if_neg (by omega), if_neg (by omega), putB]
    simp only [tailB, List.range_succ, List.range_zero, List.nil_append, List.map_append, List.map_cons, List.map_nil, List.cons_append, leadOf]
    rw [show 255 - 255 / 2 ^ 4 + (((by8 L 0 % 8 * 64 + by8 L 1 % 64) * 64 + by8 L 2 % 64) * 64 + by8 L 3 % 64) / 64 ^ (4 - 1) = by8 L 0 from by simp; omega, show 128 + (((by8 L 0 % 8 * 64 + by8 L 1 % 64) * 64 + by8 L 2 % 64) * 64 + by8 L 3 % 64) / 64 ^ 2 % 64 = by8 L 1 from by simp; omega, show 128 + (((by8 L 0 % 8 * 64 + by8 L 1 % 64) * 64 + by8 L 2 % 64) * 64 + by8 L 3 % 64) / 64 ^ 1 % 64 = by8 L 2 from by simp; omega, show 128 + (((by8 L 0 % 8 * 64 + by8 L 1 % 64) * 64 + by8 L 2 % 64) * 64 + by8 L 3 % 64) / 64 ^ 0 % 64 = by8 L 3 from by simp; omega]
end Go.Proofs.YtakigpnccppheaaGreatDoor
