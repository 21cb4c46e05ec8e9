/- Chapter 1: what the document reads is what the package reads. -/
import Derived.Test.YtakigpnccppheaaGreatDoorScalC
namespace Go.Proofs.YtakigpnccppheaaGreatDoor
open Go.VL Go.Proofs
set_option maxRecDepth 4000

theorem vN_take (l : List UInt8) (base m : Nat) : ∀ i, i ≤ m → vN (l.take m) base i = vN l base i
  | 0, _ => rfl
  | 1, h => by simp only [vN]; rw [by8_take _ _ _ (by omega)]
  | i + 2, h => by simp only [vN]; rw [by8_take _ _ _ (by omega), vN_take l base m (i + 1) (by omega)]
theorem contTo_take (l : List UInt8) (m : Nat) : contTo (l.take m) m ↔ contTo l m := by
  unfold contTo
  constructor <;> intro h j a b <;> have := h j a b <;> rw [by8_take _ _ _ b] at * <;> exact this

/-- How a sequence of n bytes begins, told by numbers. -/
theorem beg_at (L : List UInt8) (k : Nat) (h1 : 1 ≤ k) (hk : k ≤ L.length) (hkn : k = 1 ∨ k ≤ needN (by8 L 0)) (hA : ∀ j, 1 ≤ j → j + 1 < k → okB L (needLo (by8 L 0)) (needHi (by8 L 0)) j) (r : Nat × Nat) (hB : Beg (L.take k) r) :
    ((k = 1 ∨ okB L (needLo (by8 L 0)) (needHi (by8 L 0)) (k - 1)) → needN (by8 L 0) ≠ 0 → r.2 = needN (by8 L 0) ∧ (k = needN (by8 L 0) → r.1 = valM L (needN (by8 L 0)))) ∧
    ((¬ (k = 1 ∨ okB L (needLo (by8 L 0)) (needHi (by8 L 0)) (k - 1)) ∨ needN (by8 L 0) = 0) → r.2 = 0) := by
  have hlen : (L.take k).length = k := by simp; omega
  unfold Beg at hB
  simp only [hlen, by8_take L k 0 (by omega), contTo_take] at hB
  obtain ⟨b1, b2, b3⟩ := hB
  have hc := by8_lt L 0
  have hbN : ∀ n base least most, begN (L.take k) n base least most = if vN L base k * 64 ^ (n - k) + 64 ^ (n - k) - 1 < least ∨ most < vN L base k * 64 ^ (n - k) ∨ (55296 ≤ vN L base k * 64 ^ (n - k) ∧ vN L base k * 64 ^ (n - k) + 64 ^ (n - k) - 1 ≤ 57343) then (0, 0) else (vN L base k * 64 ^ (n - k), n) := fun n base least most => by
    unfold begN; rw [hlen, vN_take L base k k (Nat.le_refl _)]
  by_cases c1 : by8 L 0 < 128
  · have hn : needN (by8 L 0) = 1 := by unfold needN; rw [if_pos c1]
    rw [hn] at hkn ⊢
    obtain rfl : k = 1 := by omega
    rw [b1 c1]
    exact ⟨fun _ _ => ⟨rfl, fun _ => rfl⟩, fun h => by simp at h⟩
  by_cases c2 : by8 L 0 < 192 ∨ 248 ≤ by8 L 0
  · have hn : needN (by8 L 0) = 0 := by unfold needN; (repeat' split) <;> omega
    rw [b2 (by omega)]
    exact ⟨fun _ h => absurd hn h, fun _ => rfl⟩
  by_cases c3 : by8 L 0 < 224
  · obtain ⟨_, d2, d3⟩ := b3 2 192 128 2047 (.inl ⟨rfl, rfl, rfl, rfl, by omega, c3⟩)
    by_cases c4 : by8 L 0 < 194
    · have hn : needN (by8 L 0) = 0 := by unfold needN; (repeat' split) <;> omega
      obtain rfl : k = 1 := by omega
      refine ⟨fun _ h => absurd hn h, fun _ => ?_⟩
      rw [d3 (by omega) (fun j a b => by omega), hbN, if_pos (by simp only [vN, Nat.zero_add, Nat.reduceAdd]; omega)]
    · have hn : needN (by8 L 0) = 2 := by unfold needN; (repeat' split) <;> omega
      have hlo : needLo (by8 L 0) = 128 := by unfold needLo; (repeat' split) <;> omega
      have hhi : needHi (by8 L 0) = 191 := by unfold needHi; (repeat' split) <;> omega
      rw [hn] at hkn ⊢
      rw [hlo, hhi] at hA ⊢
      have : k = 1 ∨ k = 2 := by omega
      rcases this with rfl | rfl
      · rw [d3 (by omega) (fun j a b => by omega), hbN, if_neg (by simp only [vN, Nat.zero_add, Nat.reduceAdd]; omega)]
        exact ⟨fun _ _ => ⟨rfl, fun h => by omega⟩, fun h => by simp at h⟩
      · refine ⟨fun h _ => ?_, fun h => ?_⟩
        · have h2 := h.resolve_left (by omega)
          simp only [okB, if_true, Nat.add_one_sub_one] at h2
          rw [d3 (by omega) (fun j a b => by obtain rfl : j = 1 := by omega
                                             omega), hbN, if_neg (by simp only [vN, Nat.zero_add, Nat.reduceAdd]; omega)]
          exact ⟨rfl, fun _ => by simp only [vN, valM, valTo, Nat.zero_add, Nat.reduceAdd]; simp [valTo]; omega⟩
        · have h2 := h.resolve_right (by omega)
          simp only [okB, if_true, Nat.add_one_sub_one, not_or] at h2
          rw [d2 (by omega) (fun hc => by have := hc 1 (by omega) (by omega); exact h2.2 ⟨by omega, by omega, by omega⟩)]
  by_cases c5 : by8 L 0 < 240
  · obtain ⟨_, d2, d3⟩ := b3 3 224 2048 65535 (.inr (.inl ⟨rfl, rfl, rfl, rfl, by omega, c5⟩))
    have hn : needN (by8 L 0) = 3 := by unfold needN; (repeat' split) <;> omega
    have hlo : needLo (by8 L 0) = if by8 L 0 = 224 then 160 else 128 := by unfold needLo; (repeat' split) <;> omega
    have hhi : needHi (by8 L 0) = if by8 L 0 = 237 then 159 else 191 := by unfold needHi; (repeat' split) <;> omega
    have ok1 : okB L (needLo (by8 L 0)) (needHi (by8 L 0)) 1 ↔ 1 < L.length ∧ (128 ≤ by8 L 1 ∧ by8 L 1 < 192) ∧ (by8 L 0 = 224 → 160 ≤ by8 L 1) ∧ (by8 L 0 = 237 → by8 L 1 < 160) := by
      simp only [okB, if_true]; rw [hlo, hhi]; (repeat' split) <;> omega
    have ok2 : okB L (needLo (by8 L 0)) (needHi (by8 L 0)) 2 ↔ 2 < L.length ∧ (128 ≤ by8 L 2 ∧ by8 L 2 < 192) := by simp only [okB]; simp; omega
    rw [hn] at hkn ⊢
    have : k = 1 ∨ k = 2 ∨ k = 3 := by omega
    rcases this with rfl | rfl | rfl
    · rw [d3 (by omega) (fun j a b => by omega), hbN, if_neg (by simp only [vN, Nat.zero_add, Nat.reduceAdd]; omega)]
      exact ⟨fun _ _ => ⟨rfl, fun h => by omega⟩, fun h => by simp at h⟩
    · refine ⟨fun h _ => ?_, fun h => ?_⟩
      · have h2 := h.resolve_left (by omega)
        rw [show 2 - 1 = 1 from rfl, ok1] at h2
        rw [d3 (by omega) (fun j a b => by obtain rfl : j = 1 := by omega
                                           omega), hbN, if_neg (by simp only [vN, Nat.zero_add, Nat.reduceAdd]; omega)]
        exact ⟨rfl, fun _ => by omega⟩
      · have h2 := h.resolve_right (by omega)
        simp only [not_or] at h2
        rw [show 2 - 1 = 1 from rfl, ok1] at h2
        by_cases hc : contTo L 2
        · have h3 := hc 1 (by omega) (by omega)
          rw [d3 (by omega) hc, hbN, if_pos (by simp only [vN, Nat.zero_add, Nat.reduceAdd]; omega)]
        · rw [d2 (by omega) hc]
    · have hk1 := hA 1 (by omega) (by omega)
      rw [ok1] at hk1
      refine ⟨fun h _ => ?_, fun h => ?_⟩
      · have h2 := h.resolve_left (by omega)
        rw [show 3 - 1 = 2 from rfl, ok2] at h2
        rw [d3 (by omega) (fun j a b => by have : j = 1 ∨ j = 2 := by omega
                                           rcases this with rfl | rfl <;> omega), hbN, if_neg (by simp only [vN, Nat.zero_add, Nat.reduceAdd]; omega)]
        exact ⟨rfl, fun _ => by simp only [vN, valM, valTo, Nat.zero_add, Nat.reduceAdd]; simp [valTo]; omega⟩
      · have h2 := h.resolve_right (by omega)
        simp only [not_or] at h2
        rw [show 3 - 1 = 2 from rfl, ok2] at h2
        rw [d2 (by omega) (fun hc => by have := hc 2 (by omega) (by omega); exact h2.2 ⟨by omega, by omega, by omega⟩)]
  · obtain ⟨_, d2, d3⟩ := b3 4 240 65536 1114111 (.inr (.inr ⟨rfl, rfl, rfl, rfl, by omega, by omega⟩))
    by_cases c6 : 245 ≤ by8 L 0
    · have hn : needN (by8 L 0) = 0 := by unfold needN; (repeat' split) <;> omega
      obtain rfl : k = 1 := by omega
      refine ⟨fun _ h => absurd hn h, fun _ => ?_⟩
      rw [d3 (by omega) (fun j a b => by omega), hbN, if_pos (by simp only [vN, Nat.zero_add, Nat.reduceAdd]; omega)]
    have hn : needN (by8 L 0) = 4 := by unfold needN; (repeat' split) <;> omega
    have hlo : needLo (by8 L 0) = if by8 L 0 = 240 then 144 else 128 := by unfold needLo; (repeat' split) <;> omega
    have hhi : needHi (by8 L 0) = if by8 L 0 = 244 then 143 else 191 := by unfold needHi; (repeat' split) <;> omega
    have ok1 : okB L (needLo (by8 L 0)) (needHi (by8 L 0)) 1 ↔ 1 < L.length ∧ (128 ≤ by8 L 1 ∧ by8 L 1 < 192) ∧ (by8 L 0 = 240 → 144 ≤ by8 L 1) ∧ (by8 L 0 = 244 → by8 L 1 < 144) := by
      simp only [okB, if_true]; rw [hlo, hhi]; (repeat' split) <;> omega
    have ok2 : okB L (needLo (by8 L 0)) (needHi (by8 L 0)) 2 ↔ 2 < L.length ∧ (128 ≤ by8 L 2 ∧ by8 L 2 < 192) := by simp only [okB]; simp; omega
    have ok3 : okB L (needLo (by8 L 0)) (needHi (by8 L 0)) 3 ↔ 3 < L.length ∧ (128 ≤ by8 L 3 ∧ by8 L 3 < 192) := by simp only [okB]; simp; omega
    rw [hn] at hkn ⊢
    have : k = 1 ∨ k = 2 ∨ k = 3 ∨ k = 4 := by omega
    rcases this with rfl | rfl | rfl | rfl
    · rw [d3 (by omega) (fun j a b => by omega), hbN, if_neg (by simp only [vN, Nat.zero_add, Nat.reduceAdd]; omega)]
      exact ⟨fun _ _ => ⟨rfl, fun h => by omega⟩, fun h => by simp at h⟩
    · refine ⟨fun h _ => ?_, fun h => ?_⟩
      · have h2 := h.resolve_left (by omega)
        rw [show 2 - 1 = 1 from rfl, ok1] at h2
        rw [d3 (by omega) (fun j a b => by obtain rfl : j = 1 := by omega
                                           omega), hbN, if_neg (by simp only [vN, Nat.zero_add, Nat.reduceAdd]; omega)]
        exact ⟨rfl, fun _ => by omega⟩
      · have h2 := h.resolve_right (by omega)
        simp only [not_or] at h2
        rw [show 2 - 1 = 1 from rfl, ok1] at h2
        by_cases hc : contTo L 2
        · have h3 := hc 1 (by omega) (by omega)
          rw [d3 (by omega) hc, hbN, if_pos (by simp only [vN, Nat.zero_add, Nat.reduceAdd]; omega)]
        · rw [d2 (by omega) hc]
    · have hk1 := hA 1 (by omega) (by omega)
      rw [ok1] at hk1
      refine ⟨fun h _ => ?_, fun h => ?_⟩
      · have h2 := h.resolve_left (by omega)
        rw [show 3 - 1 = 2 from rfl, ok2] at h2
        rw [d3 (by omega) (fun j a b => by have : j = 1 ∨ j = 2 := by omega
                                           rcases this with rfl | rfl <;> omega), hbN, if_neg (by simp only [vN, Nat.zero_add, Nat.reduceAdd]; omega)]
        exact ⟨rfl, fun _ => by omega⟩
      · have h2 := h.resolve_right (by omega)
        simp only [not_or] at h2
        rw [show 3 - 1 = 2 from rfl, ok2] at h2
        rw [d2 (by omega) (fun hc => by have := hc 2 (by omega) (by omega); exact h2.2 ⟨by omega, by omega, by omega⟩)]
    · have hk1 := hA 1 (by omega) (by omega)
      have hk2 := hA 2 (by omega) (by omega)
      rw [ok1] at hk1
      rw [ok2] at hk2
      refine ⟨fun h _ => ?_, fun h => ?_⟩
      · have h2 := h.resolve_left (by omega)
        rw [show 4 - 1 = 3 from rfl, ok3] at h2
        rw [d3 (by omega) (fun j a b => by have : j = 1 ∨ j = 2 ∨ j = 3 := by omega
                                           rcases this with rfl | rfl | rfl <;> omega), hbN, if_neg (by simp only [vN, Nat.zero_add, Nat.reduceAdd]; omega)]
        exact ⟨rfl, fun _ => by simp only [vN, valM, valTo, Nat.zero_add, Nat.reduceAdd]; simp [valTo]; omega⟩
      · have h2 := h.resolve_right (by omega)
        simp only [not_or] at h2
        rw [show 4 - 1 = 3 from rfl, ok3] at h2
        rw [d2 (by omega) (fun hc => by have := hc 3 (by omega) (by omega); exact h2.2 ⟨by omega, by omega, by omega⟩)]
end Go.Proofs.YtakigpnccppheaaGreatDoor
