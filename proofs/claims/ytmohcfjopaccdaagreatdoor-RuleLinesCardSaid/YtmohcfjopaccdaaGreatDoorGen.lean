/- Plain words on first places. -/
import Derived.Test.YtmohcfjopaccdaaGreatDoorVd
import Derived.Test.YtmohcfjopaccdaaGreatDoorVmap
namespace Go.VL

theorem all_nth {α : Type} [Inhabited α] {l : List α} {p : α → Bool} (h : ∀ j, j < l.length → p (nth l j) = true) : l.all p = true := by
  rw [List.all_eq_true]
  intro x hx
  obtain ⟨i, hi, rfl⟩ := List.getElem_of_mem hx
  rw [← nth_eq hi]; exact h i hi
theorem not_all_nth {α : Type} [Inhabited α] {l : List α} {p : α → Bool} {j : Nat} (hj : j < l.length) (h : p (nth l j) = false) : l.all p = false := by
  rw [List.all_eq_false]
  exact ⟨l[j], List.getElem_mem hj, by rw [← nth_eq hj, h]; simp⟩
theorem nth_mem {α : Type} [Inhabited α] {l : List α} {j : Nat} (hj : j < l.length) : nth l j ∈ l := by rw [nth_eq hj]; exact List.getElem_mem hj
theorem take_nth {α : Type} [Inhabited α] {l : List α} {j : Nat} (hj : j < l.length) : l.take (j + 1) = l.take j ++ [nth l j] := by
  rw [List.take_succ_eq_append_getElem hj, nth_eq hj]
theorem mem_nth {α : Type} [Inhabited α] {l : List α} {x : α} (hx : x ∈ l) : ∃ j, j < l.length ∧ nth l j = x := by
  obtain ⟨i, hi, rfl⟩ := List.getElem_of_mem hx; exact ⟨i, hi, nth_eq hi⟩

/-- Is there a number below one at which something holds? -/
def anyN (q : Nat → Bool) (n : Nat) : Bool := (List.range n).any q
theorem anyN_true {q : Nat → Bool} {n : Nat} : anyN q n = true ↔ ∃ i, i < n ∧ q i = true := by simp [anyN]
theorem anyN_false {q : Nat → Bool} {n : Nat} : anyN q n = false ↔ ∀ i, i < n → q i = false := by simp [anyN]
theorem anyN_congr {q r : Nat → Bool} {n : Nat} (h : ∀ i, i < n → q i = r i) : anyN q n = anyN r n := by
  cases hq : anyN r n with
  | true => obtain ⟨i, hi, hr⟩ := anyN_true.1 hq; exact anyN_true.2 ⟨i, hi, by rw [h i hi, hr]⟩
  | false => exact anyN_false.2 fun i hi => by rw [h i hi]; exact anyN_false.1 hq i hi
theorem anyN_list {α : Type} [Inhabited α] {l : List α} {p : α → Bool} : anyN (fun i => p (nth l i)) l.length = l.any p := by
  cases h : l.any p with
  | true =>
    obtain ⟨x, hx, hp⟩ := List.any_eq_true.1 h
    obtain ⟨i, hi, rfl⟩ := mem_nth hx
    exact anyN_true.2 ⟨i, hi, hp⟩
  | false => exact anyN_false.2 fun i hi => by have := List.any_eq_false.1 h _ (nth_mem hi); simpa using this
/-- The first number below one at which something holds, or -1. -/
def firstN (q : Nat → Bool) (n : Nat) : Int := match (List.range n).find? q with
  | some i => i
  | none => -1
theorem firstN_no {q : Nat → Bool} {n : Nat} (h : ∀ i, i < n → q i = false) : firstN q n = -1 := by
  have : (List.range n).find? q = none := by rw [List.find?_eq_none]; intro x hx; simp [h x (List.mem_range.1 hx)]
  rw [firstN, this]
theorem firstN_yes {q : Nat → Bool} {n k : Nat} (hk : k < n) (hy : q k = true) (hno : ∀ i, i < k → q i = false) : firstN q n = k := by
  have : (List.range n).find? q = some k := by
    rw [List.find?_range_eq_some]
    exact ⟨hy, List.mem_range.2 hk, fun j hj => by simp [hno j hj]⟩
  rw [firstN, this]
theorem firstN_any {q : Nat → Bool} {n : Nat} : decide ((0 : Int) ≤ firstN q n) = anyN q n := by
  cases h : anyN q n with
  | false => rw [firstN_no (anyN_false.1 h)]; rfl
  | true =>
    obtain ⟨i, hi, hq⟩ := anyN_true.1 h
    have : ∃ j, (List.range n).find? q = some j := by
      cases hf : (List.range n).find? q with
      | some j => exact ⟨j, rfl⟩
      | none => rw [List.find?_eq_none] at hf; exact absurd hq (hf i (List.mem_range.2 hi))
    obtain ⟨j, hj⟩ := this
    rw [firstN, hj]; simp
end Go.VL
