/- Chapter 28: what is laid at each place, in plain words. -/
import Derived.Test.YtakigpnccppheaaGreatDoorEscA
namespace Go.Proofs.YtakigpnccppheaaGreatDoor
open Go.VL Go.Proofs
set_option maxRecDepth 4000

abbrev Ins := Int × Int
@[simp] def encI (x : Ins) : List Value := [.int .i64 x.1, .int .i64 x.2]
theorem markM_len (k : Int) : (markM k).length ≤ 15 := by unfold markM; (repeat' split) <;> simp
/-- What is laid at one place, by the first inserts. -/
def marksTo (ins : List Ins) (i : Int) (k : Nat) : List UInt8 := (ins.take k).flatMap fun x => if x.1 = i then markM x.2 else []
theorem marksTo_succ (ins : List Ins) (i : Int) (k : Nat) (h : k < ins.length) : marksTo ins i (k + 1) = marksTo ins i k ++ (if (nth ins k).1 = i then markM (nth ins k).2 else []) := by
  simp only [marksTo]; rw [take_nth h, List.flatMap_append]; simp
theorem marksTo_len (ins : List Ins) (i : Int) (k : Nat) : (marksTo ins i k).length ≤ 15 * k := by
  have : ∀ (l : List Ins), (l.flatMap fun x => if x.1 = i then markM x.2 else []).length ≤ 15 * l.length := by
    intro l
    induction l with
    | nil => simp
    | cons x l ih =>
      have := markM_len x.2
      simp only [List.flatMap_cons, List.length_append, List.length_cons]
      split
      · omega
      · simp only [List.length_nil]; omega
  have h2 := this (ins.take k)
  simp only [marksTo]
  simp only [List.length_take] at h2
  omega
/-- Where a piece begins. -/
def atOf (ps : List Pce) (i : Nat) : Nat := ((ps.take i).map (·.2.1)).sum
theorem atOf_succ (ps : List Pce) (i : Nat) (h : i < ps.length) : atOf ps (i + 1) = atOf ps i + (nth ps i).2.1 := by
  simp only [atOf]; rw [take_nth h]; simp
theorem decP_sum : ∀ (n : Nat) (L : List UInt8), L.length ≤ n → ((decP L).map (·.2.1)).sum = L.length
  | 0, L, h => by obtain rfl : L = [] := List.eq_nil_of_length_eq_zero (by omega); rfl
  | n + 1, L, h => by
    by_cases e : L = []
    · subst e; rfl
    · have h1 := decM_size e
      have := decP_sum n (L.drop (decM L).2.1) (by simp; omega)
      rw [decP_step e]; simp at this ⊢; omega
theorem atOf_le (L : List UInt8) (i : Nat) : atOf (decP L) i ≤ L.length := by
  have h := decP_sum _ L (Nat.le_refl _)
  have h2 : (decP L).map (·.2.1) = ((decP L).take i).map (·.2.1) ++ ((decP L).drop i).map (·.2.1) := by rw [← List.map_append, List.take_append_drop]
  rw [h2, List.sum_append] at h
  unfold atOf; omega
/-- A text with what is laid ahead of its first pieces. -/
def dressTo (l : List UInt8) (ins : List Ins) (i : Nat) : List UInt8 := (List.range i).flatMap fun (j : Nat) => marksTo ins (j : Int) ins.length ++ escM ((l.take (atOf (decP l) (j + 1))).drop (atOf (decP l) j))
theorem dressTo_succ (l : List UInt8) (ins : List Ins) (i : Nat) : dressTo l ins (i + 1) = dressTo l ins i ++ (marksTo ins (i : Int) ins.length ++ escM ((l.take (atOf (decP l) (i + 1))).drop (atOf (decP l) i))) := by
  simp [dressTo, List.range_succ]
def dressM (l : List UInt8) (ins : List Ins) : List UInt8 := dressTo l ins (decP l).length ++ marksTo ins ((decP l).length : Int) ins.length
theorem dressTo_len (l : List UInt8) (ins : List Ins) : ∀ i, (dressTo l ins i).length ≤ i * (15 * ins.length + 5 * l.length)
  | 0 => by simp [dressTo]
  | i + 1 => by
    have h1 := dressTo_len l ins i
    have h2 := marksTo_len ins i ins.length
    have h3 := escM_len ((l.take (atOf (decP l) (i + 1))).drop (atOf (decP l) i))
    have h4 : ((l.take (atOf (decP l) (i + 1))).drop (atOf (decP l) i)).length ≤ l.length := by simp; omega
    rw [dressTo_succ, Nat.succ_mul]
    simp only [List.length_append]
    omega

end Go.Proofs.YtakigpnccppheaaGreatDoor
