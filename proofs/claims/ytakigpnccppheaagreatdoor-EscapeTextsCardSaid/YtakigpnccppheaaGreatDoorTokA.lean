/- Plain words: a valid text, cut at the signs that are escaped, and what is read of it escaped. -/
import Derived.Test.YtakigpnccppheaaGreatDoorDressA
namespace Go.Proofs.YtakigpnccppheaaGreatDoor
open Go.VL Go.Proofs
set_option maxRecDepth 4000

theorem by8_append_left {a b : List UInt8} {j : Nat} (h : j < a.length) : by8 (a ++ b) j = by8 a j := by
  simp only [by8]; rw [nth_eq (by simp; omega), nth_eq h, List.getElem_append_left h]
theorem by8_append_right {a b : List UInt8} {j : Nat} (h : j < b.length) : by8 (a ++ b) (a.length + j) = by8 b j := by
  simp only [by8]; rw [nth_eq (by simp; omega), nth_eq h, List.getElem_append_right (by omega)]; simp
theorem needLo_ge (c : Nat) : 128 ≤ needLo c := by unfold needLo; (repeat' split) <;> omega
theorem decM_prefix {a l' : List UInt8} (ha : a ≠ []) (hw : (decM (a ++ l')).2.2 = true) (hb : l' = [] ∨ by8 l' 0 < 128) : (decM (a ++ l')).2.1 ≤ a.length ∧ decM a = decM (a ++ l') := by
  obtain ⟨hne, h1, hj, hd⟩ := whole_ok hw
  have hal : 1 ≤ a.length := by cases a with | nil => exact absurd rfl ha | cons x a => simp
  have h0 : by8 (a ++ l') 0 = by8 a 0 := by8_append_left hal
  rw [h0] at h1 hj hd
  rw [hd]
  have hn : needN (by8 a 0) ≤ a.length := by
    refine Nat.le_of_not_lt fun hlt => ?_
    obtain ⟨k1, k2, _⟩ := hj a.length hal hlt
    have hl : 0 < l'.length := by simp at k1; omega
    have e := by8_append_right (a := a) hl
    rw [Nat.add_zero] at e
    rw [e] at k2
    have hlo := needLo_ge (by8 a 0)
    rcases hb with rfl | hb
    · simp at hl
    · split at k2 <;> omega
  refine ⟨hn, ?_⟩
  have hw2 := decM_whole ha h1 (fun j j1 j2 => by
    obtain ⟨_, k2, k3⟩ := hj j j1 j2
    rw [by8_append_left (by omega)] at k2 k3
    exact ⟨by omega, k2, k3⟩)
  rw [hw2, ← valM_take a _ h1, ← valM_take (a ++ l') _ h1, List.take_append_of_le_length hn]
theorem validM_step {L : List UInt8} (h : L ≠ []) : validM L = ((decM L).2.2 && validM (L.drop (decM L).2.1)) := by
  unfold validM; rw [decP_step h, List.all_cons]
theorem runesM_step {L : List UInt8} (h : L ≠ []) : runesM L = (decM L).1 :: runesM (L.drop (decM L).2.1) := by
  unfold runesM; rw [decP_step h, List.map_cons]
theorem split_at' : ∀ (k : Nat) (a l' : List UInt8), a.length ≤ k → validM (a ++ l') = true → (l' = [] ∨ by8 l' 0 < 128) → validM l' = true ∧ (runesM a).flatMap putM = a
  | 0, a, l', hk, hv, _ => by
    obtain rfl : a = [] := List.eq_nil_of_length_eq_zero (by omega)
    exact ⟨hv, rfl⟩
  | k + 1, a, l', hk, hv, hb => by
    by_cases ha : a = []
    · subst ha; exact ⟨hv, rfl⟩
    · have hne : a ++ l' ≠ [] := by simp [ha]
      rw [validM_step hne, Bool.and_eq_true] at hv
      obtain ⟨hw, hv⟩ := hv
      obtain ⟨hs, hd⟩ := decM_prefix ha hw hb
      have h1 := (decM_size hne).1
      rw [List.drop_append_of_le_length hs] at hv
      obtain ⟨i1, i2⟩ := split_at' k (a.drop (decM (a ++ l')).2.1) l' (by simp; omega) hv hb
      refine ⟨i1, ?_⟩
      rw [runesM_step ha, List.flatMap_cons, hd, i2]
      have hw' : (decM a).2.2 = true := by rw [hd]; exact hw
      rw [← hd, put_dec hw', List.take_append_drop]

/-- Is a byte a sign that is escaped? -/
def spec (b : UInt8) : Bool := b == 38 || b == 60 || b == 62
theorem spec_lt {b : UInt8} (h : spec b = true) : b.toNat < 128 := by
  simp only [spec, Bool.or_eq_true, beq_iff_eq] at h
  rcases h with (rfl | rfl) | rfl <;> decide
def runOf (l : List UInt8) : List UInt8 := l.takeWhile fun b => !(spec b)
def restOf (l : List UInt8) : List UInt8 := l.dropWhile fun b => !(spec b)
theorem run_rest (l : List UInt8) : runOf l ++ restOf l = l := List.takeWhile_append_dropWhile
theorem runOf_no {l : List UInt8} {b : UInt8} (h : b ∈ runOf l) : spec b = false := by
  unfold runOf at h
  induction l with
  | nil => simp at h
  | cons a l ih =>
    rw [List.takeWhile_cons] at h
    split at h
    · rename_i hs
      rcases List.mem_cons.1 h with rfl | h
      · simpa using hs
      · exact ih h
    · simp at h
theorem restOf_head (l : List UInt8) : restOf l = [] ∨ ∃ b r, restOf l = b :: r ∧ spec b = true := by
  unfold restOf
  induction l with
  | nil => exact .inl rfl
  | cons a l ih =>
    rw [List.dropWhile_cons]
    split
    · exact ih
    · rename_i h
      exact .inr ⟨a, l, rfl, by simpa using h⟩
theorem runOf_pos {b : UInt8} {l : List UInt8} (h : spec b = false) : runOf (b :: l) = b :: runOf l ∧ restOf (b :: l) = restOf l := by
  simp [runOf, restOf, h]
/-- The scalars of what is read. -/
def itL : Nat → List UInt8 → List Int
  | 0, _ => []
  | _ + 1, [] => []
  | n + 1, b :: l => if spec b then (b.toNat : Int) :: itL n l else runesM (runOf (b :: l)) ++ itL n (restOf (b :: l))
theorem dec_ascii {b : UInt8} (l : List UInt8) (h : b.toNat < 128) : decM (b :: l) = ((b.toNat : Int), 1, true) := by
  have h0 : by8 (b :: l) 0 = b.toNat := by8_cons0 b l
  have hn : needN (by8 (b :: l) 0) = 1 := by rw [h0]; unfold needN; rw [if_pos h]
  rw [decM_whole (by simp) (by omega) (fun j a c => by omega), hn]
  have : valM (b :: l) 1 = by8 (b :: l) 0 := rfl
  rw [this, h0]
theorem itL_text : ∀ (n : Nat) (l : List UInt8), l.length ≤ n → validM l = true → (itL n l).flatMap putM = l
  | 0, l, h, _ => by obtain rfl : l = [] := List.eq_nil_of_length_eq_zero (by omega); rfl
  | n + 1, [], _, _ => rfl
  | n + 1, b :: l, h, hv => by
    unfold itL
    cases hs : spec b with
    | true =>
      have hb := spec_lt hs
      have hd := dec_ascii l hb
      rw [validM_step (by simp), hd, Bool.true_and, List.drop_one, List.tail_cons] at hv
      rw [if_pos rfl, List.flatMap_cons, itL_text n l (by simp at h; omega) hv]
      have hp := put_dec (L := b :: l) (by rw [hd])
      rw [hd] at hp
      rw [hp]; rfl
    | false =>
      obtain ⟨h1, h2⟩ := runOf_pos (l := l) hs
      rw [if_neg (by decide), List.flatMap_append]
      have hr : restOf (b :: l) = [] ∨ by8 (restOf (b :: l)) 0 < 128 := by
        rcases restOf_head (b :: l) with e | ⟨c, r, e, hc⟩
        · exact .inl e
        · right; rw [e, by8_cons0]; exact spec_lt hc
      rw [← run_rest (b :: l)] at hv
      obtain ⟨i1, i2⟩ := split_at' _ _ _ (Nat.le_refl _) hv hr
      have hlen := congrArg List.length (run_rest (b :: l))
      rw [List.length_append, h1, List.length_cons] at hlen
      rw [i2, itL_text n _ (by simp at h hlen; omega) i1, run_rest]
theorem escB_no {b : UInt8} (h : spec b = false) : escB b = [b] := by
  simp only [spec, Bool.or_eq_false_iff, beq_eq_false_iff_ne] at h
  rw [escB, if_neg h.1.1, if_neg h.1.2, if_neg h.2]
theorem escM_run : ∀ (a : List UInt8), (∀ b ∈ a, spec b = false) → escM a = a
  | [], _ => rfl
  | b :: a, h => by
    have e : escM (b :: a) = escB b ++ escM a := by simp [escM]
    rw [e, escM_run a (fun c hc => h c (by simp [hc])), escB_no (h b (by simp))]; rfl
theorem escM_cons (b : UInt8) (l : List UInt8) : escM (b :: l) = escB b ++ escM l := by simp [escM]
theorem escM_app (a b : List UInt8) : escM (a ++ b) = escM a ++ escM b := by simp [escM]
theorem escM_split (l : List UInt8) : escM l = runOf l ++ escM (restOf l) := by
  conv => lhs; rw [← run_rest l]
  rw [escM_app, escM_run _ (fun b hb => runOf_no hb)]
theorem escM_pos (l : List UInt8) : l.length ≤ (escM l).length := by
  induction l with
  | nil => simp
  | cons b l ih =>
    rw [escM_cons, List.length_append, List.length_cons]
    have : 1 ≤ (escB b).length := by unfold escB; (repeat' split) <;> simp
    omega

/-- A token, as far as it matters: its kind, its places, its scalar. -/
abbrev Tok := Nat × Nat × Nat × Int
def tokL : Nat → List UInt8 → Nat → List Tok
  | 0, _, _ => []
  | _ + 1, [], _ => []
  | n + 1, b :: l, at' => if spec b then (1, at', at' + (escB b).length, (b.toNat : Int)) :: tokL n l (at' + (escB b).length)
      else (0, at', at' + (runOf (b :: l)).length, 0) :: tokL n (restOf (b :: l)) (at' + (runOf (b :: l)).length)
end Go.Proofs.YtakigpnccppheaaGreatDoor
