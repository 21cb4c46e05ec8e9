/- Chapter 12: what packed rows are like: plain words, no program in sight. -/
import Derived.Test.YtahdlfnjnjngaaaPackE
namespace Go.Proofs.Ytahdlfnjnjngaaa
open Go.VL Go.Proofs

def isTaken (n : Int) : Bool := decide (0 ≤ n)
def usedOf (l : List Int) : Nat := l.countP isTaken
def diffOf (row : List Int) (u : Int) : Nat := row.countP fun n => n != u
def otherTo (L : List (List Int)) (us : List Int) (i : Nat) : Nat := ((List.range i).map fun j => diffOf (nth L j) (nth us j)).sum
theorem otherTo_succ (L : List (List Int)) (us : List Int) (i : Nat) : otherTo L us (i + 1) = otherTo L us i + diffOf (nth L i) (nth us i) := by
  simp [otherTo, List.range_succ]

theorem colsOf_len (row : List Int) (u : Int) : (colsOf row u).length = diffOf row u := by
  have key : ∀ k, k ≤ row.length → (colsTo row u k).length = (row.take k).countP (fun n => n != u) := by
    intro k
    induction k with
    | zero => intro _; rfl
    | succ k ih =>
      intro hk
      rw [colsTo_succ, take_nth (by omega), List.countP_append]
      have := ih (by omega)
      by_cases h : nth row k = u
      · rw [if_pos h, this]; simp [h]
      · rw [if_neg h, List.length_append, this]; simp [h]
  have := key row.length (Nat.le_refl _)
  rwa [List.take_length] at this

/-- A slot that is free. -/
def freeAt (chk : List Int) (s : Nat) : Prop := chk.length ≤ s ∨ nth chk s = -1
theorem free1_iff {chk : List Int} {b c : Nat} : free1 chk b c = true ↔ freeAt chk (b + c) := by
  simp only [free1, freeAt, Bool.not_eq_true', Bool.and_eq_false_iff, decide_eq_false_iff_not]
  constructor
  · rintro (h | h)
    · exact .inl (by omega)
    · exact .inr (by simpa using h)
  · rintro (h | h)
    · exact .inl (by omega)
    · exact .inr (by simpa using h)

theorem nth_set {α : Type} [Inhabited α] {l : List α} {i j : Nat} {x : α} (hi : i < l.length) : nth (l.set i x) j = if j = i then x else nth l j := by
  by_cases hj : j < l.length
  · rw [nth_eq (by simpa using hj), nth_eq hj, List.getElem_set]
    by_cases h : i = j <;> simp [h, eq_comm]
  · rw [if_neg (by omega)]
    have : ∀ l : List α, l.length ≤ j → nth l j = default := fun l h => by simp [nth, List.getD_eq_getElem?_getD, List.getElem?_eq_none h]
    rw [this _ (by simp; omega), this _ (by omega)]
theorem nth_append {α : Type} [Inhabited α] {l r : List α} {j : Nat} : nth (l ++ r) j = if j < l.length then nth l j else nth r (j - l.length) := by
  split
  · rename_i h; rw [nth_eq (by simp; omega), nth_eq h, List.getElem_append_left h]
  · rename_i h
    by_cases hj : j - l.length < r.length
    · rw [nth_eq (by simp; omega), nth_eq hj, List.getElem_append_right (by omega)]
    · have : ∀ (l : List α) (j : Nat), l.length ≤ j → nth l j = default := fun l j h => by simp [nth, List.getD_eq_getElem?_getD, List.getElem?_eq_none h]
      rw [this _ _ (by simp; omega), this _ _ (by omega)]

theorem usedOf_set {l : List Int} {s : Nat} {r : Int} (hs : s < l.length) (hf : nth l s = -1) (hr : 0 ≤ r) : usedOf (l.set s r) = usedOf l + 1 := by
  induction l generalizing s with
  | nil => simp at hs
  | cons a l ih =>
    cases s with
    | zero => rw [nth_cons0] at hf; subst hf; simp [usedOf, isTaken, hr]
    | succ s =>
      rw [nth_cons] at hf
      have := ih (by simpa using hs) hf
      simp only [usedOf, List.set_cons_succ, List.countP_cons] at this ⊢
      omega

theorem usedOf_long (l : List Int) (j : Nat) : usedOf (l ++ List.replicate j (-1)) = usedOf l := by
  simp only [usedOf, List.countP_append]
  have : (List.replicate j (-1 : Int)).countP isTaken = 0 := by rw [List.countP_eq_zero]; intro a ha; rw [List.eq_of_mem_replicate ha]; decide
  omega

theorem longCheck (p : PSt) (s : Nat) : (p.long (s + 1 - p.check.length)).check = p.check ++ List.replicate (s + 1 - p.check.length) (-1) := rfl

/-- What a taken slot does. -/
theorem take_used (p : PSt) (s : Nat) (r e : Int) (hf : freeAt p.check s) (hr : 0 ≤ r) :
    usedOf (p.take s r e).check = usedOf p.check + 1 ∧ (∀ t, t ≠ s → freeAt p.check t → freeAt (p.take s r e).check t) ∧
    ((p.check = [] ∨ 0 ≤ nth p.check (p.check.length - 1)) → (0 ≤ nth (p.take s r e).check ((p.take s r e).check.length - 1))) := by
  have hlen : (p.check ++ List.replicate (s + 1 - p.check.length) (-1 : Int)).length = max p.check.length (s + 1) := by simp; omega
  have hlt : s < (p.check ++ List.replicate (s + 1 - p.check.length) (-1 : Int)).length := by omega
  have rep : ∀ j i, nth (List.replicate j (-1 : Int)) i = -1 ∨ j ≤ i := fun j i => by
    by_cases h : i < j
    · left; rw [nth_eq (by simpa using h)]; simp
    · right; omega
  have hs : nth (p.check ++ List.replicate (s + 1 - p.check.length) (-1 : Int)) s = -1 := by
    rw [nth_append]
    split
    · rename_i h; rcases hf with h2 | h2
      · omega
      · exact h2
    · rename_i h; exact (rep _ _).resolve_right (by omega)
  have hc : (p.take s r e).check = (p.check ++ List.replicate (s + 1 - p.check.length) (-1)).set s r := rfl
  refine ⟨?_, fun t ht hft => ?_, fun hl => ?_⟩
  · rw [hc, usedOf_set hlt hs hr, usedOf_long]
  · rw [hc]
    rcases hft with h | h
    · by_cases h2 : (p.check ++ List.replicate (s + 1 - p.check.length) (-1 : Int)).length ≤ t
      · exact .inl (by simpa using h2)
      · refine .inr ?_
        rw [nth_set hlt, if_neg ht, nth_append, if_neg (by omega)]
        exact (rep _ _).resolve_right (by omega)
    · by_cases h2 : t < p.check.length
      · refine .inr ?_
        rw [nth_set hlt, if_neg ht, nth_append, if_pos h2, h]
      · by_cases h3 : (p.check ++ List.replicate (s + 1 - p.check.length) (-1 : Int)).length ≤ t
        · exact .inl (by simpa using h3)
        · refine .inr ?_
          rw [nth_set hlt, if_neg ht, nth_append, if_neg (by omega)]
          exact (rep _ _).resolve_right (by omega)
  · rw [hc, nth_set hlt, List.length_set, hlen]
    split
    · exact hr
    · rename_i hne
      have h3 : s + 1 ≤ p.check.length := by omega
      rw [nth_append, if_pos (by omega), show max p.check.length (s + 1) - 1 = p.check.length - 1 from by omega]
      rcases hl with h | h
      · rw [h] at h3; simp at h3
      · exact h

theorem fold_used (f : Nat → Int) (b : Nat) (r : Int) (hr : 0 ≤ r) : ∀ (cols : List Nat) (p : PSt), cols.Nodup → (∀ c ∈ cols, freeAt p.check (b + c)) →
    let q := cols.foldl (fun q c => q.take (b + c) r (f c)) p
    usedOf q.check = usedOf p.check + cols.length ∧ ((p.check = [] ∨ 0 ≤ nth p.check (p.check.length - 1)) → (q.check = [] ∨ 0 ≤ nth q.check (q.check.length - 1)))
  | [], p, _, _ => ⟨by simp, fun h => h⟩
  | c :: cols, p, hnd, hf => by
    obtain ⟨hc, hnd'⟩ := List.nodup_cons.1 hnd
    obtain ⟨h1, h2, h3⟩ := take_used p (b + c) r (f c) (hf c (by simp)) hr
    obtain ⟨g1, g2⟩ := fold_used f b r hr cols (p.take (b + c) r (f c)) hnd' (fun x hx => h2 (b + x) (fun e => hc ((by omega : x = c) ▸ hx)) (hf x (by simp [hx])))
    refine ⟨?_, fun h => ?_⟩
    · simp only [List.foldl_cons, List.length_cons]; rw [g1, h1]; omega
    · simp only [List.foldl_cons]; exact g2 (.inr (h3 h))

theorem colsOf_nodup (row : List Int) (u : Int) : (colsOf row u).Nodup := List.Nodup.sublist List.filter_sublist List.nodup_range

theorem lay_used (p : PSt) (row : List Int) : usedOf (p.lay row).check = usedOf p.check + diffOf row (usualM row) ∧
    ((p.check = [] ∨ 0 ≤ nth p.check (p.check.length - 1)) → ((p.lay row).check = [] ∨ 0 ≤ nth (p.lay row).check ((p.lay row).check.length - 1))) := by
  have hok := (baseOf_spec p.check (colsOf row (usualM row))).1
  rw [okBase, List.all_eq_true] at hok
  have := fold_used (fun c => nth row c) (baseOf p.check (colsOf row (usualM row))) p.base.length (by omega) (colsOf row (usualM row)) p (colsOf_nodup _ _) (fun c hc => free1_iff.1 (hok c hc))
  rw [colsOf_len] at this
  exact this

/-- What packed rows are like. -/
theorem packM_spec (width : Int) (L : List (List Int)) (hw : ∀ r ∈ L, r.length ≤ 64) :
    let q := packM width L
    q.usual = L.map usualM ∧ q.base.length = L.length ∧ q.next.length = q.check.length ∧ q.check.length ≤ 64 * L.length ∧ q.width = width ∧ usedOf q.check = otherTo L q.usual L.length ∧ (q.check = [] ∨ 0 ≤ nth q.check (q.check.length - 1)) := by
  have key : ∀ k, k ≤ L.length → let q := (L.take k).foldl PSt.lay ⟨width, [], [], [], []⟩
      q.usual = (L.take k).map usualM ∧ q.base.length = k ∧ q.next.length = q.check.length ∧ q.check.length ≤ 64 * k ∧ q.width = width ∧ usedOf q.check = otherTo L ((L.take k).map usualM) k ∧ (q.check = [] ∨ 0 ≤ nth q.check (q.check.length - 1)) := by
    intro k
    induction k with
    | zero => intro _; exact ⟨rfl, rfl, rfl, by simp, rfl, rfl, .inl rfl⟩
    | succ k ih =>
      intro hk
      obtain ⟨h1, h2, h3, h4, h5, h6, h7⟩ := ih (by omega)
      generalize hq : (L.take k).foldl PSt.lay ⟨width, [], [], [], []⟩ = q at *
      obtain ⟨l1, l2, l3, l4, l5⟩ := PSt.lay_spec q (nth L k) (hw _ (nth_mem (by omega))) h3
      obtain ⟨u1, u2⟩ := lay_used q (nth L k)
      rw [take_nth (by omega), List.foldl_append, hq, List.map_append]
      simp only [List.foldl_cons, List.foldl_nil, List.map_cons, List.map_nil]
      refine ⟨by rw [l2, h1], by omega, l5, by omega, by rw [l4, h5], ?_, u2 h7⟩
      rw [u1, h6, otherTo_succ]
      have hlen : ((L.take k).map usualM).length = k := by simp; omega
      congr 1
      · simp only [otherTo]
        congr 1
        refine List.map_congr_left fun j hj => ?_
        have := List.mem_range.1 hj
        rw [nth_append, if_pos (by omega)]
      · rw [nth_append, if_neg (by omega), hlen, Nat.sub_self, nth_cons0]
  have := key L.length (Nat.le_refl _)
  rw [List.take_length] at this
  obtain ⟨h1, h2, h3, h4, h5, h6, h7⟩ := this
  exact ⟨h1, h2, h3, h4, h5, by rw [packM, h1]; exact h6, h7⟩
end Go.Proofs.Ytahdlfnjnjngaaa
