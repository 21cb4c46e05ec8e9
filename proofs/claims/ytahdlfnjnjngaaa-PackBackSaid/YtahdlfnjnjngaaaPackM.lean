/- Chapter 12: what the document packs is what the package packs: plain words, no program in sight. -/
import Derived.Test.YtahdlfnjnjngaaaPackL
namespace Go.Proofs.Ytahdlfnjnjngaaa
open Go.VL Go.Proofs

def endOf (A : List Ent) : Nat := A.foldl (fun m x => max m (x.1 + 1)) 0
def setAll (f : Ent → Int) (A : List Ent) (l : List Int) : List Int := A.foldl (fun l x => l.set x.1 (f x)) l
def rowE (x : Ent) : Int := x.2.1
def entE (x : Ent) : Int := x.2.2
def chkOf (A : List Ent) : List Int := setAll rowE A (List.replicate (endOf A) (-1))
def nxtOf (A : List Ent) : List Int := setAll entE A (List.replicate (endOf A) 0)

theorem endOf_snoc (A : List Ent) (x : Ent) : endOf (A ++ [x]) = max (endOf A) (x.1 + 1) := by simp [endOf, List.foldl_append]
theorem foldMax_le (A : List Ent) : ∀ m, m ≤ A.foldl (fun m x => max m (x.1 + 1)) m := by
  induction A with
  | nil => intro m; exact Nat.le_refl m
  | cons y A ih => intro m; simp only [List.foldl_cons]; have := ih (max m (y.1 + 1)); omega
theorem lt_endOf {A : List Ent} {x : Ent} (h : x ∈ A) : x.1 < endOf A := by
  have : ∀ (A : List Ent) m, x ∈ A → x.1 < A.foldl (fun m x => max m (x.1 + 1)) m := by
    intro A
    induction A with
    | nil => intro m h; simp at h
    | cons y A ih =>
      intro m h
      simp only [List.foldl_cons]
      rcases List.mem_cons.1 h with rfl | h
      · have := foldMax_le A (max m (x.1 + 1)); omega
      · exact ih _ h
  exact this A 0 h
theorem setAll_len (f : Ent → Int) : ∀ (A : List Ent) (l : List Int), (setAll f A l).length = l.length
  | [], _ => rfl
  | x :: A, l => by simp only [setAll, List.foldl_cons]; exact (setAll_len f A _).trans (by simp)
theorem chkOf_len (A : List Ent) : (chkOf A).length = endOf A := by rw [chkOf, setAll_len]; simp
theorem nxtOf_len (A : List Ent) : (nxtOf A).length = endOf A := by rw [nxtOf, setAll_len]; simp
theorem setAll_append (f : Ent → Int) : ∀ (A : List Ent) (l r : List Int), (∀ x ∈ A, x.1 < l.length) → setAll f A (l ++ r) = setAll f A l ++ r
  | [], _, _, _ => rfl
  | x :: A, l, r, h => by
    simp only [setAll, List.foldl_cons]
    rw [List.set_append_left _ _ (h x (by simp))]
    exact setAll_append f A _ r (fun y hy => by simpa using h y (by simp [hy]))
theorem setAll_snoc (f : Ent → Int) (A : List Ent) (x : Ent) (l : List Int) : setAll f (A ++ [x]) l = (setAll f A l).set x.1 (f x) := by simp [setAll, List.foldl_append]
theorem rep_max (n s : Nat) (z : Int) : List.replicate (max n (s + 1)) z = List.replicate n z ++ List.replicate (s + 1 - n) z := by
  rw [List.replicate_append_replicate]; congr 1; omega
theorem chkOf_snoc (A : List Ent) (x : Ent) : chkOf (A ++ [x]) = (chkOf A ++ List.replicate (x.1 + 1 - (chkOf A).length) (-1)).set x.1 x.2.1 := by
  rw [chkOf, endOf_snoc, setAll_snoc, rep_max, setAll_append _ _ _ _ (fun y hy => by simpa using lt_endOf hy), chkOf_len]; rfl
theorem nxtOf_snoc (A : List Ent) (x : Ent) : nxtOf (A ++ [x]) = (nxtOf A ++ List.replicate (x.1 + 1 - (nxtOf A).length) 0).set x.1 x.2.2 := by
  rw [nxtOf, endOf_snoc, setAll_snoc, rep_max, setAll_append _ _ _ _ (fun y hy => by simpa using lt_endOf hy), nxtOf_len]; rfl

theorem take_ents (p : PSt) (A : List Ent) (x : Ent) (h1 : p.check = chkOf A) (h2 : p.next = nxtOf A) : (p.take x.1 x.2.1 x.2.2).check = chkOf (A ++ [x]) ∧ (p.take x.1 x.2.1 x.2.2).next = nxtOf (A ++ [x]) := by
  refine ⟨?_, ?_⟩
  · rw [chkOf_snoc, ← h1]; rfl
  · rw [nxtOf_snoc, ← h2, h2, nxtOf_len, ← chkOf_len, ← h2, ← h1]; rfl

/-- What a row adds, up to a column. -/
def rowEnts (row : List Int) (u : Int) (b i k : Nat) : List Ent := (colsTo row u k).map fun c => (b + c, i, nth row c)
theorem fold_ents (row : List Int) (b i : Nat) : ∀ (cols : List Nat) (p : PSt) (A : List Ent), p.check = chkOf A → p.next = nxtOf A →
    let q := cols.foldl (fun q c => q.take (b + c) i (nth row c)) p
    q.check = chkOf (A ++ cols.map fun c => (b + c, i, nth row c)) ∧ q.next = nxtOf (A ++ cols.map fun c => (b + c, i, nth row c))
  | [], p, A, h1, h2 => by simpa using ⟨h1, h2⟩
  | c :: cols, p, A, h1, h2 => by
    obtain ⟨g1, g2⟩ := take_ents p A (b + c, i, nth row c) h1 h2
    have := fold_ents row b i cols _ _ g1 g2
    simpa using this
theorem lay_ents (p : PSt) (A : List Ent) (row : List Int) (h1 : p.check = chkOf A) (h2 : p.next = nxtOf A) :
    let b := baseOf p.check (colsOf row (usualM row))
    (p.lay row).check = chkOf (A ++ rowEnts row (usualM row) b p.base.length row.length) ∧ (p.lay row).next = nxtOf (A ++ rowEnts row (usualM row) b p.base.length row.length) :=
  fold_ents row _ _ _ p A h1 h2
theorem lay_base (p : PSt) (row : List Int) : (p.lay row).base = p.base ++ [(baseOf p.check (colsOf row (usualM row)) : Int)] ∧ (p.lay row).usual = p.usual ++ [usualM row] ∧ (p.lay row).width = p.width := by
  have key : ∀ (cols : List Nat) (f : Nat → Int) (b : Nat) (r : Int) (p : PSt), let q := cols.foldl (fun q c => q.take (b + c) r (f c)) p; q.base = p.base ∧ q.usual = p.usual ∧ q.width = p.width := by
    intro cols f b r
    induction cols with
    | nil => intro p; exact ⟨rfl, rfl, rfl⟩
    | cons c cols ih => intro p; exact ih (p.take (b + c) r (f c))
  obtain ⟨h1, h2, h3⟩ := key (colsOf row (usualM row)) (fun c => nth row c) (baseOf p.check (colsOf row (usualM row))) p.base.length p
  refine ⟨?_, ?_, h3⟩
  · simp only [PSt.lay]; rw [h1]
  · simp only [PSt.lay]; rw [h2]

theorem rowEnts_succ (row : List Int) (u : Int) (b i k : Nat) : rowEnts row u b i (k + 1) = if nth row k = u then rowEnts row u b i k else rowEnts row u b i k ++ [(b + k, i, nth row k)] := by
  simp only [rowEnts, colsTo_succ]
  split <;> simp
theorem rowEnts_len (row : List Int) (u : Int) (b i k : Nat) : (rowEnts row u b i k).length ≤ k := by simp [rowEnts]; exact colsTo_len row u k

theorem setAll_nth (A : List Ent) (s : Nat) : ∀ (l : List Int), s < l.length → (∀ x ∈ A, x.1 < l.length) → (nth (setAll rowE A l) s ≠ -1 ↔ (A.any (fun x => x.1 == s) = true ∨ nth l s ≠ -1)) := by
  induction A with
  | nil => intro l _ _; simp [setAll]
  | cons x A ih =>
    intro l hs h
    have h1 := ih (l.set x.1 (rowE x)) (by simpa using hs) (fun y hy => by simpa using h y (by simp [hy]))
    simp only [setAll, List.foldl_cons] at h1 ⊢
    rw [h1, nth_set (h x (by simp)), List.any_cons]
    by_cases e : x.1 = s
    · have : rowE x ≠ -1 := by unfold rowE; omega
      simp [e, this]
    · have e2 : ¬ s = x.1 := fun h => e h.symm
      simp [e, e2]
theorem taken_chk (A : List Ent) (s : Nat) : (A.any fun x => x.1 == s) = (decide (s < (chkOf A).length) && nth (chkOf A) s != -1) := by
  by_cases hs : s < endOf A
  · have h1 := setAll_nth A s (List.replicate (endOf A) (-1)) (by simpa using hs) (fun y hy => by simpa using lt_endOf hy)
    have h2 : nth (List.replicate (endOf A) (-1 : Int)) s = -1 := by rw [nth_eq (by simpa using hs)]; simp
    rw [chkOf_len]
    simp only [h2, ne_eq, not_true, or_false] at h1
    rw [decide_eq_true hs, Bool.true_and]
    cases ha : A.any (fun x => x.1 == s) with
    | true => have := h1.2 ha; exact (bne_iff_ne.2 this).symm
    | false =>
      rw [ha] at h1
      have : nth (chkOf A) s = -1 := Decidable.not_not.1 (fun h => by cases h1.1 h)
      rw [this]; rfl
  · rw [chkOf_len, decide_eq_false hs, Bool.false_and, List.any_eq_false]
    intro x hx h
    have := lt_endOf hx
    have : x.1 = s := by simpa using h
    omega
theorem free_taken (A : List Ent) (b c : Nat) : free1 (chkOf A) b c = !(A.any fun x => x.1 == b + c) := by rw [taken_chk]; rfl
end Go.Proofs.Ytahdlfnjnjngaaa
