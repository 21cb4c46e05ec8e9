/- Plain: printing of meanings is injective on right ones. -/
import Derived.Test.YtmohcfjopaccdaaGreatDoorRsQ
import Derived.Test.YtmohcfjopaccdaaGreatDoorRsF0
namespace Go.Proofs.YtmohcfjopaccdaaGreatDoor
open Go.VL Go.Proofs
set_option maxRecDepth 10000

/-! A text does not end in a blank. -/
def endB (x : List UInt8) : Prop := x.getLast? ≠ some 32
theorem endB_snoc (x : List UInt8) {b : UInt8} (h : b ≠ 32) : endB (x ++ [b]) := by unfold endB; simp [h]
theorem endB_app (x : List UInt8) {y : List UInt8} (hy : y ≠ []) (h : endB y) : endB (x ++ y) := by
  unfold endB at h ⊢
  rw [List.getLast?_append]
  cases hq : y.getLast? with
  | none => exact absurd (List.getLast?_eq_none_iff.1 hq) hy
  | some a => rw [hq] at h; simpa using h
theorem name_end (c : Int) : endB (nameM c) := fun h => (name_okC c 32 (List.mem_of_getLast? h)).2 rfl
theorem join_end {s : UInt8} : ∀ {l : List (List UInt8)}, (∀ x ∈ l, x ≠ [] ∧ endB x) → endB (joinM [s] l)
  | [], _ => by simp [joinM, endB]
  | a :: r, h => by
    cases r with
    | nil => simpa [joinM] using (h a (by simp)).2
    | cons b r =>
      have ih := join_end (s := s) (l := b :: r) fun x hx => h x (by simp [hx])
      have e : joinM [s] (a :: b :: r) = (a ++ [s]) ++ joinM [s] (b :: r) := by simp [joinM]
      rw [e]
      exact endB_app _ (by simp [joinM, (h b (by simp)).1]) ih
theorem text_ne {t : Nd} (h : fitsM t true = true) : textM t ≠ [] := fun e => by
  have := (parse_all (nsz t) t (Nat.le_refl _) h _ (Nat.le_refl _)).hd
  rw [e] at this; exact absurd this (by decide)
theorem text_end : ∀ (n : Nat) (t : Nd), nsz t ≤ n → fitsM t true = true → endB (textM t)
  | 0, t, hn, _ => by have := nsz_pos t; omega
  | n + 1, .mk k c l, hn, hf => by
    simp only [nsz] at hn
    simp only [fitsM, Bool.and_eq_true] at hf
    obtain ⟨hh, hk⟩ := hf
    have hx : ∀ ks, ∀ x ∈ toldL ks l, x ≠ [] ∧ endB x := fun ks x hx => by
      rw [toldL_map] at hx
      obtain ⟨t, ht, rfl⟩ := List.mem_map.1 hx
      have h1 := fitsL_mem l hk t ht
      have h2 := text_end n t (by have := nszL_mem l t ht; omega) h1
      unfold toldM
      split
      · exact ⟨by simp, by rw [← List.cons_append]; exact endB_snoc _ (by decide)⟩
      · exact ⟨text_ne h1, h2⟩
    rcases head_cases hh with ⟨rfl, hl, hc⟩ | ⟨rfl, hl, rfl⟩ | ⟨rfl, hl, hc⟩ | ⟨rfl, hl, rfl⟩ | ⟨rfl, hl, rfl⟩ | ⟨rfl, hl, rfl⟩ | ⟨rfl, hl, rfl⟩ | ⟨rfl, hl, rfl⟩ | ⟨rfl, hl, rfl⟩ | ⟨rfl, hl, rfl, e⟩
    · exact name_end c
    · unfold endB; simp [textM]
    · have : textM (.mk 2 c l) = [126] ++ nameM c := rfl
      rw [this]
      exact endB_app _ (nameM_facts hc).1 (name_end c)
    · unfold endB; simp [textM]
    · exact join_end (hx _)
    · exact join_end (hx _)
    · simp only [textM]; exact endB_snoc _ (by simp [nth_cons0])
    · simp only [textM]; exact endB_snoc _ (by simp [nth1_3])
    · simp only [textM]; exact endB_snoc _ (by simp [nth2_3])
    · cases e
/-! A rule's line. -/
def partL (A : List UInt8) : List UInt8 := if A = [] then [] else A ++ [32]
def partR (B : List UInt8) : List UInt8 := if B = [] then [] else [32] ++ B
def lineM (t : R3) : List UInt8 := partL (printM t.1) ++ signM t.2.2 ++ partR (printM t.2.1)
theorem trim_line {A B : List UInt8} {s : UInt8} (hA : A = [] ∨ A.headD 0 ≠ 32) (hB : endB B) (hs : s ≠ 32) : trimM (A ++ [32] ++ [s] ++ [32] ++ B) = partL A ++ [s] ++ partR B := by
  have hr : trimRB (A ++ [32] ++ [s] ++ [32] ++ B) = A ++ [32] ++ [s] ++ partR B := by
    rcases List.eq_nil_or_concat B with rfl | ⟨B, b, rfl⟩
    · rw [List.append_nil, trimRB_snoc, trimRB_keep _ hs]
      simp [partR]
    · rw [List.concat_eq_append] at *
      have hb : b ≠ 32 := fun e => hB (by rw [e]; simp)
      rw [← List.append_assoc, trimRB_keep _ hb]
      simp [partR]
  unfold trimM
  rw [hr]
  cases A with
  | nil => rw [List.nil_append, List.append_assoc, List.singleton_append, skipB_blank, List.singleton_append, skipB_cons hs]; rfl
  | cons a A =>
    have ha : a ≠ 32 := by rcases hA with h | h; cases h; simpa using h
    simp only [List.cons_append]
    rw [skipB_cons ha]
    simp [partL]
theorem print_head {t : Nd} (h : rightM t = true) : printM t = [] ∨ (printM t).headD 0 ≠ 32 := by
  rcases right_cases h with ⟨_, h1⟩ | ⟨_, h2, h3⟩
  · exact .inl h1
  · rw [h2]; exact .inr (begins_ne h3).1
theorem print_end {t : Nd} (h : rightM t = true) : endB (printM t) := by
  rcases right_cases h with ⟨_, h1⟩ | ⟨h1, h2, _⟩
  · rw [h1]; simp [endB]
  · rw [h2]; exact text_end _ t (Nat.le_refl _) h1
theorem sign_one (b : Bool) : ∃ s, signM b = [s] ∧ sgnB s = true ∧ s ≠ 32 ∧ s ≠ 10 := by
  cases b
  · exact ⟨33, rfl, by decide, by decide, by decide⟩
  · exact ⟨47, rfl, by decide, by decide, by decide⟩
theorem ruleTextM_eq {t : R3} (h1 : rightM t.1 = true) (h2 : rightM t.2.1 = true) : ruleTextM t = lineM t ++ [10] := by
  obtain ⟨s, hs, _, hs2, _⟩ := sign_one t.2.2
  unfold ruleTextM lineM
  rw [hs, trim_line (print_head h1) (print_end h2) hs2]
theorem okC_sgn {b : UInt8} (h : okC b) : sgnB b = false := by
  unfold sgnB
  rw [decide_eq_false h.1, decide_eq_false h.2.1]; rfl
theorem partL_okC {t : Nd} : ∀ b ∈ partL (printM t), okC b := fun b hb => by
  unfold partL at hb
  split at hb
  · simp at hb
  · rcases List.mem_append.1 hb with hb | hb
    · exact print_okC t b hb
    · simp at hb; subst hb; unfold okC; decide
theorem partR_okC {t : Nd} : ∀ b ∈ partR (printM t), okC b := fun b hb => by
  unfold partR at hb
  split at hb
  · simp at hb
  · rcases List.mem_append.1 hb with hb | hb
    · simp at hb; subst hb; unfold okC; decide
    · exact print_okC t b hb
theorem partL_inj {A B : List UInt8} (h : partL A = partL B) : A = B := by
  unfold partL at h
  split at h <;> split at h
  · rename_i a b; rw [a, b]
  · simp at h
  · simp at h
  · exact List.append_cancel_right h
theorem partR_inj {A B : List UInt8} (h : partR A = partR B) : A = B := by
  unfold partR at h
  split at h <;> split at h
  · rename_i a b; rw [a, b]
  · simp at h
  · simp at h
  · exact List.append_cancel_left h
/-- What stands before the first of some signs. -/
theorem cut_inj {p : UInt8 → Bool} {a b x y : List UInt8} {s r : UInt8} (ha : ∀ c ∈ a, p c = false) (hb : ∀ c ∈ b, p c = false) (hs : p s = true) (hr : p r = true) (h : a ++ s :: x = b ++ r :: y) : a = b ∧ s = r ∧ x = y := by
  have g : ∀ {a x : List UInt8} {s : UInt8}, (∀ c ∈ a, p c = false) → p s = true → (a ++ s :: x).takeWhile (fun c => !(p c)) = a ∧ (a ++ s :: x).dropWhile (fun c => !(p c)) = s :: x := fun {a x s} ha hs => by
    induction a with
    | nil => rw [List.nil_append, List.takeWhile_cons_of_neg (by rw [hs]; decide), List.dropWhile_cons_of_neg (by rw [hs]; decide)]; exact ⟨rfl, rfl⟩
    | cons c a ih =>
      have hc := ha c (by simp)
      have ih := ih fun c hc => ha c (by simp [hc])
      rw [List.cons_append, List.takeWhile_cons_of_pos (by rw [hc]; rfl), List.dropWhile_cons_of_pos (by rw [hc]; rfl), ih.1, ih.2]
      exact ⟨rfl, rfl⟩
  have h1 := g (x := x) ha hs
  have h2 := g (x := y) hb hr
  rw [h] at h1
  have e1 := h1.1.symm.trans h2.1
  have e2 := h1.2.symm.trans h2.2
  simp only [List.cons.injEq] at e2
  exact ⟨e1, e2.1, e2.2⟩
theorem lineM_inj {t s : R3} (h1 : rightM t.1 = true) (h2 : rightM t.2.1 = true) (g1 : rightM s.1 = true) (g2 : rightM s.2.1 = true) (h : lineM t = lineM s) : t = s := by
  obtain ⟨a, ha, ha1, _⟩ := sign_one t.2.2
  obtain ⟨b, hb, hb1, _⟩ := sign_one s.2.2
  unfold lineM at h
  rw [ha, hb, List.append_assoc, List.append_assoc, List.singleton_append, List.singleton_append] at h
  obtain ⟨e1, e2, e3⟩ := cut_inj (p := sgnB) (fun c hc => okC_sgn (partL_okC c hc)) (fun c hc => okC_sgn (partL_okC c hc)) ha1 hb1 h
  have f1 := printM_inj h1 g1 (partL_inj e1)
  have f2 := printM_inj h2 g2 (partR_inj e3)
  have f3 : t.2.2 = s.2.2 := by
    rw [e2, ← hb] at ha
    revert ha
    cases t.2.2 <;> cases s.2.2 <;> simp [signM]
  obtain ⟨t1, t2, t3⟩ := t
  obtain ⟨s1, s2, s3⟩ := s
  simp only at f1 f2 f3
  rw [f1, f2, f3]
/-! Lines of classes. -/
theorem cls_inj : ∀ {l l' : List Int}, (∀ c ∈ l, 0 ≤ c ∧ c < 36) → (∀ c ∈ l', 0 ≤ c ∧ c < 36) → l.flatMap clsM = l'.flatMap clsM → l = l'
  | [], [], _, _, _ => rfl
  | [], c :: r, _, _, h => by simp [clsM] at h
  | c :: r, [], _, _, h => by simp [clsM] at h
  | c :: r, c' :: r', hl, hl', h => by
    have hh : ∀ l : List Int, letterB ((l.flatMap clsM).headD 0) = false := fun l => by
      cases l with
      | nil => rfl
      | cons a l => exact (by decide : letterB 32 = false)
    obtain ⟨_, a2, _, a4⟩ := nameM_facts (hl c (by simp))
    obtain ⟨_, b2, _, b4⟩ := nameM_facts (hl' c' (by simp))
    obtain ⟨t1, t2⟩ := letter_app a2 (hh r)
    obtain ⟨s1, s2⟩ := letter_app b2 (hh r')
    have h' : nameM c ++ r.flatMap clsM = nameM c' ++ r'.flatMap clsM := by
      have h1 : (32 :: (nameM c ++ r.flatMap clsM)) = 32 :: (nameM c' ++ r'.flatMap clsM) := h
      exact (List.cons.inj h1).2
    rw [h'] at t1 t2
    have e1 := t1.symm.trans s1
    have e2 := t2.symm.trans s2
    rw [e1, b4] at a4
    have hc := hl c (by simp)
    have hc' := hl' c' (by simp)
    have : c = c' := by
      have := Option.some.inj a4
      omega
    rw [this, cls_inj (fun c hc => hl c (by simp [hc])) (fun c hc => hl' c (by simp [hc])) e2]
theorem rises_in {l : List Int} (h : risesM l = true) : ∀ c ∈ l, 0 ≤ c ∧ c < 36 := fun c hc => by
  unfold risesM at h
  rw [Bool.not_eq_true'] at h
  obtain ⟨i, hi, rfl⟩ := mem_nth hc
  have := anyN_false.1 h i hi
  unfold badAt at this
  simp only [Bool.or_eq_false_iff, decide_eq_false_iff_not] at this
  omega
theorem cls_okC : ∀ {l : List Int}, ∀ b ∈ l.flatMap clsM, okC b := fun b hb => by
  obtain ⟨c, _, hb⟩ := List.mem_flatMap.1 hb
  unfold clsM at hb
  rcases List.mem_append.1 hb with hb | hb
  · simp at hb; subst hb; unfold okC; decide
  · exact (name_okC c b hb).1
/-! The lines of a text. -/
def clsLine (w : List UInt8) (l : List Int) : List (List UInt8) := if l = [] then [] else [w ++ l.flatMap clsM]
def linesP (li lk : List Int) (ts : List R3) : List (List UInt8) := clsLine [105, 103, 110, 111, 114, 101] li ++ clsLine [107, 101, 101, 112] lk ++ ts.map lineM
def unlinesM (l : List (List UInt8)) : List UInt8 := l.flatMap fun x => x ++ [10]
theorem unlines_inj : ∀ {l l' : List (List UInt8)}, (∀ x ∈ l, ∀ b ∈ x, b ≠ 10) → (∀ x ∈ l', ∀ b ∈ x, b ≠ 10) → unlinesM l = unlinesM l' → l = l'
  | [], [], _, _, _ => rfl
  | [], x :: r, _, _, h => by simp [unlinesM] at h
  | x :: r, [], _, _, h => by simp [unlinesM] at h
  | x :: r, y :: q, hl, hl', h => by
    simp only [unlinesM, List.flatMap_cons, List.append_assoc, List.singleton_append] at h
    obtain ⟨e1, _, e3⟩ := cut_inj (p := fun c => c == 10) (fun c hc => beq_eq_false_iff_ne.2 (hl x (by simp) c hc)) (fun c hc => beq_eq_false_iff_ne.2 (hl' y (by simp) c hc)) rfl rfl h
    rw [e1, unlines_inj (fun z hz => hl z (by simp [hz])) (fun z hz => hl' z (by simp [hz])) e3]
theorem cls_unlines (w : List UInt8) (l : List Int) : classesM w l = unlinesM (clsLine w l) := by
  unfold classesM clsLine unlinesM
  split <;> simp
theorem rule_right {li lk : List Int} {ts : List R3} (h : rightT li lk ts = true) : ∀ t ∈ ts, rightM t.1 = true ∧ rightM t.2.1 = true := fun t ht => by
  unfold rightT at h
  simp only [Bool.and_eq_true, allR, Bool.not_eq_true'] at h
  obtain ⟨i, hi, rfl⟩ := mem_nth ht
  have := anyN_false.1 h.2 i hi
  simp only [Bool.not_eq_false', ruleR, Bool.and_eq_true] at this
  exact this.1
theorem print_lines {li lk : List Int} {ts : List R3} (h : rightT li lk ts = true) : printT li lk ts = unlinesM (linesP li lk ts) := by
  unfold printT
  rw [if_pos h, cls_unlines, cls_unlines]
  unfold linesP unlinesM
  rw [List.flatMap_append, List.flatMap_append, List.flatMap_map]
  congr 1
  have : ∀ (l : List R3), (∀ t ∈ l, rightM t.1 = true ∧ rightM t.2.1 = true) → l.flatMap ruleTextM = l.flatMap fun t => lineM t ++ [10] := fun l => by
    induction l with
    | nil => intro _; rfl
    | cons t l ih =>
      intro hl
      rw [List.flatMap_cons, List.flatMap_cons, ih fun t ht => hl t (by simp [ht]), ruleTextM_eq (hl t (by simp)).1 (hl t (by simp)).2]
  exact this ts (rule_right h)
theorem line_no10 (t : R3) : ∀ b ∈ lineM t, b ≠ 10 := fun b hb => by
  obtain ⟨s, hs, _, _, h10⟩ := sign_one t.2.2
  unfold lineM at hb
  rw [hs] at hb
  rcases List.mem_append.1 hb with hb | hb
  · rcases List.mem_append.1 hb with hb | hb
    · exact (partL_okC b hb).2.2.1
    · simp at hb; rw [hb]; exact h10
  · exact (partR_okC b hb).2.2.1
theorem clsLine_okC {w : List UInt8} (hw : ∀ b ∈ w, okC b) (l : List Int) : ∀ x ∈ clsLine w l, ∀ b ∈ x, okC b := fun x hx b hb => by
  unfold clsLine at hx
  split at hx
  · simp at hx
  · simp at hx
    subst hx
    rcases List.mem_append.1 hb with hb | hb
    · exact hw b hb
    · exact cls_okC b hb
theorem ign_okC : ∀ b ∈ ([105, 103, 110, 111, 114, 101] : List UInt8), okC b := by unfold okC; decide
theorem keep_okC : ∀ b ∈ ([107, 101, 101, 112] : List UInt8), okC b := by unfold okC; decide
theorem lines_no10 (li lk : List Int) (ts : List R3) : ∀ x ∈ linesP li lk ts, ∀ b ∈ x, b ≠ 10 := fun x hx b hb => by
  unfold linesP at hx
  rcases List.mem_append.1 hx with hx | hx
  · rcases List.mem_append.1 hx with hx | hx
    · exact (clsLine_okC ign_okC li x hx b hb).2.2.1
    · exact (clsLine_okC keep_okC lk x hx b hb).2.2.1
  · obtain ⟨t, _, rfl⟩ := List.mem_map.1 hx
    exact line_no10 t b hb
theorem filter_all {α : Type} {p : α → Bool} {l : List α} (h : ∀ x ∈ l, p x = true) : l.filter p = l := List.filter_eq_self.2 h
theorem filter_none {α : Type} {p : α → Bool} {l : List α} (h : ∀ x ∈ l, p x = false) : l.filter p = [] := List.filter_eq_nil_iff.2 fun x hx => by rw [h x hx]; decide
/-- The kind of a line: 0 a list, 1 another one, 2 a rule. -/
def kindL (x : List UInt8) : Nat := if x.any sgnB = true then 2 else if x.headD 0 = 105 then 0 else 1
theorem kind_rule (t : R3) : kindL (lineM t) = 2 := by
  obtain ⟨s, hs, h1, _⟩ := sign_one t.2.2
  unfold kindL
  rw [if_pos]
  unfold lineM
  rw [hs, List.any_append, List.any_append]
  simp [h1]
theorem kind_cls {w : List UInt8} {a : UInt8} {r : List UInt8} (hw : w = a :: r) (ho : ∀ b ∈ w, okC b) (l : List Int) : ∀ x ∈ clsLine w l, kindL x = if a = 105 then 0 else 1 := fun x hx => by
  have h1 := clsLine_okC ho l x hx
  have h2 : x.any sgnB = false := List.any_eq_false.2 fun b hb => by rw [okC_sgn (h1 b hb)]; decide
  unfold clsLine at hx
  split at hx
  · simp at hx
  · simp at hx
    subst hx
    unfold kindL
    rw [if_neg (by rw [h2]; decide), hw]
    rfl
theorem filter_lines (li lk : List Int) (ts : List R3) : (linesP li lk ts).filter (fun x => kindL x == 0) = clsLine [105, 103, 110, 111, 114, 101] li ∧ (linesP li lk ts).filter (fun x => kindL x == 1) = clsLine [107, 101, 101, 112] lk ∧ (linesP li lk ts).filter (fun x => kindL x == 2) = ts.map lineM := by
  have h1 := kind_cls rfl ign_okC li
  have h2 := kind_cls rfl keep_okC lk
  have h3 : ∀ x ∈ ts.map lineM, kindL x = 2 := fun x hx => by obtain ⟨t, _, rfl⟩ := List.mem_map.1 hx; exact kind_rule t
  unfold linesP
  simp only [List.filter_append]
  refine ⟨?_, ?_, ?_⟩
  · rw [filter_all fun x hx => by rw [h1 x hx]; rfl, filter_none fun x hx => by rw [h2 x hx]; rfl, filter_none fun x hx => by rw [h3 x hx]; rfl, List.append_nil, List.append_nil]
  · rw [filter_none fun x hx => by rw [h1 x hx]; rfl, filter_all fun x hx => by rw [h2 x hx]; rfl, filter_none fun x hx => by rw [h3 x hx]; rfl, List.append_nil, List.nil_append]
  · rw [filter_none fun x hx => by rw [h1 x hx]; rfl, filter_none fun x hx => by rw [h2 x hx]; rfl, filter_all fun x hx => by rw [h3 x hx]; rfl]; rfl
theorem clsLine_inj {w : List UInt8} {l l' : List Int} (h1 : ∀ c ∈ l, 0 ≤ c ∧ c < 36) (h2 : ∀ c ∈ l', 0 ≤ c ∧ c < 36) (h : clsLine w l = clsLine w l') : l = l' := by
  unfold clsLine at h
  split at h <;> split at h
  · rename_i a b; rw [a, b]
  · cases h
  · cases h
  · simp only [List.cons.injEq, and_true] at h
    exact cls_inj h1 h2 (List.append_cancel_left h)
theorem map_line_inj : ∀ {l l' : List R3}, (∀ t ∈ l, rightM t.1 = true ∧ rightM t.2.1 = true) → (∀ t ∈ l', rightM t.1 = true ∧ rightM t.2.1 = true) → l.map lineM = l'.map lineM → l = l'
  | [], [], _, _, _ => rfl
  | [], x :: r, _, _, h => by simp at h
  | x :: r, [], _, _, h => by simp at h
  | x :: r, y :: q, hl, hl', h => by
    simp only [List.map_cons, List.cons.injEq] at h
    have hx := hl x (by simp)
    have hy := hl' y (by simp)
    rw [lineM_inj hx.1 hx.2 hy.1 hy.2 h.1, map_line_inj (fun z hz => hl z (by simp [hz])) (fun z hz => hl' z (by simp [hz])) h.2]
theorem printT_inj (la ka lb kb : List Int) (ta tb : List R3) (ha : rightT la ka ta = true) (hb : rightT lb kb tb = true) (h : printT la ka ta = printT lb kb tb) : (la = lb ∧ ka = kb) ∧ ta = tb := by
  rw [print_lines ha, print_lines hb] at h
  have e := unlines_inj (lines_no10 la ka ta) (lines_no10 lb kb tb) h
  obtain ⟨a1, a2, a3⟩ := filter_lines la ka ta
  obtain ⟨b1, b2, b3⟩ := filter_lines lb kb tb
  rw [e] at a1 a2 a3
  have ra := ha
  have rb := hb
  unfold rightT at ra rb
  simp only [Bool.and_eq_true] at ra rb
  exact ⟨⟨clsLine_inj (rises_in ra.1.1.2) (rises_in rb.1.1.2) (a1.symm.trans b1), clsLine_inj (rises_in ra.1.2) (rises_in rb.1.2) (a2.symm.trans b2)⟩, map_line_inj (rule_right ha) (rule_right hb) (a3.symm.trans b3)⟩
end Go.Proofs.YtmohcfjopaccdaaGreatDoor
