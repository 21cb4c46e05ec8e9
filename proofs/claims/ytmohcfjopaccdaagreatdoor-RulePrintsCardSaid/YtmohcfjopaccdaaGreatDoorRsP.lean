/- Plain: what 'text' prints the reader reads back; so printing is injective on right trees. -/
import Derived.Test.YtmohcfjopaccdaaGreatDoorExU
namespace Go.Proofs.YtmohcfjopaccdaaGreatDoor
open Go.VL Go.Proofs
set_option maxRecDepth 10000

theorem names_tab : (List.range 36).all (fun c => !(nth namesL c).isEmpty && ((nth namesL c).all letterB && ((nth namesL c != [97, 110, 121]) && (numM (nth namesL c) == some c)))) = true := by decide +kernel
theorem nameM_facts {c : Int} (h : 0 ≤ c ∧ c < 36) : nameM c ≠ [] ∧ (∀ b ∈ nameM c, letterB b = true) ∧ nameM c ≠ [97, 110, 121] ∧ numM (nameM c) = some c.toNat := by
  have h1 := List.all_eq_true.1 names_tab c.toNat (List.mem_range.2 (by omega))
  have hn : nameM c = nth namesL c.toNat := by unfold nameM; rw [if_pos h]
  rw [hn]
  simp only [Bool.and_eq_true, Bool.not_eq_true', List.isEmpty_eq_false_iff, List.all_eq_true, bne_iff_ne, beq_iff_eq] at h1
  exact ⟨h1.1, h1.2.1, h1.2.2.1, h1.2.2.2⟩
theorem while_app {p : UInt8 → Bool} : ∀ (s rest : List UInt8), (∀ b ∈ s, p b = true) → p (rest.headD 0) = false → (rest = [] → p 0 = false) → (s ++ rest).takeWhile p = s ∧ (s ++ rest).dropWhile p = rest
  | [], [], _, _, _ => ⟨rfl, rfl⟩
  | [], a :: r, _, h, _ => by
    simp only [List.headD_cons] at h
    rw [List.nil_append, List.takeWhile_cons_of_neg (by rw [h]; decide), List.dropWhile_cons_of_neg (by rw [h]; decide)]
    exact ⟨rfl, rfl⟩
  | a :: s, rest, hs, h, h0 => by
    have ih := while_app s rest (fun b hb => hs b (by simp [hb])) h h0
    have ha := hs a (by simp)
    rw [List.cons_append, List.takeWhile_cons_of_pos ha, List.dropWhile_cons_of_pos ha, ih.1, ih.2]
    exact ⟨rfl, rfl⟩
theorem letter_app {s rest : List UInt8} (hs : ∀ b ∈ s, letterB b = true) (h : letterB (rest.headD 0) = false) : (s ++ rest).takeWhile letterB = s ∧ (s ++ rest).dropWhile letterB = rest := while_app s rest hs h (fun _ => by decide)
theorem skipB_cons {a : UInt8} {r : List UInt8} (h : a ≠ 32) : skipB (a :: r) = a :: r := by
  unfold skipB; rw [List.dropWhile_cons_of_neg (by simpa using h)]
theorem skipB_blank (r : List UInt8) : skipB (32 :: r) = skipB r := by
  unfold skipB; rw [List.dropWhile_cons_of_pos (by decide)]
theorem skipB_skipB : ∀ (r : List UInt8), skipB (skipB r) = skipB r
  | [] => rfl
  | a :: r => by
    by_cases h : a = 32
    · subst h; rw [skipB_blank, skipB_skipB r]
    · rw [skipB_cons h, skipB_cons h]
theorem begins_ne {b : UInt8} (h : beginsB b = true) : b ≠ 32 ∧ b ≠ 0 ∧ opM b = none ∧ b ≠ 124 := by
  refine ⟨?_, ?_, ?_, ?_⟩
  · rintro rfl; revert h; decide
  · rintro rfl; revert h; decide
  · unfold opM
    split
    · rename_i e; subst e; revert h; decide
    · split
      · rename_i e; subst e; revert h; decide
      · split
        · rename_i e; subst e; revert h; decide
        · rfl
  · rintro rfl; revert h; decide
theorem head_app {x rest : List UInt8} (h : beginsB (x.headD 0) = true) : skipB (x ++ rest) = x ++ rest ∧ (x ++ rest).headD 0 = x.headD 0 := by
  cases x with
  | nil => exact absurd h (by decide)
  | cons a r =>
    simp only [List.headD_cons] at h
    exact ⟨by rw [List.cons_append, skipB_cons (begins_ne h).1], rfl⟩
def okA (rest : List UInt8) : Prop := letterB (rest.headD 0) = false
def okO (rest : List UInt8) : Prop := okA rest ∧ opM ((skipB rest).headD 0) = none
def okS (rest : List UInt8) : Prop := okO rest ∧ beginsB ((skipB rest).headD 0) = false
def okT (rest : List UInt8) : Prop := okS rest ∧ (skipB rest).headD 0 ≠ 124
abbrev Al := Option (List UInt8 → PR)
def PA (al : Al) (x : List UInt8) (t : Nd) : Prop := ∀ rest, okA rest → atomM al (x ++ rest) = .ok t rest
def PO (al : Al) (x : List UInt8) (t : Nd) : Prop := ∀ rest, okO rest → ∃ r', oftenM al (x ++ rest) = .ok t r' ∧ skipB r' = skipB rest
def PS (al : Al) (x : List UInt8) (t : Nd) : Prop := ∀ rest, okS rest → ∃ r', seqM al (x ++ rest) = .ok t r' ∧ skipB r' = skipB rest
def PT (al : Al) (x : List UInt8) (t : Nd) : Prop := ∀ rest, okT rest → altsL al (x ++ rest) = .ok t (skipB rest)
theorem PA.often {al : Al} {x : List UInt8} {t : Nd} (h : PA al x t) : PO al x t := fun rest ho => by
  refine ⟨skipB rest, ?_, skipB_skipB rest⟩
  unfold oftenM
  rw [h rest ho.1]
  dsimp only
  rw [ho.2]
theorem PA.star {al : Al} {x : List UInt8} {t : Nd} (h : PA al x t) {c : UInt8} {k : Nat} (hc : opM c = some k) : PO al (x ++ [c]) (.mk (6 + (k : Int)) 0 [t]) := fun rest _ => by
  have hcs : letterB c = false ∧ c ≠ 32 := by
    unfold opM at hc
    split at hc
    · rename_i e; subst e; decide
    · split at hc
      · rename_i e; subst e; decide
      · split at hc
        · rename_i e; subst e; decide
        · cases hc
  refine ⟨rest, ?_, rfl⟩
  unfold oftenM
  rw [List.append_assoc, h _ (show okA ([c] ++ rest) from hcs.1)]
  dsimp only
  rw [List.singleton_append, skipB_cons hcs.2, List.headD_cons, hc]
  rfl
theorem oneM_one (k : Int) (t : Nd) : oneM k [t] = t := by unfold oneM; rw [if_pos (show [t].length = 1 from rfl), nth_cons0]
theorem oneM_many {k : Int} {l : List Nd} (h : l.length ≠ 1) : oneM k l = .mk k 0 l := by unfold oneM; rw [if_neg h]
theorem PO.seq {al : Al} {x : List UInt8} {t : Nd} (h : PO al x t) : PS al x t := fun rest ho => by
  obtain ⟨r', h1, h2⟩ := h rest ho.1
  refine ⟨skipB rest, ?_, skipB_skipB rest⟩
  unfold seqM
  rw [h1]
  dsimp only
  unfold seqLoop
  rw [h2, if_neg (by rw [ho.2]; decide), oneM_one]
theorem PS.alts {al : Al} {x : List UInt8} {t : Nd} (h : PS al x t) : PT al x t := fun rest ho => by
  obtain ⟨r', h1, h2⟩ := h rest ho.1
  unfold altsL
  rw [h1]
  dsimp only
  unfold altsLoop
  rw [h2, if_neg ho.2, oneM_one]
theorem okO_sep {l : List (List UInt8 × Nd)} {rest : List UInt8} (hl : ∀ p ∈ l, beginsB (p.1.headD 0) = true) (ho : okS rest) : okO (l.flatMap (fun p => 32 :: p.1) ++ rest) := by
  cases l with
  | nil => exact ho.1
  | cons p l =>
    have hp := hl p (by simp)
    obtain ⟨g1, g2⟩ := head_app (rest := l.flatMap (fun p => 32 :: p.1) ++ rest) hp
    rw [List.flatMap_cons, List.append_assoc, List.cons_append]
    refine ⟨(by decide : letterB 32 = false), ?_⟩
    rw [skipB_blank, g1, g2]
    exact (begins_ne hp).2.2.1
theorem seqLoop_all {al : Al} {rest : List UInt8} (ho : okS rest) : ∀ (l : List (List UInt8 × Nd)), (∀ p ∈ l, beginsB (p.1.headD 0) = true ∧ PO al p.1 p.2) → ∀ (n : Nat) (acc : List Nd) (r : List UInt8), skipB r = skipB (l.flatMap (fun p => 32 :: p.1) ++ rest) → l.length < n → seqLoop al n acc r = .ok (oneM 4 (acc ++ l.map (·.2))) (skipB rest)
  | _, _, 0, _, _, _, h => absurd h (Nat.not_lt_zero _)
  | [], _, n + 1, acc, r, hr, _ => by
    unfold seqLoop
    rw [hr, List.flatMap_nil, List.nil_append, if_neg (by rw [ho.2]; decide), List.map_nil, List.append_nil]
  | p :: l, hl, n + 1, acc, r, hr, hn => by
    obtain ⟨hb, hp⟩ := hl p (by simp)
    obtain ⟨g1, g2⟩ := head_app (rest := l.flatMap (fun p => 32 :: p.1) ++ rest) hb
    rw [List.flatMap_cons, List.append_assoc, List.cons_append, skipB_blank, g1] at hr
    unfold seqLoop
    rw [hr, g2, if_pos hb]
    obtain ⟨r', h1, h2⟩ := hp _ (okO_sep (l := l) (fun q hq => (hl q (List.mem_cons_of_mem _ hq)).1) ho)
    rw [h1]
    dsimp only
    rw [seqLoop_all ho l (fun q hq => hl q (by simp [hq])) n _ r' h2 (by simpa using hn), List.append_assoc]
    rfl
theorem flat_ge (c : UInt8) : ∀ (l : List (List UInt8 × Nd)), l.length ≤ (l.flatMap (fun p => c :: p.1)).length
  | [] => by simp
  | p :: l => by have := flat_ge c l; simp only [List.flatMap_cons, List.length_append, List.length_cons]; omega
theorem seq_many {al : Al} {p : List UInt8 × Nd} {l : List (List UInt8 × Nd)} (hne : l ≠ []) (hp : beginsB (p.1.headD 0) = true ∧ PO al p.1 p.2) (hl : ∀ p ∈ l, beginsB (p.1.headD 0) = true ∧ PO al p.1 p.2) : PS al (p.1 ++ l.flatMap (fun p => 32 :: p.1)) (.mk 4 0 (p.2 :: l.map (·.2))) := fun rest ho => by
  obtain ⟨r', h1, h2⟩ := hp.2 _ (okO_sep (l := l) (rest := rest) (fun q hq => (hl q hq).1) ho)
  refine ⟨skipB rest, ?_, skipB_skipB rest⟩
  have hlen : l.length < r'.length + 1 := by
    have hs := congrArg List.length h2
    have h3 := skipB_le r'
    cases l with
    | nil => exact absurd rfl hne
    | cons q l =>
      obtain ⟨hb, _⟩ := hl q (by simp)
      obtain ⟨g1, g2⟩ := head_app (rest := l.flatMap (fun p => 32 :: p.1) ++ rest) hb
      rw [List.flatMap_cons, List.append_assoc, List.cons_append, skipB_blank, g1] at hs
      have h4 := flat_ge 32 l
      have h5 : 1 ≤ q.1.length := by
        cases hq : q.1 with
        | nil => rw [hq] at hb; revert hb; decide
        | cons a b => simp
      simp only [List.length_append, List.length_cons] at hs ⊢
      omega
  unfold seqM
  rw [List.append_assoc, h1]
  dsimp only
  rw [seqLoop_all ho l hl (r'.length + 1) _ r' h2 hlen]
  rw [oneM_many (by
    cases l with
    | nil => exact absurd rfl hne
    | cons q l => simp)]
  rfl
theorem okS_sep {l : List (List UInt8 × Nd)} {rest : List UInt8} (ho : okT rest) : okS (l.flatMap (fun p => 124 :: p.1) ++ rest) := by
  cases l with
  | nil => exact ho.1
  | cons p l =>
    rw [List.flatMap_cons, List.append_assoc, List.cons_append]
    refine ⟨⟨(by decide : letterB 124 = false), ?_⟩, ?_⟩
    · rw [skipB_cons (by decide)]; exact (by decide : opM 124 = none)
    · rw [skipB_cons (by decide)]; exact (by decide : beginsB 124 = false)
theorem altsLoop_all {al : Al} {rest : List UInt8} (ho : okT rest) : ∀ (l : List (List UInt8 × Nd)), (∀ p ∈ l, PS al p.1 p.2) → ∀ (n : Nat) (acc : List Nd) (r : List UInt8), skipB r = skipB (l.flatMap (fun p => 124 :: p.1) ++ rest) → l.length < n → altsLoop al n acc r = .ok (oneM 5 (acc ++ l.map (·.2))) (skipB rest)
  | _, _, 0, _, _, _, h => absurd h (Nat.not_lt_zero _)
  | [], _, n + 1, acc, r, hr, _ => by
    unfold altsLoop
    rw [hr, List.flatMap_nil, List.nil_append, if_neg ho.2, List.map_nil, List.append_nil]
  | p :: l, hl, n + 1, acc, r, hr, hn => by
    have hp := hl p (by simp)
    rw [List.flatMap_cons, List.append_assoc, List.cons_append, skipB_cons (by decide)] at hr
    unfold altsLoop
    rw [hr, List.headD_cons, if_pos rfl, List.tail_cons]
    obtain ⟨r', h1, h2⟩ := hp _ (okS_sep (l := l) ho)
    rw [h1]
    dsimp only
    rw [altsLoop_all ho l (fun q hq => hl q (by simp [hq])) n _ r' h2 (by simpa using hn), List.append_assoc]
    rfl
theorem alts_many {al : Al} {p : List UInt8 × Nd} {l : List (List UInt8 × Nd)} (hne : l ≠ []) (hp : PS al p.1 p.2) (hl : ∀ p ∈ l, PS al p.1 p.2) : PT al (p.1 ++ l.flatMap (fun p => 124 :: p.1)) (.mk 5 0 (p.2 :: l.map (·.2))) := fun rest ho => by
  obtain ⟨r', h1, h2⟩ := hp _ (okS_sep (l := l) ho)
  have hlen : l.length < r'.length + 1 := by
    have hs := congrArg List.length h2
    have h3 := skipB_le r'
    cases l with
    | nil => exact absurd rfl hne
    | cons q l =>
      rw [List.flatMap_cons, List.append_assoc, List.cons_append, skipB_cons (by decide)] at hs
      have h4 := flat_ge 124 l
      simp only [List.length_append, List.length_cons] at hs ⊢
      omega
  unfold altsL
  rw [List.append_assoc, h1]
  dsimp only
  rw [altsLoop_all ho l hl (r'.length + 1) _ r' h2 hlen]
  rw [oneM_many (by
    cases l with
    | nil => exact absurd rfl hne
    | cons q l => simp)]
  rfl
theorem okT_close (rest : List UInt8) : okT (41 :: rest) := by
  have h := skipB_cons (a := 41) (r := rest) (by decide)
  refine ⟨⟨⟨(by decide : letterB 41 = false), ?_⟩, ?_⟩, ?_⟩
  · rw [h]; exact (by decide : opM 41 = none)
  · rw [h]; exact (by decide : beginsB 41 = false)
  · rw [h]; exact (by decide : (41 : UInt8) ≠ 124)
theorem okT_nil : okT [] := ⟨⟨⟨(by decide : letterB 0 = false), (by decide : opM 0 = none)⟩, (by decide : beginsB 0 = false)⟩, (by decide : (0 : UInt8) ≠ 124)⟩
theorem bracket_atom {f : List UInt8 → PR} {x : List UInt8} {t : Nd} (h : ∀ rest, okT rest → f (x ++ rest) = .ok t (skipB rest)) : PA (some f) (40 :: (x ++ [41])) t := fun rest _ => by
  unfold atomM
  rw [List.cons_append, skipB_cons (by decide)]
  rw [List.headD_cons, if_neg (by decide), if_neg (by decide), if_neg (by decide), if_pos rfl]
  unfold bracketsM
  dsimp only
  rw [List.tail_cons, List.append_assoc, List.singleton_append, h _ (okT_close rest)]
  dsimp only
  rw [skipB_skipB, skipB_cons (by decide), List.headD_cons, if_pos rfl, List.tail_cons]
theorem headD_app {s rest : List UInt8} (h : s ≠ []) : (s ++ rest).headD 0 = s.headD 0 := by
  cases s with
  | nil => exact absurd rfl h
  | cons a s => rfl
theorem letter_begins {b : UInt8} (h : letterB b = true) : beginsB b = true := by unfold beginsB; rw [h]; rfl
theorem name_head {c : Int} (h : 0 ≤ c ∧ c < 36) : letterB ((nameM c).headD 0) = true := by
  obtain ⟨h1, h2, _⟩ := nameM_facts h
  cases hn : nameM c with
  | nil => exact absurd hn h1
  | cons a s => exact h2 a (by rw [hn]; simp)
theorem class_all {c : Int} (h : 0 ≤ c ∧ c < 36) (k : Int) (rest : List UInt8) (ho : okA rest) : classM k (nameM c ++ rest) = .ok (.mk k c []) rest := by
  obtain ⟨h1, h2, h3, h4⟩ := nameM_facts h
  have hh := name_head h
  obtain ⟨g1, g2⟩ := head_app (rest := rest) (letter_begins hh)
  obtain ⟨t1, t2⟩ := letter_app h2 ho
  unfold classM
  rw [g1, g2, if_pos hh, t1, h4]
  dsimp only
  rw [t2, Int.toNat_of_nonneg h.1]
theorem class_atom {al : Al} {c : Int} (h : 0 ≤ c ∧ c < 36) : PA al (nameM c) (.mk 0 c []) := fun rest ho => by
  obtain ⟨h1, h2, h3, h4⟩ := nameM_facts h
  have hh := name_head h
  obtain ⟨g1, g2⟩ := head_app (rest := rest) (letter_begins hh)
  obtain ⟨t1, t2⟩ := letter_app h2 ho
  unfold atomM
  rw [g1, g2, if_pos hh]
  unfold namedM
  rw [t1, if_neg h3, class_all h 0 rest ho]
theorem any_atom {al : Al} : PA al [97, 110, 121] (.mk 1 0 []) := fun rest ho => by
  obtain ⟨t1, t2⟩ := letter_app (s := [97, 110, 121]) (by decide) ho
  obtain ⟨g1, g2⟩ := head_app (x := [97, 110, 121]) (rest := rest) (by decide)
  unfold atomM
  rw [g1, g2, if_pos (by decide)]
  unfold namedM
  rw [t1, if_pos rfl, t2]
theorem not_atom {al : Al} {c : Int} (h : 0 ≤ c ∧ c < 36) : PA al (126 :: nameM c) (.mk 2 c []) := fun rest ho => by
  unfold atomM
  rw [List.cons_append, skipB_cons (by decide)]
  rw [List.headD_cons, if_neg (by decide), if_pos rfl, List.tail_cons, class_all h 2 rest ho]
theorem start_atom {al : Al} : PA al [94] (.mk 3 0 []) := fun rest ho => by
  unfold atomM
  rw [List.singleton_append, skipB_cons (by decide)]
  rw [List.headD_cons, if_neg (by decide), if_neg (by decide), if_pos rfl, List.tail_cons]
end Go.Proofs.YtmohcfjopaccdaaGreatDoor
