/- Plain: a right tree's text, read again, is that tree; printing of meanings is injective. -/
import Derived.Test.YtmohcfjopaccdaaGreatDoorRsP
namespace Go.Proofs.YtmohcfjopaccdaaGreatDoor
open Go.VL Go.Proofs
set_option maxRecDepth 10000

mutual
/-- How deep brackets stand in one another in a tree's text. -/
def depM : Nd → Nat
  | .mk k _ l => if k = 4 then depL [4, 5] l else if k = 5 then depL [5] l else if k = 6 ∨ k = 7 ∨ k = 8 then depL [4, 5, 6, 7, 8] l else 0
def depL (ks : List Int) : List Nd → Nat
  | [] => 0
  | t :: r => max (if t.kind ∈ ks then depM t + 1 else depM t) (depL ks r)
end
def depT (ks : List Int) (t : Nd) : Nat := if t.kind ∈ ks then depM t + 1 else depM t
theorem depL_mem (ks : List Int) : ∀ (l : List Nd), ∀ t ∈ l, depT ks t ≤ depL ks l
  | [], t, h => absurd h (by simp)
  | a :: r, t, h => by
    rw [depL]
    rcases List.mem_cons.1 h with rfl | h
    · exact Nat.le_max_left _ _
    · exact Nat.le_trans (depL_mem ks r t h) (Nat.le_max_right _ _)
theorem fitsL_mem : ∀ (l : List Nd), fitsL l = true → ∀ t ∈ l, fitsM t true = true
  | [], _, t, h => absurd h (by simp)
  | a :: r, hf, t, h => by
    rw [fitsL, Bool.and_eq_true] at hf
    rcases List.mem_cons.1 h with rfl | h
    · exact hf.1
    · exact fitsL_mem r hf.2 t h
theorem nszL_mem : ∀ (l : List Nd), ∀ t ∈ l, nsz t ≤ nszL l
  | [], t, h => absurd h (by simp)
  | a :: r, t, h => by
    rw [nszL]
    rcases List.mem_cons.1 h with rfl | h
    · omega
    · have := nszL_mem r t h; omega
theorem head_cases {k c : Int} {n : Nat} {wi : Bool} (h : headOK k c n wi = true) :
    (k = 0 ∧ n = 0 ∧ 0 ≤ c ∧ c < 36) ∨ (k = 1 ∧ n = 0 ∧ c = 0) ∨ (k = 2 ∧ n = 0 ∧ 0 ≤ c ∧ c < 36) ∨ (k = 3 ∧ n = 0 ∧ c = 0) ∨ (k = 4 ∧ 2 ≤ n ∧ c = 0) ∨ (k = 5 ∧ 2 ≤ n ∧ c = 0) ∨ (k = 6 ∧ n = 1 ∧ c = 0) ∨ (k = 7 ∧ n = 1 ∧ c = 0) ∨ (k = 8 ∧ n = 1 ∧ c = 0) ∨ (k = 9 ∧ n = 0 ∧ c = 0 ∧ wi = false) := by
  have hkk : k = 0 ∨ k = 1 ∨ k = 2 ∨ k = 3 ∨ k = 4 ∨ k = 5 ∨ k = 6 ∨ k = 7 ∨ k = 8 ∨ k = 9 := by
    simp only [headOK, Bool.and_eq_true, Bool.not_eq_true', Bool.or_eq_false_iff, decide_eq_false_iff_not] at h
    omega
  rcases hkk with rfl | rfl | rfl | rfl | rfl | rfl | rfl | rfl | rfl | rfl <;> simp [headOK, least, most, named] at h <;> (try simp) <;> (first | omega | (obtain ⟨h1, h2⟩ := h; subst h1; simp; omega))
def alD : Nat → Al
  | 0 => none
  | d + 1 => some (altsM d)
theorem altsM_alD : ∀ d, altsM d = altsL (alD d)
  | 0 => rfl
  | _ + 1 => rfl
structure G (d : Nat) (t : Nd) : Prop where
  hd : beginsB ((textM t).headD 0) = true
  pa : t.kind ≤ 3 → PA (alD d) (textM t) t
  po : t.kind ≠ 4 ∧ t.kind ≠ 5 → PO (alD d) (textM t) t
  ps : t.kind ≠ 5 → PS (alD d) (textM t) t
  pt : PT (alD d) (textM t) t
theorem G.atom {d : Nat} {t : Nd} (hd : beginsB ((textM t).headD 0) = true) (h : PA (alD d) (textM t) t) : G d t := ⟨hd, fun _ => h, fun _ => h.often, fun _ => h.often.seq, h.often.seq.alts⟩
theorem told_bracket {d : Nat} {t : Nd} {ks : List Int} (hG : ∀ d, depM t ≤ d → G d t) (hd : depT ks t ≤ d) (hm : t.kind ∈ ks) : PA (alD d) (toldM ks t) t := by
  unfold depT at hd
  rw [if_pos hm] at hd
  obtain ⟨d, rfl⟩ : ∃ e, d = e + 1 := ⟨d - 1, by omega⟩
  unfold toldM
  rw [if_pos hm]
  exact bracket_atom (fun rest ho => by rw [altsM_alD]; exact (hG d (by omega)).pt rest ho)
theorem told_plain {d : Nat} {t : Nd} {ks : List Int} (hG : ∀ d, depM t ≤ d → G d t) (hd : depT ks t ≤ d) (hm : t.kind ∉ ks) : toldM ks t = textM t ∧ G d t := by
  unfold depT at hd
  rw [if_neg hm] at hd
  exact ⟨by unfold toldM; rw [if_neg hm], hG d hd⟩
theorem told_head {t : Nd} {ks : List Int} (h : beginsB ((textM t).headD 0) = true) : beginsB ((toldM ks t).headD 0) = true := by
  unfold toldM
  split
  · rfl
  · exact h
theorem told_po {d : Nat} {t : Nd} (hG : ∀ d, depM t ≤ d → G d t) (hd : depT [4, 5] t ≤ d) : PO (alD d) (toldM [4, 5] t) t := by
  by_cases hm : t.kind ∈ ([4, 5] : List Int)
  · exact (told_bracket hG hd hm).often
  · obtain ⟨h1, h2⟩ := told_plain hG hd hm
    rw [h1]
    simp at hm
    exact h2.po hm
theorem told_ps {d : Nat} {t : Nd} (hG : ∀ d, depM t ≤ d → G d t) (hd : depT [5] t ≤ d) : PS (alD d) (toldM [5] t) t := by
  by_cases hm : t.kind ∈ ([5] : List Int)
  · exact (told_bracket hG hd hm).often.seq
  · obtain ⟨h1, h2⟩ := told_plain hG hd hm
    rw [h1]
    simp at hm
    exact h2.ps hm
theorem told_pa {d : Nat} {t : Nd} (hf : fitsM t true = true) (hG : ∀ d, depM t ≤ d → G d t) (hd : depT [4, 5, 6, 7, 8] t ≤ d) : PA (alD d) (toldM [4, 5, 6, 7, 8] t) t := by
  by_cases hm : t.kind ∈ ([4, 5, 6, 7, 8] : List Int)
  · exact told_bracket hG hd hm
  · obtain ⟨h1, h2⟩ := told_plain hG hd hm
    rw [h1]
    obtain ⟨k, c, l⟩ := t
    simp only [fitsM, Bool.and_eq_true] at hf
    have := head_cases hf.1
    simp only [Bool.true_eq_false, and_false, or_false] at this
    simp [Nd.kind] at hm
    exact h2.pa (by simp only [Nd.kind]; omega)
theorem joinM_pairs (s : UInt8) (ks : List Int) (a : Nd) (r : List Nd) : joinM [s] (toldL ks (a :: r)) = toldM ks a ++ (r.map fun k => (toldM ks k, k)).flatMap (fun p => s :: p.1) := by
  rw [toldL_map, List.map_cons, joinM, List.flatMap_map, List.flatMap_map]
  rfl
theorem pairs_snd (ks : List Int) (r : List Nd) : (r.map fun k => (toldM ks k, k)).map (·.2) = r := by
  rw [List.map_map]; simp [Function.comp_def]
theorem starG {d : Nat} {a : Nd} {K : Int} {k : Nat} {c : UInt8} (hK : K = 6 + (k : Int)) (hc : opM c = some k) (htx : textM (.mk K 0 [a]) = toldM [4, 5, 6, 7, 8] a ++ [c]) (hdp : depM (.mk K 0 [a]) = max (depT [4, 5, 6, 7, 8] a) 0) (hf : fitsM a true = true) (hG : ∀ d, depM a ≤ d → G d a) (hd : depM (.mk K 0 [a]) ≤ d) : G d (.mk K 0 [a]) := by
  have hb := told_head (ks := [4, 5, 6, 7, 8]) (hG (depM a) (Nat.le_refl _)).hd
  have hpa := told_pa hf hG (d := d) (by rw [hdp] at hd; exact Nat.le_trans (Nat.le_max_left _ _) hd)
  have hpo : PO (alD d) (textM (.mk K 0 [a])) (.mk K 0 [a]) := by
    rw [htx]
    subst hK
    exact hpa.star hc
  refine ⟨?_, fun h => ?_, fun _ => hpo, fun _ => hpo.seq, hpo.seq.alts⟩
  · rw [htx, (head_app hb).2]; exact hb
  · simp only [Nd.kind] at h; omega
theorem parse_all : ∀ (n : Nat) (t : Nd), nsz t ≤ n → fitsM t true = true → ∀ d, depM t ≤ d → G d t
  | 0, t, hn, _, _, _ => by have := nsz_pos t; omega
  | n + 1, .mk k c kids, hn, hf, d, hd => by
    simp only [nsz] at hn
    simp only [fitsM, Bool.and_eq_true] at hf
    obtain ⟨hh, hk⟩ := hf
    have ih : ∀ t ∈ kids, fitsM t true = true ∧ ∀ d, depM t ≤ d → G d t := fun t ht => by
      have h1 := fitsL_mem kids hk t ht
      exact ⟨h1, parse_all n t (by have := nszL_mem kids t ht; omega) h1⟩
    rcases head_cases hh with ⟨rfl, hl, hc⟩ | ⟨rfl, hl, rfl⟩ | ⟨rfl, hl, hc⟩ | ⟨rfl, hl, rfl⟩ | ⟨rfl, hl, rfl⟩ | ⟨rfl, hl, rfl⟩ | ⟨rfl, hl, rfl⟩ | ⟨rfl, hl, rfl⟩ | ⟨rfl, hl, rfl⟩ | ⟨rfl, hl, rfl, e⟩
    · obtain rfl : kids = [] := List.eq_nil_of_length_eq_zero hl
      exact G.atom (letter_begins (name_head hc)) (class_atom hc)
    · obtain rfl : kids = [] := List.eq_nil_of_length_eq_zero hl
      exact G.atom (by decide) any_atom
    · obtain rfl : kids = [] := List.eq_nil_of_length_eq_zero hl
      exact G.atom (by rfl) (not_atom hc)
    · obtain rfl : kids = [] := List.eq_nil_of_length_eq_zero hl
      exact G.atom (by decide) start_atom
    · obtain ⟨a, r, rfl⟩ : ∃ a r, kids = a :: r := by cases kids with | nil => simp at hl | cons a r => exact ⟨a, r, rfl⟩
      have hd' : ∀ t ∈ a :: r, depT [4, 5] t ≤ d := fun t ht => Nat.le_trans (depL_mem _ _ t ht) (by rw [depM, if_pos rfl] at hd; exact hd)
      have htx : textM (.mk 4 0 (a :: r)) = toldM [4, 5] a ++ (r.map fun k => (toldM [4, 5] k, k)).flatMap (fun p => 32 :: p.1) := by rw [← joinM_pairs]; rfl
      have hp : ∀ t ∈ a :: r, beginsB ((toldM [4, 5] t).headD 0) = true ∧ PO (alD d) (toldM [4, 5] t) t := fun t ht => by
        obtain ⟨_, g2⟩ := ih t ht
        exact ⟨told_head (g2 (depM t) (Nat.le_refl _)).hd, told_po g2 (hd' t ht)⟩
      have ha := hp a (by simp)
      have hps : PS (alD d) (textM (.mk 4 0 (a :: r))) (.mk 4 0 (a :: r)) := by
        have := seq_many (p := (toldM [4, 5] a, a)) (l := r.map fun k => (toldM [4, 5] k, k)) (by cases r with | nil => simp at hl | cons b r => simp) ha (fun p hp' => by obtain ⟨t, ht, rfl⟩ := List.mem_map.1 hp'; exact hp t (by simp [ht]))
        rw [pairs_snd] at this
        rw [htx]; exact this
      refine ⟨?_, fun h => absurd h (by simp [Nd.kind]), fun h => absurd rfl h.1, fun _ => hps, hps.alts⟩
      rw [htx, (head_app ha.1).2]; exact ha.1
    · obtain ⟨a, r, rfl⟩ : ∃ a r, kids = a :: r := by cases kids with | nil => simp at hl | cons a r => exact ⟨a, r, rfl⟩
      have hd' : ∀ t ∈ a :: r, depT [5] t ≤ d := fun t ht => Nat.le_trans (depL_mem _ _ t ht) (by rw [depM, if_neg (by decide), if_pos rfl] at hd; exact hd)
      have htx : textM (.mk 5 0 (a :: r)) = toldM [5] a ++ (r.map fun k => (toldM [5] k, k)).flatMap (fun p => 124 :: p.1) := by rw [← joinM_pairs]; rfl
      have hp : ∀ t ∈ a :: r, beginsB ((toldM [5] t).headD 0) = true ∧ PS (alD d) (toldM [5] t) t := fun t ht => by
        obtain ⟨_, g2⟩ := ih t ht
        exact ⟨told_head (g2 (depM t) (Nat.le_refl _)).hd, told_ps g2 (hd' t ht)⟩
      have ha := hp a (by simp)
      have hpt : PT (alD d) (textM (.mk 5 0 (a :: r))) (.mk 5 0 (a :: r)) := by
        have := alts_many (p := (toldM [5] a, a)) (l := r.map fun k => (toldM [5] k, k)) (by cases r with | nil => simp at hl | cons b r => simp) ha.2 (fun p hp' => by obtain ⟨t, ht, rfl⟩ := List.mem_map.1 hp'; exact (hp t (by simp [ht])).2)
        rw [pairs_snd] at this
        rw [htx]; exact this
      refine ⟨?_, fun h => absurd h (by simp [Nd.kind]), fun h => absurd rfl h.2, fun h => absurd rfl h, hpt⟩
      rw [htx, (head_app ha.1).2]; exact ha.1
    · obtain ⟨a, rfl⟩ := List.length_eq_one_iff.1 hl
      exact starG (k := 0) (c := 42) rfl rfl (by simp [textM, toldL, toldM, nth_cons0]) rfl (ih a (by simp)).1 (ih a (by simp)).2 hd
    · obtain ⟨a, rfl⟩ := List.length_eq_one_iff.1 hl
      exact starG (k := 1) (c := 43) rfl rfl (by simp [textM, toldL, toldM, nth1_3]) rfl (ih a (by simp)).1 (ih a (by simp)).2 hd
    · obtain ⟨a, rfl⟩ := List.length_eq_one_iff.1 hl
      exact starG (k := 2) (c := 63) rfl rfl (by simp [textM, toldL, toldM, nth2_3]) rfl (ih a (by simp)).1 (ih a (by simp)).2 hd
    · cases e

/-! Printing is injective. -/
theorem fits_in {t : Nd} (h : fitsM t false = true) (hk : t.kind ≠ 9) : fitsM t true = true := by
  obtain ⟨k, c, l⟩ := t
  simp only [fitsM, Bool.and_eq_true] at h ⊢
  refine ⟨?_, h.2⟩
  have h1 := h.1
  simp only [Nd.kind] at hk
  unfold headOK at h1 ⊢
  rw [beq_eq_false_iff_ne.2 hk] at h1 ⊢
  simpa using h1
theorem textM_inj {t s : Nd} (ht : fitsM t true = true) (hs : fitsM s true = true) (h : textM t = textM s) : t = s := by
  have h1 := (parse_all (nsz t) t (Nat.le_refl _) ht (max (depM t) (depM s)) (Nat.le_max_left _ _)).pt [] okT_nil
  have h2 := (parse_all (nsz s) s (Nat.le_refl _) hs (max (depM t) (depM s)) (Nat.le_max_right _ _)).pt [] okT_nil
  rw [h, h2] at h1
  exact (PR.ok.inj h1).1.symm
/-- A right tree is none at all, or has a text. -/
theorem right_cases {t : Nd} (h : rightM t = true) : (t = .mk 9 0 [] ∧ printM t = []) ∨ (fitsM t true = true ∧ printM t = textM t ∧ beginsB ((textM t).headD 0) = true) := by
  have h0 := h
  simp only [rightM, Bool.and_eq_true, decide_eq_true_eq] at h
  by_cases hk : t.kind = 9
  · left
    obtain ⟨k, c, l⟩ := t
    simp only [Nd.kind] at hk
    subst hk
    have hf := h.2
    simp only [fitsM, Bool.and_eq_true] at hf
    have hc := head_cases hf.1
    have : l.length = 0 ∧ c = 0 := by omega
    obtain rfl := List.eq_nil_of_length_eq_zero this.1
    obtain rfl := this.2
    exact ⟨rfl, by unfold printM; rw [if_pos h0]; rfl⟩
  · right
    have hf := fits_in h.2 hk
    exact ⟨hf, by unfold printM; rw [if_pos h0], (parse_all (nsz t) t (Nat.le_refl _) hf _ (Nat.le_refl _)).hd⟩
theorem printM_inj {t s : Nd} (ht : rightM t = true) (hs : rightM s = true) (h : printM t = printM s) : t = s := by
  rcases right_cases ht with ⟨rfl, h1⟩ | ⟨h1, h2, h3⟩ <;> rcases right_cases hs with ⟨rfl, g1⟩ | ⟨g1, g2, g3⟩
  · rfl
  · rw [h1, g2] at h; rw [← h] at g3; exact absurd g3 (by decide)
  · rw [h2, g1] at h; rw [h] at h3; exact absurd h3 (by decide)
  · exact textM_inj h1 g1 (by rw [← h2, ← g2, h])
/-! The signs of a text. -/
def okC (b : UInt8) : Prop := b ≠ 33 ∧ b ≠ 47 ∧ b ≠ 10 ∧ b ≠ 35
theorem letter_okC {b : UInt8} (h : letterB b = true) : okC b ∧ b ≠ 32 := by
  refine ⟨⟨?_, ?_, ?_, ?_⟩, ?_⟩ <;> (rintro rfl; revert h; decide)
theorem name_okC (c : Int) : ∀ b ∈ nameM c, okC b ∧ b ≠ 32 := fun b hb => by
  by_cases h : 0 ≤ c ∧ c < 36
  · exact letter_okC ((nameM_facts h).2.1 b hb)
  · unfold nameM at hb; rw [if_neg h] at hb; simp at hb
theorem join_mem {s b : UInt8} : ∀ {l : List (List UInt8)}, b ∈ joinM [s] l → b = s ∨ ∃ x ∈ l, b ∈ x
  | [], h => by simp [joinM] at h
  | a :: r, h => by
    rw [joinM, List.mem_append] at h
    rcases h with h | h
    · exact .inr ⟨a, by simp, h⟩
    · obtain ⟨x, hx, hb⟩ := List.mem_flatMap.1 h
      rcases List.mem_append.1 hb with hb | hb
      · exact .inl (by simpa using hb)
      · exact .inr ⟨x, by simp [hx], hb⟩
mutual
theorem text_okC : ∀ (t : Nd), ∀ b ∈ textM t, okC b
  | .mk k c l, b, hb => by
    have ih := fun ks => told_okC ks l
    simp only [textM] at hb
    split at hb
    · exact (name_okC c b hb).1
    · split at hb
      · revert b; unfold okC; decide
      · split at hb
        · rcases List.mem_cons.1 hb with rfl | hb
          · unfold okC; decide
          · exact (name_okC c b hb).1
        · split at hb
          · revert b; unfold okC; decide
          · split at hb
            · rcases join_mem hb with rfl | ⟨x, hx, hb⟩
              · unfold okC; decide
              · exact ih _ x hx b hb
            · split at hb
              · rcases join_mem hb with rfl | ⟨x, hx, hb⟩
                · unfold okC; decide
                · exact ih _ x hx b hb
              · split at hb
                · rename_i hk
                  rcases List.mem_append.1 hb with hb | hb
                  · have h6 := ih [4, 5, 6, 7, 8]
                    cases hq : toldL [4, 5, 6, 7, 8] l with
                    | nil => rw [hq] at hb; simp at hb
                    | cons x r => rw [hq] at hb h6; exact h6 x (by simp) b hb
                  · rcases hk with rfl | rfl | rfl
                    · simp [nth_cons0] at hb; subst hb; unfold okC; decide
                    · simp [nth1_3] at hb; subst hb; unfold okC; decide
                    · simp [nth2_3] at hb; subst hb; unfold okC; decide
                · simp at hb
theorem told_okC (ks : List Int) : ∀ (l : List Nd), ∀ x ∈ toldL ks l, ∀ b ∈ x, okC b
  | [], x, hx, _, _ => by simp [toldL] at hx
  | t :: r, x, hx, b, hb => by
    rw [toldL] at hx
    rcases List.mem_cons.1 hx with rfl | hx
    · split at hb
      · rcases List.mem_cons.1 hb with rfl | hb
        · unfold okC; decide
        · rcases List.mem_append.1 hb with hb | hb
          · exact text_okC t b hb
          · simp at hb; subst hb; unfold okC; decide
      · exact text_okC t b hb
    · exact told_okC ks r x hx b hb
end
theorem print_okC (t : Nd) : ∀ b ∈ printM t, okC b := fun b hb => by
  unfold printM at hb
  split at hb
  · exact text_okC t b hb
  · simp at hb
end Go.Proofs.YtmohcfjopaccdaaGreatDoor
