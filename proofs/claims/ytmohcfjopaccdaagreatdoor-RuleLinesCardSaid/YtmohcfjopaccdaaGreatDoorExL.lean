/- Plain: the reader's model, with names that are known. -/
import Derived.Test.YtmohcfjopaccdaaGreatDoorExJ
namespace Go.Proofs.YtmohcfjopaccdaaGreatDoor
open Go.VL Go.Proofs
set_option maxRecDepth 10000

def mayM (s : List UInt8) (m : List UInt8 × Nd) : Bool := (m.1 == s && rightM m.2) && (m.2.kind != 9)
def namedK (kn : Kn) (r : List UInt8) : PR :=
  if r.takeWhile letterB = [97, 110, 121] then .ok (.mk 1 0 []) (r.dropWhile letterB)
  else match kn.reverse.find? (mayM (r.takeWhile letterB)) with
    | some m => .ok m.2 (r.dropWhile letterB)
    | none => classM 0 r
def atomK (kn : Kn) (al : Option (List UInt8 → PR)) (r0 : List UInt8) : PR :=
  if letterB ((skipB r0).headD 0) = true then namedK kn (skipB r0)
  else if (skipB r0).headD 0 = 126 then classM 2 (skipB r0).tail
  else if (skipB r0).headD 0 = 94 then .ok (.mk 3 0 []) (skipB r0).tail
  else if (skipB r0).headD 0 = 40 then bracketsM al (skipB r0)
  else .bad (skipB r0).length 4
def oftenK (kn : Kn) (al : Option (List UInt8 → PR)) (r0 : List UInt8) : PR :=
  match atomK kn al r0 with
  | .bad p e => .bad p e
  | .ok t r1 =>
    match opM ((skipB r1).headD 0) with
    | some k => .ok (.mk (6 + (k : Nat)) 0 [t]) (skipB r1).tail
    | none => .ok t (skipB r1)
def seqLoopK (kn : Kn) (al : Option (List UInt8 → PR)) : Nat → List Nd → List UInt8 → PR
  | 0, acc, r => .ok (oneM 4 acc) r
  | n + 1, acc, r =>
    if beginsB ((skipB r).headD 0) = true then
      match oftenK kn al (skipB r) with
      | .bad p e => .bad p e
      | .ok t r2 => seqLoopK kn al n (acc ++ [t]) r2
    else .ok (oneM 4 acc) (skipB r)
def seqK (kn : Kn) (al : Option (List UInt8 → PR)) (r : List UInt8) : PR :=
  match oftenK kn al r with
  | .bad p e => .bad p e
  | .ok t r1 => seqLoopK kn al (r1.length + 1) [t] r1
def altsLoopK (kn : Kn) (al : Option (List UInt8 → PR)) : Nat → List Nd → List UInt8 → PR
  | 0, acc, r => .ok (oneM 5 acc) r
  | n + 1, acc, r =>
    if (skipB r).headD 0 = 124 then
      match seqK kn al (skipB r).tail with
      | .bad p e => .bad p e
      | .ok t r2 => altsLoopK kn al n (acc ++ [t]) r2
    else .ok (oneM 5 acc) (skipB r)
def altsLK (kn : Kn) (al : Option (List UInt8 → PR)) (r : List UInt8) : PR :=
  match seqK kn al r with
  | .bad p e => .bad p e
  | .ok t r1 => altsLoopK kn al (r1.length + 1) [t] r1
def altsK (kn : Kn) : Nat → List UInt8 → PR
  | 0 => altsLK kn none
  | d + 1 => altsLK kn (some (altsK kn d))
def exprK (kn : Kn) (l : List UInt8) : XR :=
  if 4096 < l.length then .bad 0 3 else
  match altsK kn 20 l with
  | .bad p e => .bad (l.length - p) e
  | .ok t r => if (skipB r).length ≠ 0 then .bad (l.length - (skipB r).length) 4 else if 2000 < nsz t then .bad 0 3 else .ok t


variable {kn : Kn}
theorem namedK_good (r : List UInt8) (h : letterB (r.headD 0) = true) : Good r (namedK kn r) := by
  unfold namedK
  split
  · exact letter_drop h
  · split
    · exact letter_drop h
    · exact classM_good _ _
theorem atomK_good {al : Option (List UInt8 → PR)} (ha : GoodF al) (r : List UInt8) : Good r (atomK kn al r) := by
  refine Good.mono ?_ (skipB_suf r)
  unfold atomK
  split
  · rename_i h; exact namedK_good _ h
  · split
    · rename_i h
      obtain ⟨g1, g2⟩ := tail_good (r := skipB r) (by rw [h]; decide)
      exact (classM_good _ _).mono g1
    · split
      · rename_i h
        obtain ⟨g1, g2⟩ := tail_good (r := skipB r) (by rw [h]; decide)
        exact ⟨g1, by omega⟩
      · split
        · rename_i h; exact bracketsM_good ha _ (by rw [h]; decide)
        · exact ⟨Nat.le_refl _, by decide⟩
theorem oftenK_good {al : Option (List UInt8 → PR)} (ha : GoodF al) (r : List UInt8) : Good r (oftenK kn al r) := by
  have h := atomK_good (kn := kn) ha r
  unfold oftenK
  cases hf : atomK kn al r with
  | bad p e => rw [hf] at h; exact h
  | ok t r1 =>
    rw [hf] at h
    have h2 := skipB_le r1
    dsimp only
    split
    · rename_i k hk
      obtain ⟨g1, g2⟩ := tail_good (opM_ne hk)
      exact ⟨(g1.trans (skipB_suf r1)).trans h.1, by have := h.2; omega⟩
    · exact ⟨(skipB_suf r1).trans h.1, by have := h.2; omega⟩
theorem seqLoopK_good {al : Option (List UInt8 → PR)} (ha : GoodF al) : ∀ (n : Nat) (acc : List Nd) (r : List UInt8), Good0 r (seqLoopK kn al n acc r)
  | 0, acc, r => List.suffix_refl r
  | n + 1, acc, r => by
    unfold seqLoopK
    split
    · have h := (oftenK_good (kn := kn) ha (skipB r)).mono (skipB_suf r)
      cases hf : oftenK kn al (skipB r) with
      | bad p e => rw [hf] at h; exact h
      | ok t r2 =>
        rw [hf] at h
        have ih := seqLoopK_good ha n (acc ++ [t]) r2
        dsimp only
        cases hq : seqLoopK kn al n (acc ++ [t]) r2 with
        | bad p e => rw [hq] at ih; exact ⟨by have := ih.1; have := h.2; omega, ih.2⟩
        | ok t r3 => rw [hq] at ih; exact List.IsSuffix.trans ih h.1
    · exact skipB_suf r
theorem seqK_good {al : Option (List UInt8 → PR)} (ha : GoodF al) (r : List UInt8) : Good r (seqK kn al r) := by
  have h := oftenK_good (kn := kn) ha r
  unfold seqK
  cases hf : oftenK kn al r with
  | bad p e => rw [hf] at h; exact h
  | ok t r1 =>
    rw [hf] at h
    have ih := seqLoopK_good (kn := kn) ha (r1.length + 1) [t] r1
    dsimp only
    cases hq : seqLoopK kn al (r1.length + 1) [t] r1 with
    | bad p e => rw [hq] at ih; exact ⟨by have := ih.1; have := h.2; omega, ih.2⟩
    | ok t r3 => rw [hq] at ih; exact ⟨List.IsSuffix.trans ih h.1, by have := List.IsSuffix.length_le ih; have := h.2; omega⟩
theorem altsLoopK_good {al : Option (List UInt8 → PR)} (ha : GoodF al) : ∀ (n : Nat) (acc : List Nd) (r : List UInt8), Good0 r (altsLoopK kn al n acc r)
  | 0, acc, r => List.suffix_refl r
  | n + 1, acc, r => by
    unfold altsLoopK
    split
    · rename_i hc
      obtain ⟨g1, g2⟩ := tail_good (r := skipB r) (by rw [hc]; decide)
      have h := ((seqK_good (kn := kn) ha (skipB r).tail).mono g1).mono (skipB_suf r)
      cases hf : seqK kn al (skipB r).tail with
      | bad p e => rw [hf] at h; exact h
      | ok t r2 =>
        rw [hf] at h
        have ih := altsLoopK_good ha n (acc ++ [t]) r2
        dsimp only
        cases hq : altsLoopK kn al n (acc ++ [t]) r2 with
        | bad p e => rw [hq] at ih; exact ⟨by have := ih.1; have := h.2; omega, ih.2⟩
        | ok t r3 => rw [hq] at ih; exact List.IsSuffix.trans ih h.1
    · exact skipB_suf r
theorem altsLK_good {al : Option (List UInt8 → PR)} (ha : GoodF al) (r : List UInt8) : Good r (altsLK kn al r) := by
  have h := seqK_good (kn := kn) ha r
  unfold altsLK
  cases hf : seqK kn al r with
  | bad p e => rw [hf] at h; exact h
  | ok t r1 =>
    rw [hf] at h
    have ih := altsLoopK_good (kn := kn) ha (r1.length + 1) [t] r1
    dsimp only
    cases hq : altsLoopK kn al (r1.length + 1) [t] r1 with
    | bad p e => rw [hq] at ih; exact ⟨by have := ih.1; have := h.2; omega, ih.2⟩
    | ok t r3 => rw [hq] at ih; exact ⟨List.IsSuffix.trans ih h.1, by have := List.IsSuffix.length_le ih; have := h.2; omega⟩
theorem altsK_good : ∀ (d : Nat) (r : List UInt8), Good r (altsK kn d r)
  | 0, r => altsLK_good (fun f e => by cases e) r
  | d + 1, r => altsLK_good (fun f e r => by cases e; exact altsK_good d r) r

theorem namedK_some {r : List UInt8} {m : List UInt8 × Nd} (ha : ¬ r.takeWhile letterB = [97, 110, 121]) (h : kn.reverse.find? (mayM (r.takeWhile letterB)) = some m) : namedK kn r = .ok m.2 (r.dropWhile letterB) := by
  unfold namedK; rw [if_neg ha, h]
theorem namedK_none {r : List UInt8} (ha : ¬ r.takeWhile letterB = [97, 110, 121]) (h : kn.reverse.find? (mayM (r.takeWhile letterB)) = none) : namedK kn r = classM 0 r := by
  unfold namedK; rw [if_neg ha, h]
/-! No names known: the same. -/
theorem namedK_nil (r : List UInt8) : namedK [] r = namedM r := rfl
theorem atomK_nil (al : Option (List UInt8 → PR)) (r : List UInt8) : atomK [] al r = atomM al r := rfl
theorem oftenK_nil (al : Option (List UInt8 → PR)) (r : List UInt8) : oftenK [] al r = oftenM al r := by
  unfold oftenK oftenM; rw [atomK_nil]; cases atomM al r <;> rfl
theorem seqLoopK_nil (al : Option (List UInt8 → PR)) : ∀ (n : Nat) (acc : List Nd) (r : List UInt8), seqLoopK [] al n acc r = seqLoop al n acc r
  | 0, _, _ => rfl
  | n + 1, acc, r => by
    unfold seqLoopK seqLoop
    rw [oftenK_nil]
    split
    · cases oftenM al (skipB r) with
      | bad p e => rfl
      | ok t r2 => exact seqLoopK_nil al n _ _
    · rfl
theorem seqK_nil (al : Option (List UInt8 → PR)) (r : List UInt8) : seqK [] al r = seqM al r := by
  unfold seqK seqM
  rw [oftenK_nil]
  cases oftenM al r with
  | bad p e => rfl
  | ok t r2 => exact seqLoopK_nil al _ _ _
theorem altsLoopK_nil (al : Option (List UInt8 → PR)) : ∀ (n : Nat) (acc : List Nd) (r : List UInt8), altsLoopK [] al n acc r = altsLoop al n acc r
  | 0, _, _ => rfl
  | n + 1, acc, r => by
    unfold altsLoopK altsLoop
    rw [seqK_nil]
    split
    · cases seqM al (skipB r).tail with
      | bad p e => rfl
      | ok t r2 => exact altsLoopK_nil al n _ _
    · rfl
theorem altsLK_nil (al : Option (List UInt8 → PR)) : altsLK [] al = altsL al := by
  funext r
  unfold altsLK altsL
  rw [seqK_nil]
  cases seqM al r with
  | bad p e => rfl
  | ok t r2 => exact altsLoopK_nil al _ _ _
theorem altsK_nil : ∀ d, altsK [] d = altsM d
  | 0 => altsLK_nil none
  | d + 1 => by rw [altsK, altsM, altsK_nil d, altsLK_nil]
theorem exprK_nil (l : List UInt8) : exprK [] l = exprM l := by unfold exprK exprM; rw [altsK_nil]; split; rfl; cases altsM 20 l <;> rfl
end Go.Proofs.YtmohcfjopaccdaaGreatDoor
