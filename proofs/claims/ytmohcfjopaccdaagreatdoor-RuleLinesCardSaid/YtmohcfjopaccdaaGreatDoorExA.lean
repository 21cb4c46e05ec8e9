/- Chapter 5, in plain words: expressions as trees, in memory and alone; what a text means. -/
import Derived.Test.YtmohcfjopaccdaaGreatDoorGen
import Derived.Test.YtmohcfjopaccdaaGreatDoorVx
namespace Go.VL
theorem Free.weak {O O' : Nat → Nat} {w : World} {v : Value} (h : Free O' w v) (k : ∀ b, O' b = 0 → O b = 0) : Free O w v := fun a n c e hn => ⟨k _ (h a n c e hn).1, (h a n c e hn).2⟩
theorem Upd.z0 {S : Nat → Prop} {O O' : Nat → Nat} {w w' : World} (h : Upd S O w O' w') (b : Nat) (e : O' b = 0) : O b = 0 :=
  Classical.byContradiction fun hne => by have := h.tag b hne; omega
theorem Rng.bound {B : Nat} {O : Nat → Nat} {w : World} (r : Rng B O w) : ∃ T, 0 < T ∧ ∀ b, O b < T := by
  have h : ∀ n, ∃ T, 0 < T ∧ ∀ b, b < n → O b < T := fun n => by
    induction n with
    | zero => exact ⟨1, by omega, fun b hb => by omega⟩
    | succ n ih =>
      obtain ⟨T, h0, hT⟩ := ih
      refine ⟨T + O n + 1, by omega, fun b hb => ?_⟩
      by_cases e : b = n
      · subst e; omega
      · have := hT b (by omega); omega
  obtain ⟨T, h0, hT⟩ := h w.heap.size
  refine ⟨T, h0, fun b => ?_⟩
  by_cases e : O b = 0
  · omega
  · exact hT b (r.rng b e).2
theorem Upd.fgt {S S' : Nat → Prop} {O O2 : Nat → Nat} {w w' : World} (h : Upd S O w O2 w') (hS : ∀ b, S (O b) → S' (O b)) (hz : ¬ S' 0) : Upd S' O w O w' :=
  ⟨h.os, h.tape, h.output, h.size, fun b hb hn => h.blk b hb fun hs => hn (hS b hs), fun _ _ => rfl, fun _ h => .inl h, hz⟩
theorem BlkO.fgt {O O2 : Nat → Nat} {w : World} {i j b : Nat} {cs : Array Value} {E : TypeId} (h : BlkO O2 w j b cs E) (ho : O b = i) : BlkO O w i b cs E := ⟨h.blk, ho⟩
theorem RowT.freeT {α : Type} {enc : α → List Value} {E : TypeId} {sz : Nat} {S : Nat → Prop} {O O' : Nat → Nat} {w w' : World} {T : Nat} {v : Value} {l : List α} (h : RowT enc E sz O' w' T v l) (hT0 : 0 < T) (hT : ∀ b, O b < T) {B : Nat} (r : Rng B O' w') (u : Upd S O w O' w') : Free O w' v := fun a n c e _ => by
  have h1 := h.1.tag a.block (by subst e; rfl)
  have h2 := r.rng a.block (by rw [h1]; omega)
  refine ⟨Classical.byContradiction fun hne => ?_, h2.2⟩
  have := u.tag _ hne
  have := hT a.block
  omega

end Go.VL
namespace Go.Proofs.YtmohcfjopaccdaaGreatDoor
open Go.VL Go.Proofs

inductive Nd where | mk (k c : Int) (kids : List Nd)
instance : Inhabited Nd := ⟨.mk 0 0 []⟩
def Nd.kind : Nd → Int | .mk k _ _ => k
def Nd.cls : Nd → Int | .mk _ c _ => c
def Nd.kids : Nd → List Nd | .mk _ _ l => l
mutual
def nsz : Nd → Nat | .mk _ _ l => nszL l + 1
def nszL : List Nd → Nat | [] => 0 | t :: r => nsz t + nszL r
end
theorem nsz_pos (t : Nd) : 0 < nsz t := by cases t; simp [nsz]
theorem nszL_nth : ∀ (l : List Nd) (i : Nat), i < l.length → nsz (nth l i) ≤ nszL l
  | t :: r, 0, _ => by rw [nth_cons0]; simp [nszL]
  | t :: r, i + 1, h => by rw [nth_cons]; have := nszL_nth r i (by simpa using h); simp only [nszL]; omega
theorem nszL_append : ∀ (a b : List Nd), nszL (a ++ b) = nszL a + nszL b
  | [], b => by simp [nszL]
  | t :: a, b => by simp only [List.cons_append, nszL]; rw [nszL_append a b]; omega
theorem nszL_take (l : List Nd) (i : Nat) : nszL (l.take i) ≤ nszL l := by
  conv => rhs; rw [← List.take_append_drop i l]
  rw [nszL_append]; omega
theorem nszL_succ (l : List Nd) (i : Nat) (h : i < l.length) : nszL (l.take (i + 1)) = nszL (l.take i) + nsz (nth l i) := by
  rw [take_nth h, nszL_append]; simp [nszL]
theorem nszL_len : ∀ (l : List Nd), l.length ≤ nszL l
  | [] => by simp
  | t :: r => by have := nszL_len r; have := nsz_pos t; simp only [nszL, List.length_cons]; omega

/-! In memory. -/
abbrev N3 := Int × Int × Value
@[simp] def encN (x : N3) : List Value := [.int .i64 x.1, .int .i64 x.2.1, x.2.2]
inductive Nt (O : Nat → Nat) (w : World) : Nd → N3 → Prop
  | mk {k c : Int} {kids : List Nd} {v : Value} {xs : List N3} : Sl encN 3 w v xs → Free O w v → kids.length = xs.length → (∀ i, i < xs.length → Nt O w (nth kids i) (nth xs i)) → Nt O w (.mk k c kids) (k, c, v)
theorem Nt.upd {S : Nat → Prop} {O O' : Nat → Nat} {w w' : World} {t : Nd} {x : N3} (h : Nt O w t x) (u : Upd S O w O' w') : Nt O' w' t x := by
  induction h with
  | mk hs hf hl _ ih => exact .mk (hs.upd hf u) (hf.upd u) hl ih
theorem Nt.drew {O : Nat → Nat} {w : World} {t : Nd} {x : N3} (h : Nt O w t x) : Nt O w.drew t x := h.upd (Upd.of_ext (S := fun _ => False) (fun h => h) O (Ext.refl w).drew)
theorem Nt.ext {O : Nat → Nat} {w w' : World} {t : Nd} {x : N3} (h : Nt O w t x) (e : Ext w w') : Nt O w' t x := h.upd (Upd.of_ext (S := fun _ => False) (fun h => h) O e)
theorem Nt.weak {O O' : Nat → Nat} {w : World} {t : Nd} {x : N3} (h : Nt O' w t x) (k : ∀ b, O' b = 0 → O b = 0) : Nt O w t x := by
  induction h with
  | mk hs hf hl _ ih => exact .mk hs (hf.weak k) hl ih
theorem Nt.low {S : Nat → Prop} {O O' : Nat → Nat} {w w0 w' : World} {t : Nd} {x : N3} (h : Nt O' w' t x) (u : Upd S O w O' w0) : Nt O w' t x := h.weak u.z0
theorem Nt.zero {O : Nat → Nat} {w : World} {t : Nd} {x : N3} (h : Nt O w t x) : Nt (fun _ => 0) w t x := h.weak fun _ _ => rfl
theorem Nt.one {O : Nat → Nat} {w : World} {t : Nd} {x : N3} (h : Nt O w t x) : x.2.2.oneCell' = true := by cases h with | mk hs => exact hs.one
theorem Nt.leaf (O : Nat → Nat) (w : World) (k c : Int) : Nt O w (.mk k c []) (k, c, .slice none 0 0) :=
  .mk (xs := []) ⟨⟨none, 0, rfl, Nat.le_refl _, by omega, fun h => absurd rfl h⟩, fun i hi => absurd hi (by simp)⟩ (fun a n c e => by cases e) rfl (fun i hi => absurd hi (by simp))
theorem Nt.kind {O : Nat → Nat} {w : World} {t : Nd} {x : N3} (h : Nt O w t x) : x.1 = t.kind := by cases h; rfl
theorem Nt.cls {O : Nat → Nat} {w : World} {t : Nd} {x : N3} (h : Nt O w t x) : x.2.1 = t.cls := by cases h; rfl
theorem Nt.kids {O : Nat → Nat} {w : World} {t : Nd} {x : N3} (h : Nt O w t x) : ∃ xs : List N3, Sl encN 3 w x.2.2 xs ∧ Free O w x.2.2 ∧ t.kids.length = xs.length ∧ ∀ i, i < xs.length → Nt O w (nth t.kids i) (nth xs i) := by
  cases h with | mk hs hf hl hk => exact ⟨_, hs, hf, hl, hk⟩
/-! What a text means. -/
def letterB (b : UInt8) : Bool := (decide (65 ≤ b.toNat) && decide (b.toNat ≤ 90)) || (decide (97 ≤ b.toNat) && decide (b.toNat ≤ 122))
def skipB (r : List UInt8) : List UInt8 := r.dropWhile (· == 32)
def namesL : List (List UInt8) := [[79, 116, 104, 101, 114], [67, 82], [76, 70], [78, 101, 119, 108, 105, 110, 101], [67, 111, 110, 116, 114, 111, 108], [69, 120, 116, 101, 110, 100], [90, 87, 74], [70, 111, 114, 109, 97, 116], [82, 101, 103, 105, 111, 110, 97, 108], [80, 114, 101, 112, 101, 110, 100], [83, 112, 97, 99, 105, 110, 103], [76], [86], [84], [76, 86], [76, 86, 84], [80, 105, 99, 116], [85, 112, 112, 101, 114], [76, 111, 119, 101, 114], [76, 101, 116, 116, 101, 114], [75, 97, 116, 97, 107, 97, 110, 97], [73, 100, 101, 111, 103, 114, 97, 112, 104], [68, 105, 103, 105, 116], [77, 105, 100, 76, 101, 116, 116, 101, 114], [77, 105, 100, 78, 117, 109], [68, 111, 116], [65, 112, 111, 115, 116, 114, 111, 112, 104, 101], [81, 117, 111, 116, 101], [74, 111, 105, 110, 101, 114], [83, 112, 97, 99, 101], [84, 101, 114, 109], [79, 112, 101, 110], [67, 108, 111, 115, 101], [72, 121, 112, 104, 101, 110], [71, 108, 117, 101], [71, 97, 112]]
def numM (s : List UInt8) : Option Nat := namesL.findIdx? (· == s)
def nameM (c : Int) : List UInt8 := if 0 ≤ c ∧ c < 36 then nth namesL c.toNat else []
/-- What is read: a tree and what is left; or how much is left at the wrong place, and why. -/
inductive PR where
  | ok (t : Nd) (r : List UInt8)
  | bad (p : Nat) (e : Int)
def classM (kind : Int) (r0 : List UInt8) : PR :=
  if letterB ((skipB r0).headD 0) = true then
    match numM ((skipB r0).takeWhile letterB) with
    | none => .bad (skipB r0).length 5
    | some c => .ok (.mk kind (c : Nat) []) ((skipB r0).dropWhile letterB)
  else .bad (skipB r0).length 4
def namedM (r : List UInt8) : PR := if r.takeWhile letterB = [97, 110, 121] then .ok (.mk 1 0 []) (r.dropWhile letterB) else classM 0 r
def bracketsM (al : Option (List UInt8 → PR)) (r : List UInt8) : PR :=
  match al with
  | none => .bad r.length 6
  | some f =>
    match f r.tail with
    | .bad p e => .bad p e
    | .ok t r2 => if (skipB r2).headD 0 = 41 then .ok t (skipB r2).tail else .bad (skipB r2).length 4
def atomM (al : Option (List UInt8 → PR)) (r0 : List UInt8) : PR :=
  if letterB ((skipB r0).headD 0) = true then namedM (skipB r0)
  else if (skipB r0).headD 0 = 126 then classM 2 (skipB r0).tail
  else if (skipB r0).headD 0 = 94 then .ok (.mk 3 0 []) (skipB r0).tail
  else if (skipB r0).headD 0 = 40 then bracketsM al (skipB r0)
  else .bad (skipB r0).length 4
def opM (c : UInt8) : Option Nat := if c = 42 then some 0 else if c = 43 then some 1 else if c = 63 then some 2 else none
def oftenM (al : Option (List UInt8 → PR)) (r0 : List UInt8) : PR :=
  match atomM al r0 with
  | .bad p e => .bad p e
  | .ok t r1 =>
    match opM ((skipB r1).headD 0) with
    | some k => .ok (.mk (6 + (k : Nat)) 0 [t]) (skipB r1).tail
    | none => .ok t (skipB r1)
def beginsB (c : UInt8) : Bool := letterB c || decide (c = 126) || decide (c = 94) || decide (c = 40)
def oneM (k : Int) (l : List Nd) : Nd := if l.length = 1 then nth l 0 else .mk k 0 l
def seqLoop (al : Option (List UInt8 → PR)) : Nat → List Nd → List UInt8 → PR
  | 0, acc, r => .ok (oneM 4 acc) r
  | n + 1, acc, r =>
    if beginsB ((skipB r).headD 0) = true then
      match oftenM al (skipB r) with
      | .bad p e => .bad p e
      | .ok t r2 => seqLoop al n (acc ++ [t]) r2
    else .ok (oneM 4 acc) (skipB r)
def seqM (al : Option (List UInt8 → PR)) (r : List UInt8) : PR :=
  match oftenM al r with
  | .bad p e => .bad p e
  | .ok t r1 => seqLoop al (r1.length + 1) [t] r1
def altsLoop (al : Option (List UInt8 → PR)) : Nat → List Nd → List UInt8 → PR
  | 0, acc, r => .ok (oneM 5 acc) r
  | n + 1, acc, r =>
    if (skipB r).headD 0 = 124 then
      match seqM al (skipB r).tail with
      | .bad p e => .bad p e
      | .ok t r2 => altsLoop al n (acc ++ [t]) r2
    else .ok (oneM 5 acc) (skipB r)
def altsL (al : Option (List UInt8 → PR)) (r : List UInt8) : PR :=
  match seqM al r with
  | .bad p e => .bad p e
  | .ok t r1 => altsLoop al (r1.length + 1) [t] r1
def altsM : Nat → List UInt8 → PR
  | 0 => altsL none
  | d + 1 => altsL (some (altsM d))
inductive XR where
  | ok (t : Nd)
  | bad (p : Nat) (e : Int)
def exprM (l : List UInt8) : XR :=
  if 4096 < l.length then .bad 0 3 else
  match altsM 20 l with
  | .bad p e => .bad (l.length - p) e
  | .ok t r => if (skipB r).length ≠ 0 then .bad (l.length - (skipB r).length) 4 else if 2000 < nsz t then .bad 0 3 else .ok t

/-! What is left is an end of what was there. -/
def Good (r : List UInt8) : PR → Prop
  | .ok _ r' => r' <:+ r ∧ r'.length < r.length
  | .bad p e => p ≤ r.length ∧ e ≠ 0
theorem skipB_suf (r : List UInt8) : skipB r <:+ r := List.dropWhile_suffix _
theorem skipB_le (r : List UInt8) : (skipB r).length ≤ r.length := (skipB_suf r).length_le
theorem tail_good {r : List UInt8} (h : r.headD 0 ≠ 0) : r.tail <:+ r ∧ r.tail.length + 1 = r.length := by
  cases r with
  | nil => simp at h
  | cons a r => exact ⟨List.suffix_cons a r, rfl⟩
theorem Good.mono {r r' : List UInt8} {x : PR} (h : Good r' x) (k : r' <:+ r) : Good r x := by
  have hl := k.length_le
  cases x with
  | ok t q => exact ⟨h.1.trans k, by have := h.2; omega⟩
  | bad p e => exact ⟨Nat.le_trans h.1 hl, h.2⟩
theorem letter_drop {r : List UInt8} (h : letterB (r.headD 0) = true) : r.dropWhile letterB <:+ r ∧ (r.dropWhile letterB).length < r.length := by
  cases r with
  | nil => simp [letterB] at h
  | cons a r =>
    simp only [List.headD_cons] at h
    rw [List.dropWhile_cons_of_pos h]
    exact ⟨(List.dropWhile_suffix _).trans (List.suffix_cons a r), by have := (List.dropWhile_suffix (l := r) letterB).length_le; simp; omega⟩
theorem classM_good (k : Int) (r : List UInt8) : Good r (classM k r) := by
  refine Good.mono ?_ (skipB_suf r)
  unfold classM
  split
  · rename_i h
    split
    · exact ⟨Nat.le_refl _, by decide⟩
    · exact letter_drop h
  · exact ⟨Nat.le_refl _, by decide⟩
theorem namedM_good (r : List UInt8) (h : letterB (r.headD 0) = true) : Good r (namedM r) := by
  unfold namedM
  split
  · exact letter_drop h
  · exact classM_good _ _
def GoodF (al : Option (List UInt8 → PR)) : Prop := ∀ f, al = some f → ∀ r, Good r (f r)
theorem bracketsM_good {al : Option (List UInt8 → PR)} (ha : GoodF al) (r : List UInt8) (h : r.headD 0 ≠ 0) : Good r (bracketsM al r) := by
  obtain ⟨h1, h2⟩ := tail_good h
  unfold bracketsM
  cases al with
  | none => exact ⟨Nat.le_refl _, by decide⟩
  | some f =>
    have h3 := (ha f rfl r.tail).mono h1
    have h4 := ha f rfl r.tail
    dsimp only
    cases hf : f r.tail with
    | bad p e => rw [hf] at h3; exact h3
    | ok t r2 =>
      rw [hf] at h3 h4
      dsimp only
      split
      · rename_i hc
        obtain ⟨g1, g2⟩ := tail_good (r := skipB r2) (by rw [hc]; decide)
        exact ⟨(g1.trans (skipB_suf r2)).trans h3.1, by have := skipB_le r2; have := h3.2; omega⟩
      · exact ⟨by have := skipB_le r2; have := h3.2; omega, by decide⟩
theorem atomM_good {al : Option (List UInt8 → PR)} (ha : GoodF al) (r : List UInt8) : Good r (atomM al r) := by
  refine Good.mono ?_ (skipB_suf r)
  unfold atomM
  split
  · rename_i h; exact namedM_good _ h
  · split
    · rename_i h
      obtain ⟨g1, g2⟩ := tail_good (r := skipB r) (by rw [h]; decide)
      exact (classM_good _ _).mono g1
    · split
      · rename_i h
        obtain ⟨g1, g2⟩ := tail_good (r := skipB r) (by rw [h]; decide)
        exact ⟨g1, by omega⟩
      · split
        · rename_i h; exact bracketsM_good ha _ (by rw [h]; decide)
        · exact ⟨Nat.le_refl _, by decide⟩
theorem opM_ne {c : UInt8} {k : Nat} (h : opM c = some k) : c ≠ 0 := fun e => by subst e; simp [opM] at h
theorem oftenM_good {al : Option (List UInt8 → PR)} (ha : GoodF al) (r : List UInt8) : Good r (oftenM al r) := by
  have h := atomM_good ha r
  unfold oftenM
  cases hf : atomM al r with
  | bad p e => rw [hf] at h; exact h
  | ok t r1 =>
    rw [hf] at h
    have h2 := skipB_le r1
    dsimp only
    split
    · rename_i k hk
      obtain ⟨g1, g2⟩ := tail_good (opM_ne hk)
      exact ⟨(g1.trans (skipB_suf r1)).trans h.1, by have := h.2; omega⟩
    · exact ⟨(skipB_suf r1).trans h.1, by have := h.2; omega⟩
/-- Left, no more than there was. -/
def Good0 (r : List UInt8) : PR → Prop
  | .ok _ r' => r' <:+ r
  | .bad p e => p ≤ r.length ∧ e ≠ 0
theorem seqLoop_good {al : Option (List UInt8 → PR)} (ha : GoodF al) : ∀ (n : Nat) (acc : List Nd) (r : List UInt8), Good0 r (seqLoop al n acc r)
  | 0, acc, r => List.suffix_refl r
  | n + 1, acc, r => by
    unfold seqLoop
    split
    · have h := (oftenM_good ha (skipB r)).mono (skipB_suf r)
      cases hf : oftenM al (skipB r) with
      | bad p e => rw [hf] at h; exact h
      | ok t r2 =>
        rw [hf] at h
        have ih := seqLoop_good ha n (acc ++ [t]) r2
        dsimp only
        cases hq : seqLoop al n (acc ++ [t]) r2 with
        | bad p e => rw [hq] at ih; exact ⟨by have := ih.1; have := h.2; omega, ih.2⟩
        | ok t r3 => rw [hq] at ih; exact List.IsSuffix.trans ih h.1
    · exact skipB_suf r
theorem seqM_good {al : Option (List UInt8 → PR)} (ha : GoodF al) (r : List UInt8) : Good r (seqM al r) := by
  have h := oftenM_good ha r
  unfold seqM
  cases hf : oftenM al r with
  | bad p e => rw [hf] at h; exact h
  | ok t r1 =>
    rw [hf] at h
    have ih := seqLoop_good ha (r1.length + 1) [t] r1
    dsimp only
    cases hq : seqLoop al (r1.length + 1) [t] r1 with
    | bad p e => rw [hq] at ih; exact ⟨by have := ih.1; have := h.2; omega, ih.2⟩
    | ok t r3 => rw [hq] at ih; exact ⟨List.IsSuffix.trans ih h.1, by have := List.IsSuffix.length_le ih; have := h.2; omega⟩
theorem altsLoop_good {al : Option (List UInt8 → PR)} (ha : GoodF al) : ∀ (n : Nat) (acc : List Nd) (r : List UInt8), Good0 r (altsLoop al n acc r)
  | 0, acc, r => List.suffix_refl r
  | n + 1, acc, r => by
    unfold altsLoop
    split
    · rename_i hc
      obtain ⟨g1, g2⟩ := tail_good (r := skipB r) (by rw [hc]; decide)
      have h := ((seqM_good ha (skipB r).tail).mono g1).mono (skipB_suf r)
      cases hf : seqM al (skipB r).tail with
      | bad p e => rw [hf] at h; exact h
      | ok t r2 =>
        rw [hf] at h
        have ih := altsLoop_good ha n (acc ++ [t]) r2
        dsimp only
        cases hq : altsLoop al n (acc ++ [t]) r2 with
        | bad p e => rw [hq] at ih; exact ⟨by have := ih.1; have := h.2; omega, ih.2⟩
        | ok t r3 => rw [hq] at ih; exact List.IsSuffix.trans ih h.1
    · exact skipB_suf r
theorem altsL_good {al : Option (List UInt8 → PR)} (ha : GoodF al) (r : List UInt8) : Good r (altsL al r) := by
  have h := seqM_good ha r
  unfold altsL
  cases hf : seqM al r with
  | bad p e => rw [hf] at h; exact h
  | ok t r1 =>
    rw [hf] at h
    have ih := altsLoop_good ha (r1.length + 1) [t] r1
    dsimp only
    cases hq : altsLoop al (r1.length + 1) [t] r1 with
    | bad p e => rw [hq] at ih; exact ⟨by have := ih.1; have := h.2; omega, ih.2⟩
    | ok t r3 => rw [hq] at ih; exact ⟨List.IsSuffix.trans ih h.1, by have := List.IsSuffix.length_le ih; have := h.2; omega⟩
theorem altsM_good : ∀ (d : Nat) (r : List UInt8), Good r (altsM d r)
  | 0, r => altsL_good (fun f e => by cases e) r
  | d + 1, r => altsL_good (fun f e r => by cases e; exact altsM_good d r) r
end Go.Proofs.YtmohcfjopaccdaaGreatDoor
