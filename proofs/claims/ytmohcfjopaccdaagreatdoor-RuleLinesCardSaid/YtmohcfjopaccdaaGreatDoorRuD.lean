/- Package rule, walked: a line; Parse. -/
import Derived.Test.YtmohcfjopaccdaaGreatDoorRuC
namespace Go.Proofs.YtmohcfjopaccdaaGreatDoor
open Go.VL Go.Proofs
set_option maxRecDepth 10000

def bareL (seg : List UInt8) : List UInt8 := seg.takeWhile (fun b => !(b == 35))
def lineR (seg : List UInt8) : List UInt8 := skipB (bareL seg)
def keyW (r : List UInt8) : Bool := r.takeWhile letterB == [108, 101, 116] || r.takeWhile letterB == [105, 103, 110, 111, 114, 101] || r.takeWhile letterB == [107, 101, 101, 112]
inductive RL where
  | none
  | one (t : R3)
  | bad (p : Nat) (e : Int)
  | other
def readM (n : Nat) (seg : List UInt8) : RL :=
  if (lineR seg).length = 0 then .none
  else if keyW (lineR seg) = true then .other
  else match (if n = 40 then LR.bad 0 3 else ruleM (lineR seg)) with
    | .ok t => .one t
    | .bad p e => .bad ((bareL seg).length - (lineR seg).length + p) e
def PostL (B : Nat) (O : Nat → Nat) (w w' : World) (j jr rb : Nat) (s : LS) (fr : Nat) (xs : List X3) (M : RL) : Prop :=
  ∃ O' s', Upd (fun k => k = j ∨ k = jr) O w O' w' ∧ Rng B O' w' ∧ Rd6 O' w' j rb s' ∧ s'.l = s.l ∧ s'.ig = s.ig ∧ s'.kp = s.kp ∧ s'.mc = s.mc ∧
    match M with
    | .none => s'.e = 0 ∧ RowT encR 50 7 O' w' jr s'.ru xs
    | .one t => s'.e = 0 ∧ ∃ x, RowT encR 50 7 O' w' jr s'.ru (xs ++ [x]) ∧ Rt O' w' t x
    | .bad p e => e ≠ 0 ∧ s'.e = e ∧ s'.bad = (fr : Int) + (p : Int)
    | .other => False
theorem bareL_some {seg : List UInt8} {k : Nat} (h : seg.findIdx? (· == 35) = some k) : bareL seg = seg.take k ∧ k ≤ seg.length := by
  obtain ⟨hk, h1, h2⟩ := List.findIdx?_eq_some_iff_getElem.1 h
  refine ⟨?_, by omega⟩
  unfold bareL
  have e : seg = seg.take k ++ seg.drop k := (List.take_append_drop k seg).symm
  conv => lhs; rw [e]
  rw [List.takeWhile_append_of_pos]
  · rw [List.drop_eq_getElem_cons hk, List.takeWhile_cons_of_neg (by simpa using h1), List.append_nil]
  · intro x hx
    obtain ⟨i, hi, rfl⟩ := List.getElem_of_mem hx
    simp only [List.length_take] at hi
    have := h2 i (by omega)
    simp only [List.getElem_take]
    simpa using this
theorem takeWhile_all {p : UInt8 → Bool} : ∀ {l : List UInt8}, (∀ x ∈ l, p x = true) → l.takeWhile p = l
  | [], _ => rfl
  | a :: l, h => by rw [List.takeWhile_cons_of_pos (h a (by simp)), takeWhile_all fun x hx => h x (by simp [hx])]
theorem bareL_none {seg : List UInt8} (h : seg.findIdx? (· == 35) = none) : bareL seg = seg := by
  have h1 := List.findIdx?_eq_none_iff.1 h
  exact takeWhile_all fun x hx => by simpa using h1 x hx
theorem read_ret (B : Nat) (O : Nat → Nat) (w : World) (j jr rb : Nat) (s : LS) (fr to : Nat) (seg : List UInt8) (xs : List X3) (hR : Rng B O w) (hj : j ≠ 0) (hjr : jr ≠ 0) (hne : j ≠ jr) (hft : fr ≤ to) (htl : to ≤ s.l.length) (hl' : s.l.length ≤ 100000) (he : s.e = 0) (hmc : s.mc = .slice none 0 0)
    (hseg : (s.l.take to).drop fr = seg) (ha : asciiL seg) (hrow : RowT encR 50 7 O w jr s.ru xs) (hxl : xs.length ≤ 40) (hother : readM xs.length seg ≠ .other) (h : Rd6 O w j rb s) :
    Ret Tryz.prog 19 [.pointer (some ⟨rb, 0, none⟩), .int .i64 fr, .int .i64 to] w fun _ w' => PostL B O w w' j jr rb s fr xs (readM xs.length seg) := by
  have hz2 : ¬ (fun q : Nat => q = j ∨ q = jr) 0 := fun e => by rcases e with e | e; exact hj e.symm; exact hjr e.symm
  have hz1 : ¬ (fun q : Nat => q = j) 0 := fun e => hj e.symm
  have hsl : seg.length = to - fr := by rw [← hseg]; simp; omega
  have hRl : (lineR seg).length ≤ (bareL seg).length := skipB_le _
  have hBl : (bareL seg).length ≤ seg.length := (List.takeWhile_prefix (l := seg) _).length_le
  obtain ⟨m, hmd⟩ : ∃ m, m = fr + (bareL seg).length := ⟨_, rfl⟩
  have hm' : m ≤ s.l.length := by omega
  have hbare : (s.l.take m).drop fr = bareL seg := by
    have h1 : bareL seg = seg.take (bareL seg).length := List.prefix_iff_eq_take.1 (List.takeWhile_prefix _)
    have h2 : (seg.take (bareL seg).length) = (s.l.take m).drop fr := by
      conv => lhs; arg 2; rw [← hseg]
      rw [List.take_drop, List.take_take, Nat.min_eq_left (by omega), hmd]
    rw [← h2, ← h1]
  have hsufB : bareL seg <:+ s.l.take m := by rw [← hbare]; exact List.drop_suffix _ _
  have hsufR : lineR seg <:+ s.l.take m := (skipB_suf _).trans hsufB
  have hposB : (fr : Int) = (m : Int) - ((bareL seg).length : Int) := by omega
  have hbgR : (m : Int) - ((skipB (bareL seg)).length : Int) = ((m - (lineR seg).length : Nat) : Int) := by
    have : (skipB (bareL seg)).length = (lineR seg).length := rfl
    omega
  have haR : asciiL (lineR seg) := fun c hc => ha c ((List.takeWhile_prefix (l := seg) _).subset ((skipB_suf _).subset hc))
  refine Ret.enter Tryz.func19 Tryz.ntmps19 rfl rfl ?_
  refine WC.seq ?_
  refine WC.region ?_
  refine WL.v (RV.move rfl) rfl ?_
  refine WL.v (RV.move rfl) rfl ?_
  refine WL.v (RV.move rfl) rfl ?_
  refine WL.v (RV.move rfl) rfl ?_
  refine WL.v (RV.nilPtr rfl) rfl ?_
  refine WL.v (RV.fieldAddr 0 Tryz.underlying56 rfl rfl (Tryz.sizeOf53 _) (by decide) rfl) rfl ?_
  refine WL.v (RV.fieldAddr 1 Tryz.underlying53 rfl rfl (Tryz.sizeOf3 _) (by decide) rfl) rfl ?_
  refine WL.storeBlk (j := 1) h rfl (Tryz.sizeOf3 _) rfl rfl rfl rfl ?_
  have hb1 := h.s_pos (fr : Int)
  have hU1 : Upd (fun k => k = j) O w O (w.setCell ⟨rb, 1, none⟩ (.int .i64 (fr : Int))) := Upd.set hz1 h.tag rfl
  refine WL.v (RV.nilPtr rfl) rfl ?_
  refine WL.v (RV.fieldAddr 0 Tryz.underlying56 rfl rfl (Tryz.sizeOf53 _) (by decide) rfl) rfl ?_
  refine WL.v (RV.fieldAddr 2 Tryz.underlying53 rfl rfl (Tryz.sizeOf3 _) (by decide) rfl) rfl ?_
  refine WL.storeBlk (j := 2) hb1 rfl (Tryz.sizeOf3 _) rfl rfl rfl rfl ?_
  have hb2 := hb1.s_to (to : Int)
  have hU2 : Upd (fun k => k = j) O (w.setCell ⟨rb, 1, none⟩ (.int .i64 (fr : Int))) O ((w.setCell ⟨rb, 1, none⟩ (.int .i64 (fr : Int))).setCell ⟨rb, 2, none⟩ (.int .i64 (to : Int))) := Upd.set hz1 hb1.tag rfl
  have hU12 := hU1.trans hU2
  have hrow2 := hrow.upd hU12 hjr (fun e => hne e.symm)
  have hR2 := hR.upd hU12
  generalize (w.setCell ⟨rb, 1, none⟩ (.int .i64 (fr : Int))).setCell ⟨rb, 2, none⟩ (.int .i64 (to : Int)) = w2 at *
  refine WL.nil ?_
  refine QF.seqNext ?_
  refine WC.seq ?_
  refine WC.seq ?_
  refine WC.region ?_
  refine WL.v (RV.move rfl) rfl ?_
  refine WL.v (RV.nilPtr rfl) rfl ?_
  refine WL.v (RV.fieldAddr 0 Tryz.underlying56 rfl rfl (Tryz.sizeOf53 _) (by decide) rfl) rfl ?_
  refine WL.v (RV.fieldAddr 0 Tryz.underlying53 rfl rfl (Tryz.sizeOf9 _) (by decide) rfl) rfl ?_
  refine WL.v (RV.load (by first | exact hb2.q0 | exact hb2.q1 | exact hb2.q2 | exact hb2.q3 | exact hb2.q4 | exact hb2.q5 | exact hb2.q6 | exact hb2.q7 | exact hb2.q8 | exact hb2.q9 | exact hb2.q10 | exact hb2.q11) (Tryz.isAgg9 _) rfl) rfl ?_
  refine WL.v (RV.move rfl) rfl ?_
  refine WL.v (RV.move rfl) rfl ?_
  refine WL.v (RV.sliceS Tryz.underlying9 rfl rfl rfl fr to rfl rfl hft htl) rfl ?_
  rw [show ({s with pos := (fr : Int), to := (to : Int)} : LS).l = s.l from rfl, hseg]
  refine WL.call Tryz.call18 rfl (indexByte_ret seg 35 w2) rfl ?_
  rintro v w9 ⟨rfl, hw9⟩
  rw [hw9]
  clear hw9 w9
  cases hf : seg.findIdx? (· == 35) with
  | none =>
    have hi : idxB seg 35 = -1 := by unfold idxB; rw [hf]
    have hbe := bareL_none hf
    rw [hi]
    obtain rfl : m = to := by rw [hmd, hbe, hsl]; omega
    refine WL.v (RV.assign rfl) rfl ?_
    refine WL.nil ?_
    refine QF.seqNext ?_
    refine WC.seq ?_
    refine WC.region ?_
    refine WL.v (RV.move rfl) rfl ?_
    refine WL.v (RV.geq rfl rfl) rfl ?_
    refine WL.nil ?_
    refine QF.seqNext ?_
    refine WC.condF rfl (rfl) ?_
    have hrow3 := hrow2
    have hR3 := hR2
    have hUt3 := hU12.mono (S' := fun k => k = j ∨ k = jr) (fun _ h => .inl h) hz2
    refine WC.skip ?_
    refine QF.seqNext ?_
    refine WC.seq ?_
    refine WC.seq ?_
    refine WC.region ?_
    refine WL.v (RV.move rfl) rfl ?_
    refine WL.v (RV.nilPtr rfl) rfl ?_
    refine WL.v (RV.fieldAddr 0 Tryz.underlying56 rfl rfl (Tryz.sizeOf53 _) (by decide) rfl) rfl ?_
    refine WL.call Tryz.call38 rfl (rblanks_ret O w2 j rb ({s with pos := (fr : Int), to := (m : Int)} : LS) m (bareL seg) hj hm' hl' rfl hsufB hposB hb2) rfl ?_
    rintro v w4 ⟨rfl, hb4, hU4⟩
    have hrow4 := hrow3.upd hU4 hjr (fun e => hne e.symm)
    have hR4 := hR3.upd hU4
    have hUt4 := hUt3.trans (hU4.mono (fun _ h => .inl h) hz2)
    refine WL.v (RV.not rfl) rfl ?_
    refine WL.nil ?_
    refine QF.seqNext ?_
    by_cases h0 : (lineR seg).length = 0
    · have hM : readM xs.length seg = .none := by unfold readM; rw [if_pos h0]
      rw [hM]
      refine WC.condT rfl ((by have h0' : (skipB (bareL seg)).length = 0 := h0; simp [h0'])) ?_
      refine WC.ret ?_
      refine QF.thenRet ?_
      exact QF.done0 rfl ⟨O, _, hUt4, hR4, hb4, rfl, rfl, rfl, rfl, he, hrow4⟩
    · have h0' : (skipB (bareL seg)).length = (lineR seg).length := rfl
      refine WC.condF rfl ((by rw [h0', decide_eq_true (by omega)]; rfl)) ?_
      refine WC.skip ?_
      refine QF.seqNext ?_
      refine WC.seq ?_
      refine WC.region ?_
      refine WL.v (RV.move rfl) rfl ?_
      refine WL.v (RV.move rfl) rfl ?_
      refine WL.v (RV.nilPtr rfl) rfl ?_
      refine WL.v (RV.fieldAddr 0 Tryz.underlying56 rfl rfl (Tryz.sizeOf53 _) (by decide) rfl) rfl ?_
      refine WL.v (RV.fieldAddr 1 Tryz.underlying53 rfl rfl (Tryz.sizeOf3 _) (by decide) rfl) rfl ?_
      refine WL.v (RV.load (by first | exact hb4.q0 | exact hb4.q1 | exact hb4.q2 | exact hb4.q3 | exact hb4.q4 | exact hb4.q5 | exact hb4.q6 | exact hb4.q7 | exact hb4.q8 | exact hb4.q9 | exact hb4.q10 | exact hb4.q11) (Tryz.isAgg3 _) rfl) rfl ?_
      refine WL.v (RV.nilPtr rfl) rfl ?_
      refine WL.v (RV.fieldAddr 0 Tryz.underlying56 rfl rfl (Tryz.sizeOf53 _) (by decide) rfl) rfl ?_
      refine WL.v (RV.fieldAddr 3 Tryz.underlying53 rfl rfl (Tryz.sizeOf3 _) (by decide) rfl) rfl ?_
      refine WL.storeBlk (j := 3) hb4 rfl (Tryz.sizeOf3 _) rfl rfl rfl rfl ?_
      have hb5 := hb4.s_bg ((m : Int) - ((skipB (bareL seg)).length : Int))
      have hU5 : Upd (fun k => k = j) O w4 O (w4.setCell ⟨rb, 3, none⟩ (.int .i64 ((m : Int) - ((skipB (bareL seg)).length : Int)))) := Upd.set (fun e => hj e.symm) hb4.tag rfl
      have hrow5 := hrow4.upd hU5 hjr (fun e => hne e.symm)
      have hR5 := hR4.upd hU5
      have hUt5 := hUt4.trans (hU5.mono (fun _ h => .inl h) hz2)
      generalize w4.setCell ⟨rb, 3, none⟩ (.int .i64 ((m : Int) - ((skipB (bareL seg)).length : Int))) = w5 at *
      refine WL.nil ?_
      refine QF.seqNext ?_
      refine WC.seq ?_
      refine WC.region ?_
      refine WL.v (RV.move rfl) rfl ?_
      refine WL.v (RV.nilPtr rfl) rfl ?_
      refine WL.v (RV.fieldAddr 0 Tryz.underlying56 rfl rfl (Tryz.sizeOf53 _) (by decide) rfl) rfl ?_
      refine WL.call Tryz.call39 rfl (rname_ret O w5 j rb ({s with pos := ((m : Int) - ((skipB (bareL seg)).length : Int)), to := (m : Int), bg := ((m : Int) - ((skipB (bareL seg)).length : Int))} : LS) m (lineR seg) hj hm' hl' rfl hsufR rfl hb5) rfl ?_
      rintro v w6 ⟨rfl, hb6, hU6⟩
      have hrow6 := hrow5.upd hU6 hjr (fun e => hne e.symm)
      have hR6 := hR5.upd hU6
      have hUt6 := hUt5.trans (hU6.mono (fun _ h => .inl h) hz2)
      have hkey : keyW (lineR seg) = false := by
        cases hk : keyW (lineR seg) with
        | false => rfl
        | true => exact absurd (by unfold readM; rw [if_neg h0, if_pos hk]) hother
      have hM : readM xs.length seg = match (if xs.length = 40 then LR.bad 0 3 else ruleM (lineR seg)) with | .ok t => .one t | .bad p e => .bad ((bareL seg).length - (lineR seg).length + p) e := by unfold readM; rw [if_neg h0, if_neg (by rw [hkey]; decide)]
      simp only [keyW, Bool.or_eq_false_iff] at hkey
      refine WL.nil ?_
      refine QF.seqNext ?_
      refine WC.block ?_
      refine WC.seq ?_
      refine WC.region ?_
      refine WL.v (RV.eqlS rfl rfl) rfl ?_
      refine WL.v (RV.assign rfl) rfl ?_
      refine WL.nil ?_
      refine QF.seqNext ?_
      refine WC.condF rfl (hkey.1.1) ?_
      refine WC.seq ?_
      refine WC.region ?_
      refine WL.v (RV.eqlS rfl rfl) rfl ?_
      refine WL.v (RV.assign rfl) rfl ?_
      refine WL.nil ?_
      refine QF.seqNext ?_
      refine WC.condF rfl (hkey.1.2) ?_
      refine WC.seq ?_
      refine WC.region ?_
      refine WL.v (RV.eqlS rfl rfl) rfl ?_
      refine WL.v (RV.assign rfl) rfl ?_
      refine WL.nil ?_
      refine QF.seqNext ?_
      refine WC.condF rfl (hkey.2) ?_
      refine WC.region ?_
      refine WL.v (RV.move rfl) rfl ?_
      refine WL.call Tryz.call42 rfl (rule_ret B O w6 j jr rb ({s with pos := (m : Int) - (((lineR seg).dropWhile letterB).length : Int), to := (m : Int), bg := ((m : Int) - ((skipB (bareL seg)).length : Int))} : LS) m (lineR seg) xs hR6 hj hjr hne hm' hl' rfl hbgR he hmc hsufR haR hrow6 hxl hb6) rfl ?_
      rintro v w7 ⟨O7, rv, hU7, hR7, hP7⟩
      have hUt7 := hUt6.trans hU7
      refine WL.nil ?_
      refine QF.blockNormal ?_
      rw [hM]
      cases hq : (if xs.length = 40 then LR.bad 0 3 else ruleM (lineR seg)) with
      | ok t =>
        rw [hq] at hP7
        obtain ⟨x, hrow7, hRt7, hb7⟩ := hP7
        exact QF.end0 rfl ⟨O7, _, hUt7, hR7, hb7, rfl, rfl, rfl, rfl, he, x, hrow7, hRt7⟩
      | bad p e =>
        rw [hq] at hP7
        obtain ⟨hne7, hb7⟩ := hP7
        exact QF.end0 rfl ⟨O7, _, hUt7, hR7, hb7, rfl, rfl, rfl, rfl, hne7, rfl, by dsimp only; rw [h0']; omega⟩
  | some k =>
    have hi : idxB seg 35 = (k : Nat) := by unfold idxB; rw [hf]
    obtain ⟨hbe, hkl⟩ := bareL_some hf
    rw [hi]
    have hmk : m = fr + k := by rw [hmd, hbe]; simp; omega
    refine WL.v (RV.assign rfl) rfl ?_
    refine WL.nil ?_
    refine QF.seqNext ?_
    refine WC.seq ?_
    refine WC.region ?_
    refine WL.v (RV.move rfl) rfl ?_
    refine WL.v (RV.geq rfl rfl) rfl ?_
    refine WL.nil ?_
    refine QF.seqNext ?_
    refine WC.condT rfl ((decide_eq_true (by omega))) ?_
    refine WC.region ?_
    refine WL.v (RV.move rfl) rfl ?_
    refine WL.v (RV.move rfl) rfl ?_
    refine WL.v (RV.move rfl) rfl ?_
    refine WL.v (RV.add rfl rfl (Fit.i64 (by omega))) rfl ?_
    refine WL.v (RV.nilPtr rfl) rfl ?_
    refine WL.v (RV.fieldAddr 0 Tryz.underlying56 rfl rfl (Tryz.sizeOf53 _) (by decide) rfl) rfl ?_
    refine WL.v (RV.fieldAddr 2 Tryz.underlying53 rfl rfl (Tryz.sizeOf3 _) (by decide) rfl) rfl ?_
    refine WL.storeBlk (j := 2) hb2 rfl (Tryz.sizeOf3 _) rfl rfl rfl rfl ?_
    rw [show (fr : Int) + ((k : Nat) : Int) = (m : Int) from by omega]
    have hb3 := hb2.s_to (m : Int)
    have hU3 : Upd (fun k => k = j) O w2 O (w2.setCell ⟨rb, 2, none⟩ (.int .i64 (m : Int))) := Upd.set hz1 hb2.tag rfl
    have hrow3 := hrow2.upd hU3 hjr (fun e => hne e.symm)
    have hR3 := hR2.upd hU3
    have hUt3 := (hU12.trans hU3).mono (S' := fun k => k = j ∨ k = jr) (fun _ h => .inl h) hz2
    generalize w2.setCell ⟨rb, 2, none⟩ (.int .i64 (m : Int)) = w3 at *
    refine WL.nil ?_
    refine QF.seqNext ?_
    refine WC.seq ?_
    refine WC.seq ?_
    refine WC.region ?_
    refine WL.v (RV.move rfl) rfl ?_
    refine WL.v (RV.nilPtr rfl) rfl ?_
    refine WL.v (RV.fieldAddr 0 Tryz.underlying56 rfl rfl (Tryz.sizeOf53 _) (by decide) rfl) rfl ?_
    refine WL.call Tryz.call38 rfl (rblanks_ret O w3 j rb ({s with pos := (fr : Int), to := (m : Int)} : LS) m (bareL seg) hj hm' hl' rfl hsufB hposB hb3) rfl ?_
    rintro v w4 ⟨rfl, hb4, hU4⟩
    have hrow4 := hrow3.upd hU4 hjr (fun e => hne e.symm)
    have hR4 := hR3.upd hU4
    have hUt4 := hUt3.trans (hU4.mono (fun _ h => .inl h) hz2)
    refine WL.v (RV.not rfl) rfl ?_
    refine WL.nil ?_
    refine QF.seqNext ?_
    by_cases h0 : (lineR seg).length = 0
    · have hM : readM xs.length seg = .none := by unfold readM; rw [if_pos h0]
      rw [hM]
      refine WC.condT rfl ((by have h0' : (skipB (bareL seg)).length = 0 := h0; simp [h0'])) ?_
      refine WC.ret ?_
      refine QF.thenRet ?_
      exact QF.done0 rfl ⟨O, _, hUt4, hR4, hb4, rfl, rfl, rfl, rfl, he, hrow4⟩
    · have h0' : (skipB (bareL seg)).length = (lineR seg).length := rfl
      refine WC.condF rfl ((by rw [h0', decide_eq_true (by omega)]; rfl)) ?_
      refine WC.skip ?_
      refine QF.seqNext ?_
      refine WC.seq ?_
      refine WC.region ?_
      refine WL.v (RV.move rfl) rfl ?_
      refine WL.v (RV.move rfl) rfl ?_
      refine WL.v (RV.nilPtr rfl) rfl ?_
      refine WL.v (RV.fieldAddr 0 Tryz.underlying56 rfl rfl (Tryz.sizeOf53 _) (by decide) rfl) rfl ?_
      refine WL.v (RV.fieldAddr 1 Tryz.underlying53 rfl rfl (Tryz.sizeOf3 _) (by decide) rfl) rfl ?_
      refine WL.v (RV.load (by first | exact hb4.q0 | exact hb4.q1 | exact hb4.q2 | exact hb4.q3 | exact hb4.q4 | exact hb4.q5 | exact hb4.q6 | exact hb4.q7 | exact hb4.q8 | exact hb4.q9 | exact hb4.q10 | exact hb4.q11) (Tryz.isAgg3 _) rfl) rfl ?_
      refine WL.v (RV.nilPtr rfl) rfl ?_
      refine WL.v (RV.fieldAddr 0 Tryz.underlying56 rfl rfl (Tryz.sizeOf53 _) (by decide) rfl) rfl ?_
      refine WL.v (RV.fieldAddr 3 Tryz.underlying53 rfl rfl (Tryz.sizeOf3 _) (by decide) rfl) rfl ?_
      refine WL.storeBlk (j := 3) hb4 rfl (Tryz.sizeOf3 _) rfl rfl rfl rfl ?_
      have hb5 := hb4.s_bg ((m : Int) - ((skipB (bareL seg)).length : Int))
      have hU5 : Upd (fun k => k = j) O w4 O (w4.setCell ⟨rb, 3, none⟩ (.int .i64 ((m : Int) - ((skipB (bareL seg)).length : Int)))) := Upd.set (fun e => hj e.symm) hb4.tag rfl
      have hrow5 := hrow4.upd hU5 hjr (fun e => hne e.symm)
      have hR5 := hR4.upd hU5
      have hUt5 := hUt4.trans (hU5.mono (fun _ h => .inl h) hz2)
      generalize w4.setCell ⟨rb, 3, none⟩ (.int .i64 ((m : Int) - ((skipB (bareL seg)).length : Int))) = w5 at *
      refine WL.nil ?_
      refine QF.seqNext ?_
      refine WC.seq ?_
      refine WC.region ?_
      refine WL.v (RV.move rfl) rfl ?_
      refine WL.v (RV.nilPtr rfl) rfl ?_
      refine WL.v (RV.fieldAddr 0 Tryz.underlying56 rfl rfl (Tryz.sizeOf53 _) (by decide) rfl) rfl ?_
      refine WL.call Tryz.call39 rfl (rname_ret O w5 j rb ({s with pos := ((m : Int) - ((skipB (bareL seg)).length : Int)), to := (m : Int), bg := ((m : Int) - ((skipB (bareL seg)).length : Int))} : LS) m (lineR seg) hj hm' hl' rfl hsufR rfl hb5) rfl ?_
      rintro v w6 ⟨rfl, hb6, hU6⟩
      have hrow6 := hrow5.upd hU6 hjr (fun e => hne e.symm)
      have hR6 := hR5.upd hU6
      have hUt6 := hUt5.trans (hU6.mono (fun _ h => .inl h) hz2)
      have hkey : keyW (lineR seg) = false := by
        cases hk : keyW (lineR seg) with
        | false => rfl
        | true => exact absurd (by unfold readM; rw [if_neg h0, if_pos hk]) hother
      have hM : readM xs.length seg = match (if xs.length = 40 then LR.bad 0 3 else ruleM (lineR seg)) with | .ok t => .one t | .bad p e => .bad ((bareL seg).length - (lineR seg).length + p) e := by unfold readM; rw [if_neg h0, if_neg (by rw [hkey]; decide)]
      simp only [keyW, Bool.or_eq_false_iff] at hkey
      refine WL.nil ?_
      refine QF.seqNext ?_
      refine WC.block ?_
      refine WC.seq ?_
      refine WC.region ?_
      refine WL.v (RV.eqlS rfl rfl) rfl ?_
      refine WL.v (RV.assign rfl) rfl ?_
      refine WL.nil ?_
      refine QF.seqNext ?_
      refine WC.condF rfl (hkey.1.1) ?_
      refine WC.seq ?_
      refine WC.region ?_
      refine WL.v (RV.eqlS rfl rfl) rfl ?_
      refine WL.v (RV.assign rfl) rfl ?_
      refine WL.nil ?_
      refine QF.seqNext ?_
      refine WC.condF rfl (hkey.1.2) ?_
      refine WC.seq ?_
      refine WC.region ?_
      refine WL.v (RV.eqlS rfl rfl) rfl ?_
      refine WL.v (RV.assign rfl) rfl ?_
      refine WL.nil ?_
      refine QF.seqNext ?_
      refine WC.condF rfl (hkey.2) ?_
      refine WC.region ?_
      refine WL.v (RV.move rfl) rfl ?_
      refine WL.call Tryz.call42 rfl (rule_ret B O w6 j jr rb ({s with pos := (m : Int) - (((lineR seg).dropWhile letterB).length : Int), to := (m : Int), bg := ((m : Int) - ((skipB (bareL seg)).length : Int))} : LS) m (lineR seg) xs hR6 hj hjr hne hm' hl' rfl hbgR he hmc hsufR haR hrow6 hxl hb6) rfl ?_
      rintro v w7 ⟨O7, rv, hU7, hR7, hP7⟩
      have hUt7 := hUt6.trans hU7
      refine WL.nil ?_
      refine QF.blockNormal ?_
      rw [hM]
      cases hq : (if xs.length = 40 then LR.bad 0 3 else ruleM (lineR seg)) with
      | ok t =>
        rw [hq] at hP7
        obtain ⟨x, hrow7, hRt7, hb7⟩ := hP7
        exact QF.end0 rfl ⟨O7, _, hUt7, hR7, hb7, rfl, rfl, rfl, rfl, he, x, hrow7, hRt7⟩
      | bad p e =>
        rw [hq] at hP7
        obtain ⟨hne7, hb7⟩ := hP7
        exact QF.end0 rfl ⟨O7, _, hUt7, hR7, hb7, rfl, rfl, rfl, rfl, hne7, rfl, by dsimp only; rw [h0']; omega⟩
inductive TR where
  | ok (l : List R3)
  | bad (p : Nat) (e : Int)
  | other
def lineT (r : List UInt8) : List UInt8 := r.takeWhile (fun b => !(b == 10))
def linesM : Nat → List R3 → Nat → List UInt8 → TR
  | 0, _, _, _ => .other
  | n + 1, acc, fr, r =>
    match readM acc.length (lineT r) with
    | .other => .other
    | .bad p e => .bad (fr + p) e
    | .none => if (lineT r).length = r.length then .ok acc else linesM n acc (fr + (lineT r).length + 1) (r.drop ((lineT r).length + 1))
    | .one t => if (lineT r).length = r.length then .ok (acc ++ [t]) else linesM n (acc ++ [t]) (fr + (lineT r).length + 1) (r.drop ((lineT r).length + 1))
def parseT (l : List UInt8) : TR := if 4096 < l.length then .bad 0 3 else linesM (l.length + 1) [] 0 l
def RowsT (O : Nat → Nat) (w : World) (jr : Nat) (rv : Value) (ts : List R3) (xs : List X3) : Prop :=
  RowT encR 50 7 O w jr rv xs ∧ ts.length = xs.length ∧ xs.length ≤ 40 ∧ ∀ i, i < xs.length → Rt O w (nth ts i) (nth xs i)
def LoopT (l : List UInt8) (M : TR) (O : Nat → Nat) (w : World) (jr : Nat) (n fr : Nat) (ts : List R3) (xs : List X3) (s : LS) : Prop :=
  (fr ≤ l.length ∧ s.e = 0 ∧ l.length - fr < n ∧ linesM n ts fr (l.drop fr) = M ∧ RowsT O w jr s.ru ts xs) ∨ (fr = l.length + 1 ∧ s.e = 0 ∧ M = .ok ts ∧ RowsT O w jr s.ru ts xs) ∨
  (∃ p e, e ≠ 0 ∧ s.e = e ∧ s.bad = ((p : Nat) : Int) ∧ M = .bad p e)
theorem RowsT.push {O : Nat → Nat} {w : World} {jr : Nat} {rv : Value} {ts : List R3} {xs : List X3} {t : R3} {x : X3} (hr : RowT encR 50 7 O w jr rv (xs ++ [x])) (h1 : ts.length = xs.length) (h2 : xs.length < 40) (h3 : ∀ i, i < xs.length → Rt O w (nth ts i) (nth xs i)) (h4 : Rt O w t x) : RowsT O w jr rv (ts ++ [t]) (xs ++ [x]) := by
  refine ⟨hr, by simp [h1], by simp; omega, fun i hi => ?_⟩
  simp only [List.length_append, List.length_singleton] at hi
  by_cases e : i < xs.length
  · rw [nth_eq (by simp; omega), nth_eq (by simp; omega), List.getElem_append_left (by omega), List.getElem_append_left e, ← nth_eq (by omega), ← nth_eq e]
    exact h3 i e
  · obtain rfl : i = xs.length := by omega
    rw [nth_eq (by simp; omega), nth_eq (by simp), List.getElem_append_right (by omega), List.getElem_append_right (by omega)]
    simp [h1]
    exact h4
theorem readM_one {n : Nat} {seg : List UInt8} {t : R3} (h : readM n seg = .one t) : n ≠ 40 := fun e => by
  subst e
  unfold readM at h
  split at h
  · cases h
  · split at h
    · cases h
    · cases h
theorem LoopT.next {l : List UInt8} {M : TR} {B j jr rb n fr : Nat} {O : Nat → Nat} {w w' : World} {ts : List R3} {xs : List X3} {s : LS} (hfr : fr ≤ l.length) (hn : l.length - fr < n + 1) (hM : linesM (n + 1) ts fr (l.drop fr) = M) (hjr : jr ≠ 0) (hne : j ≠ jr) (hrow : RowsT O w jr s.ru ts xs)
    (hP : PostL B O w w' j jr rb s fr xs (readM xs.length (lineT (l.drop fr)))) :
    ∃ O' s' n' ts' xs', Upd (fun k => k = j ∨ k = jr) O w O' w' ∧ Rng B O' w' ∧ Rd6 O' w' j rb s' ∧ s'.l = s.l ∧ s'.ig = s.ig ∧ s'.kp = s.kp ∧ s'.mc = s.mc ∧ n' < n + 1 ∧ LoopT l M O' w' jr n' (fr + (lineT (l.drop fr)).length + 1) ts' xs' s' := by
  obtain ⟨O', s', hU, hR, hb, e1, e2, e3, e4, hq⟩ := hP
  obtain ⟨h1, h2, h3, h4⟩ := hrow
  have hll : (lineT (l.drop fr)).length ≤ l.length - fr := by
    have := (List.takeWhile_prefix (l := l.drop fr) (fun b => !(b == 10))).length_le
    simpa [lineT] using this
  have hdl : (l.drop fr).length = l.length - fr := by simp
  have h4' : ∀ i, i < xs.length → Rt O' w' (nth ts i) (nth xs i) := fun i hi => (h4 i hi).upd hU
  unfold linesM at hM
  rw [h2] at hM
  refine ⟨O', s', ?_⟩
  cases hr : readM xs.length (lineT (l.drop fr)) with
  | other => rw [hr] at hq; exact hq.elim
  | bad p e =>
    rw [hr] at hq hM
    obtain ⟨q1, q2, q3⟩ := hq
    exact ⟨0, [], [], hU, hR, hb, e1, e2, e3, e4, by omega, .inr (.inr ⟨fr + p, e, q1, q2, by rw [q3]; simp, hM.symm⟩)⟩
  | none =>
    rw [hr] at hq hM
    dsimp only at hM
    obtain ⟨q1, q2⟩ := hq
    split at hM
    · rename_i he
      exact ⟨0, ts, xs, hU, hR, hb, e1, e2, e3, e4, by omega, .inr (.inl ⟨by omega, q1, hM.symm, q2, h2, h3, h4'⟩)⟩
    · rename_i he
      exact ⟨n, ts, xs, hU, hR, hb, e1, e2, e3, e4, by omega, .inl ⟨by omega, q1, by omega, by rw [← hM, List.drop_drop, Nat.add_assoc], q2, h2, h3, h4'⟩⟩
  | one t =>
    have h40 := readM_one hr
    rw [hr] at hq hM
    dsimp only at hM
    obtain ⟨q1, x, q2, q3⟩ := hq
    have hrows := RowsT.push q2 h2 (by omega) h4' q3
    split at hM
    · rename_i he
      exact ⟨0, _, _, hU, hR, hb, e1, e2, e3, e4, by omega, .inr (.inl ⟨by omega, q1, hM.symm, hrows⟩)⟩
    · rename_i he
      exact ⟨n, _, _, hU, hR, hb, e1, e2, e3, e4, by omega, .inl ⟨by omega, q1, by omega, by rw [← hM, List.drop_drop, Nat.add_assoc], hrows⟩⟩
theorem linesM_other {n : Nat} {acc : List R3} {fr : Nat} {r : List UInt8} (h : linesM (n + 1) acc fr r ≠ .other) : readM acc.length (lineT r) ≠ .other := fun e => by
  unfold linesM at h
  rw [e] at h; exact h rfl
theorem lineT_some {r : List UInt8} {k : Nat} (h : r.findIdx? (· == 10) = some k) : (lineT r).length = k := by
  obtain ⟨hk, h1, h2⟩ := List.findIdx?_eq_some_iff_getElem.1 h
  unfold lineT
  have e : r = r.take k ++ r.drop k := (List.take_append_drop k r).symm
  have e2 : (r.take k).takeWhile (fun b => !(b == 10)) = r.take k := takeWhile_all fun x hx => by
    obtain ⟨i, hi, rfl⟩ := List.getElem_of_mem hx
    simp only [List.length_take] at hi
    have := h2 i (by omega)
    simp only [List.getElem_take]
    simpa using this
  conv => lhs; rw [e]
  rw [List.takeWhile_append, e2, if_pos rfl, List.drop_eq_getElem_cons hk, List.takeWhile_cons_of_neg (by simpa using h1), List.append_nil]
  simp; omega
theorem lineT_none {r : List UInt8} (h : r.findIdx? (· == 10) = none) : lineT r = r :=
  takeWhile_all fun x hx => by simpa using List.findIdx?_eq_none_iff.1 h x hx
theorem lineT_seg (l : List UInt8) (fr : Nat) : (l.take (fr + (lineT (l.drop fr)).length)).drop fr = lineT (l.drop fr) := by
  have h1 : lineT (l.drop fr) = (l.drop fr).take (lineT (l.drop fr)).length := List.prefix_iff_eq_take.1 (List.takeWhile_prefix _)
  conv => rhs; rw [h1]
  rw [List.take_drop]
end Go.Proofs.YtmohcfjopaccdaaGreatDoor
