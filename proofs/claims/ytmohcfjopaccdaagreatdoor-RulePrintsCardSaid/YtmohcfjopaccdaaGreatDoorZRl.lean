import Derived.Test.YtmohcfjopaccdaaGreatDoorZRp
import Derived.Test.YtmohcfjopaccdaaGreatDoorRuE
import Derived.Test.YtmohcfjopaccdaaGreatDoorRsB
import Derived.Test.YtmohcfjopaccdaaGreatDoorRsR
import Derived.Lib.SlicesCompact
import Derived.Test.YtmohcfjopaccdaaGreatDoorRuM
section
/- Package rule, walked: a line of classes. -/
namespace Go.Proofs.YtmohcfjopaccdaaGreatDoor
open Go.VL Go.Proofs
set_option maxRecDepth 10000

theorem elI8 : Elem Tryz.prog 23 3 1 8 := ⟨Tryz.underlying23, by kernel_rfl, by decide⟩
inductive LM where
  | ok (l : List Int)
  | bad (p : Nat) (e : Int)
def wordsM : Nat → List Int → List UInt8 → LM
  | 0, acc, _ => .ok acc
  | n + 1, acc, r =>
    if (skipB r).length = 0 then .ok acc
    else if (skipB r).takeWhile letterB = [] then .bad (skipB r).length 4
    else match numM ((skipB r).takeWhile letterB) with
      | none => .bad (skipB r).length 5
      | some c => wordsM n (acc ++ [(c : Int)]) ((skipB r).dropWhile letterB)
def listF : LM → LM
  | .bad p e => .bad p e
  | .ok [] => .bad 0 4
  | .ok (a :: l) => .ok (Lib.compact (sortM (a :: l)))
def listM (r : List UInt8) : LM := listF (wordsM (r.length + 1) [] r)
theorem word_drop {x : List UInt8} (h : x.takeWhile letterB ≠ []) : (x.dropWhile letterB).length < x.length := by
  have := congrArg List.length (List.takeWhile_append_dropWhile (p := letterB) (l := x))
  rw [List.length_append] at this
  have := List.length_pos_iff.2 h
  omega
def PostI (m : Nat) (w' : World) (O' : Nat → Nat) (ji : Nat) (lv : Value) (bad e : Int) : LM → Prop
  | .ok l => e = 0 ∧ RowT encI 3 1 O' w' ji lv l
  | .bad p e' => e = e' ∧ e' ≠ 0 ∧ bad = (m : Int) - (p : Int)
theorem listI2_ret (O : Nat → Nat) (w : World) (j rb : Nat) (s : LS) (hj : j ≠ 0) (he : s.e = 0) (hfl : s.i = true) (h : Rd6 O w j rb s) :
    Ret Tryz.prog 41 [.pointer (some ⟨rb, 0, none⟩), .pointer (some ⟨rb, 6, none⟩), .pointer (some ⟨rb, 10, none⟩)] w fun _ w' => Rd6 O w' j rb {s with bad := s.bg, e := 11} ∧ Upd (fun k => k = j) O w O w' := by
  have q0 := h.q10
  rw [hfl] at q0
  have q3 := h.q3
  have hd := h.drew
  have hU0 : Upd (fun k => k = j) O w O w.drew := (Upd.refl (fun e => hj e.symm) O w).drew
  refine Ret.enter Tryz.func41 Tryz.ntmps41 rfl rfl ?_
  refine WC.seq ?_
  refine WC.seq ?_
  refine WC.region ?_
  refine WL.v (RV.move rfl) rfl ?_
  refine WL.v (RV.nilPtr rfl) rfl ?_
  refine WL.v (RV.load (by first | exact q0 | exact q3) (Tryz.isAgg4 _) rfl) rfl ?_
  refine WL.nil ?_
  refine QF.seqNext ?_
  refine WC.condT rfl (rfl) ?_
  refine WC.seq ?_
  refine WC.tail 8 rfl rfl (by kernel_rfl) (by kernel_rfl) ?_
  refine WS.v (RV.move rfl) rfl ?_
  refine WS.v (RV.nilPtr rfl) rfl ?_
  refine WS.v (RV.fieldAddr 0 Tryz.underlying56 rfl rfl (Tryz.sizeOf53 _) (by decide) rfl) rfl ?_
  refine WS.v (RV.move rfl) rfl ?_
  refine WS.v (RV.nilPtr rfl) rfl ?_
  refine WS.v (RV.fieldAddr 0 Tryz.underlying56 rfl rfl (Tryz.sizeOf53 _) (by decide) rfl) rfl ?_
  refine WS.v (RV.fieldAddr 3 Tryz.underlying53 rfl rfl (Tryz.sizeOf3 _) (by decide) rfl) rfl ?_
  refine WS.v (RV.load (by first | exact q0 | exact q3) (Tryz.isAgg3 _) rfl) rfl ?_
  refine WS.go ?_
  refine WL.call Tryz.call54 rfl (rfail_ret O w.drew j rb s s.bg 11 hj he hd) rfl ?_
  rintro u w1 ⟨hb1, hU1⟩
  refine WL.nil ?_
  refine QF.seqNext ?_
  refine WC.ret ?_
  refine QF.thenRet ?_
  exact QF.done0 rfl ⟨hb1, hU0.trans hU1⟩
theorem listK2_ret (O : Nat → Nat) (w : World) (j rb : Nat) (s : LS) (hj : j ≠ 0) (he : s.e = 0) (hfl : s.k = true) (h : Rd6 O w j rb s) :
    Ret Tryz.prog 41 [.pointer (some ⟨rb, 0, none⟩), .pointer (some ⟨rb, 7, none⟩), .pointer (some ⟨rb, 11, none⟩)] w fun _ w' => Rd6 O w' j rb {s with bad := s.bg, e := 11} ∧ Upd (fun k => k = j) O w O w' := by
  have q0 := h.q11
  rw [hfl] at q0
  have q3 := h.q3
  have hd := h.drew
  have hU0 : Upd (fun k => k = j) O w O w.drew := (Upd.refl (fun e => hj e.symm) O w).drew
  refine Ret.enter Tryz.func41 Tryz.ntmps41 rfl rfl ?_
  refine WC.seq ?_
  refine WC.seq ?_
  refine WC.region ?_
  refine WL.v (RV.move rfl) rfl ?_
  refine WL.v (RV.nilPtr rfl) rfl ?_
  refine WL.v (RV.load (by first | exact q0 | exact q3) (Tryz.isAgg4 _) rfl) rfl ?_
  refine WL.nil ?_
  refine QF.seqNext ?_
  refine WC.condT rfl (rfl) ?_
  refine WC.seq ?_
  refine WC.tail 8 rfl rfl (by kernel_rfl) (by kernel_rfl) ?_
  refine WS.v (RV.move rfl) rfl ?_
  refine WS.v (RV.nilPtr rfl) rfl ?_
  refine WS.v (RV.fieldAddr 0 Tryz.underlying56 rfl rfl (Tryz.sizeOf53 _) (by decide) rfl) rfl ?_
  refine WS.v (RV.move rfl) rfl ?_
  refine WS.v (RV.nilPtr rfl) rfl ?_
  refine WS.v (RV.fieldAddr 0 Tryz.underlying56 rfl rfl (Tryz.sizeOf53 _) (by decide) rfl) rfl ?_
  refine WS.v (RV.fieldAddr 3 Tryz.underlying53 rfl rfl (Tryz.sizeOf3 _) (by decide) rfl) rfl ?_
  refine WS.v (RV.load (by first | exact q0 | exact q3) (Tryz.isAgg3 _) rfl) rfl ?_
  refine WS.go ?_
  refine WL.call Tryz.call54 rfl (rfail_ret O w.drew j rb s s.bg 11 hj he hd) rfl ?_
  rintro u w1 ⟨hb1, hU1⟩
  refine WL.nil ?_
  refine QF.seqNext ?_
  refine WC.ret ?_
  refine QF.thenRet ?_
  exact QF.done0 rfl ⟨hb1, hU0.trans hU1⟩
theorem wordsM_le : ∀ (n : Nat) (acc : List Int) (r : List UInt8) (p : Nat) (e : Int), wordsM n acc r = .bad p e → p ≤ r.length
  | 0, _, _, _, _, h => by cases h
  | n + 1, acc, r, p, e, h => by
    have hs := skipB_le r
    unfold wordsM at h
    split at h
    · cases h
    · split at h
      · cases h; exact hs
      · split at h
        · cases h; exact hs
        · have h1 := wordsM_le n _ _ p e h
          have h2 := (List.dropWhile_suffix (l := skipB r) letterB).length_le
          omega
theorem listM_le {r : List UInt8} {p : Nat} {e : Int} (h : listM r = .bad p e) : p ≤ r.length := by
  unfold listM at h
  cases hw : wordsM (r.length + 1) [] r with
  | bad q f => rw [hw] at h; cases h; exact wordsM_le _ _ _ _ _ hw
  | ok l =>
    rw [hw] at h
    cases l with
    | nil => cases h; exact Nat.zero_le _
    | cons a l => cases h
theorem listI_ret (B : Nat) (O : Nat → Nat) (w : World) (j ji rb : Nat) (s : LS) (m : Nat) (r0 : List UInt8) (hR : Rng B O w) (hj : j ≠ 0) (hji : ji ≠ 0) (hne : j ≠ ji) (hm : m ≤ s.l.length) (hl : s.l.length ≤ 100000) (hto : s.to = (m : Int)) (he : s.e = 0) (hfl : s.i = false) (hfd : s.ig = nilV)
    (hr : r0 <:+ s.l.take m) (hp : s.pos = (m : Int) - (r0.length : Int)) (h : Rd6 O w j rb s) :
    Ret Tryz.prog 41 [.pointer (some ⟨rb, 0, none⟩), .pointer (some ⟨rb, 6, none⟩), .pointer (some ⟨rb, 10, none⟩)] w fun _ w' => ∃ O' lv pos bad e, Upd (fun k => k = j ∨ k = ji) O w O' w' ∧ Rng B O' w' ∧ Rd6 O' w' j rb {s with pos := pos, bad := bad, e := e, ig := lv, i := true} ∧ PostI m w' O' ji lv bad e (listM r0) := by
  have hz2 : ¬ (fun q : Nat => q = j ∨ q = ji) 0 := fun e => by rcases e with e | e; exact hj e.symm; exact hji e.symm
  have hrl : r0.length ≤ m := by have := hr.length_le; simp at this; omega
  have q0 := h.q10
  rw [hfl] at q0
  refine Ret.enter Tryz.func41 Tryz.ntmps41 rfl rfl ?_
  refine WC.seq ?_
  refine WC.seq ?_
  refine WC.region ?_
  refine WL.v (RV.move rfl) rfl ?_
  refine WL.v (RV.nilPtr rfl) rfl ?_
  refine WL.v (RV.load (by first | exact q0) (Tryz.isAgg4 _) rfl) rfl ?_
  refine WL.nil ?_
  refine QF.seqNext ?_
  refine WC.condF rfl (rfl) ?_
  refine WC.skip ?_
  refine QF.seqNext ?_
  refine WC.seq ?_
  refine WC.region ?_
  refine WL.v (RV.move rfl) rfl ?_
  refine WL.v (RV.nilPtr rfl) rfl ?_
  refine WL.storeBlk (j := 10) h rfl (Tryz.sizeOf4 _) rfl rfl rfl rfl ?_
  have hb1 : Rd6 O (w.setCell ⟨rb, 10, none⟩ (.bool true)) j rb {s with i := true} := BlkO.set h 10 _
  have hU1 : Upd (fun k => k = j) O w O (w.setCell ⟨rb, 10, none⟩ (.bool true)) := Upd.set (fun e => hj e.symm) h.tag rfl
  have hR1 := hR.upd hU1
  generalize w.setCell ⟨rb, 10, none⟩ (.bool true) = w1 at *
  obtain ⟨M, hMd⟩ : ∃ M, M = wordsM (r0.length + 1) [] r0 := ⟨_, rfl⟩
  refine WL.nil ?_
  refine QF.seqNext ?_
  refine WC.seq ?_
  refine WC.block ?_
  refine WC.loop (fun y : Nat × List Int × List UInt8 × (Nat → Nat) × World × Value => [(0, .pointer (some ⟨rb, 0, none⟩)), (1, .pointer (some ⟨rb, 6, none⟩))]) (fun y : Nat × List Int × List UInt8 × (Nat → Nat) × World × Value => y.2.2.2.2.1) (fun y : Nat × List Int × List UInt8 × (Nat → Nat) × World × Value => Rd6 y.2.2.2.1 y.2.2.2.2.1 j rb {s with pos := (m : Int) - (y.2.2.1.length : Int), ig := y.2.2.2.2.2, i := true} ∧ RowT encI 3 1 y.2.2.2.1 y.2.2.2.2.1 ji y.2.2.2.2.2 y.2.1 ∧ y.2.2.1 <:+ s.l.take m ∧ wordsM y.1 y.2.1 y.2.2.1 = M ∧ y.2.2.1.length < y.1 ∧ y.2.1.length + y.2.2.1.length ≤ r0.length ∧ Upd (fun k => k = j ∨ k = ji) O w y.2.2.2.1 y.2.2.2.2.1 ∧ Rng B y.2.2.2.1 y.2.2.2.2.1) (fun y : Nat × List Int × List UInt8 × (Nat → Nat) × World × Value => y.1) (r0.length + 1, [], r0, O, w1, nilV) (⟨by dsimp only; rw [← hp, ← hfd]; exact hb1, RowT.nil _ _ _ _ _ _, hr, hMd.symm, Nat.lt_succ_self _, by simp, hU1.mono (fun _ h => .inl h) hz2, hR1⟩) ⟨rfl, rfl, trivial⟩ rfl ?_
  rintro ⟨n, acc, r, O1, w2, lv⟩ ⟨hb2, hrow2, hsuf, hM2, hn, hal, hU2, hR2⟩
  dsimp only at hb2 hrow2 hsuf hM2 hn hal hU2 hR2 ⊢
  obtain ⟨n, rfl⟩ : ∃ q, n = q + 1 := ⟨n - 1, by omega⟩
  have hsl := skipB_le r
  unfold wordsM at hM2
  refine WC.seq ?_
  refine WC.seq ?_
  refine WC.region ?_
  refine WL.v (RV.move rfl) rfl ?_
  refine WL.v (RV.nilPtr rfl) rfl ?_
  refine WL.v (RV.fieldAddr 0 Tryz.underlying56 rfl rfl (Tryz.sizeOf53 _) (by decide) rfl) rfl ?_
  refine WL.call Tryz.call38 rfl (rblanks_ret O1 w2 j rb ({s with pos := (m : Int) - ((r).length : Int), ig := lv, i := true} : LS) m r hj hm hl hto hsuf rfl hb2) rfl ?_
  rintro v w3 ⟨rfl, hb3, hU3⟩
  have hrow3 := hrow2.upd hU3 hji (fun e => hne e.symm)
  have hR3 := hR2.upd hU3
  have hUt3 := hU2.trans (hU3.mono (fun _ h => .inl h) hz2)
  refine WL.nil ?_
  refine QF.seqNext ?_
  by_cases h0 : (skipB r).length = 0
  · rw [if_pos h0] at hM2
    refine WC.condF rfl ((decide_eq_false (by omega))) ?_
    have hq3 := hb3.q6
    have hsl3 := hrow3.sl
    refine WC.exit ?_
    refine QF.thenExit ?_
    refine QF.thenExit ?_
    refine QF.blockHit ?_
    refine QF.seqNext ?_
    refine WC.seq ?_
    refine WC.seq ?_
    refine WC.region ?_
    refine WL.v (RV.move rfl) rfl ?_
    refine WL.v (RV.nilPtr rfl) rfl ?_
    refine WL.v (RV.load (by first | exact hq3) (Tryz.isAgg23 _) rfl) rfl ?_
    refine WL.v (RV.len (by first | exact hsl3) Tryz.underlying23 rfl) rfl ?_
    refine WL.v (RV.eql rfl rfl) rfl ?_
    refine WL.nil ?_
    refine QF.seqNext ?_
    rcases acc with _ | ⟨a, acc⟩
    · have hM : listM r0 = .bad 0 4 := by unfold listM; rw [← hMd, ← hM2]; rfl
      rw [hM]
      refine WC.condT rfl (rfl) ?_
      have hq2 := hb3.q2
      dsimp only at hq2
      rw [hto] at hq2
      have hb3d := hb3.drew
      have hrow3d := hrow3.drew
      have hR3d := hR3.drew
      have hUt3d := hUt3.drew
      refine WC.tail 8 rfl rfl (by kernel_rfl) (by kernel_rfl) ?_
      refine WS.v (RV.move rfl) rfl ?_
      refine WS.v (RV.nilPtr rfl) rfl ?_
      refine WS.v (RV.fieldAddr 0 Tryz.underlying56 rfl rfl (Tryz.sizeOf53 _) (by decide) rfl) rfl ?_
      refine WS.v (RV.move rfl) rfl ?_
      refine WS.v (RV.nilPtr rfl) rfl ?_
      refine WS.v (RV.fieldAddr 0 Tryz.underlying56 rfl rfl (Tryz.sizeOf53 _) (by decide) rfl) rfl ?_
      refine WS.v (RV.fieldAddr 2 Tryz.underlying53 rfl rfl (Tryz.sizeOf3 _) (by decide) rfl) rfl ?_
      refine WS.v (RV.load (by first | exact hq2) (Tryz.isAgg3 _) rfl) rfl ?_
      refine WS.go ?_
      refine WL.call Tryz.call54 rfl (rfail_ret O1 w3.drew j rb ({s with pos := (m : Int) - ((skipB r).length : Int), ig := lv, i := true} : LS) (m : Int) 4 hj he hb3d) rfl ?_
      rintro u w7 ⟨hb7, hU7⟩
      have hrow7 := hrow3d.upd hU7 hji (fun e => hne e.symm)
      have hR7 := hR3d.upd hU7
      have hUt7 := hUt3d.trans (hU7.mono (fun _ h => .inl h) hz2)
      have hq6 := BlkO.q6 hb7
      refine WL.nil ?_
      refine QF.seqNext ?_
      refine WC.seq ?_
      refine WC.region ?_
      refine WL.v (RV.move rfl) rfl ?_
      refine WL.v (RV.nilPtr rfl) rfl ?_
      refine WL.v (RV.load (by first | exact hq6) (Tryz.isAgg23 _) rfl) rfl ?_
      refine WL.call Tryz.call58 rfl (sort_ret hR7 hrow7 hji (by omega)) rfl ?_
      rintro u w8 ⟨hrow8, hU8, hR8⟩
      have hb8 := BlkO.upd hb7 hU8 hj hne
      have hq8 := hb8.q6
      refine WL.nil ?_
      refine QF.seqNext ?_
      refine WC.region ?_
      refine WL.v (RV.move rfl) rfl ?_
      refine WL.v (RV.move rfl) rfl ?_
      refine WL.v (RV.nilPtr rfl) rfl ?_
      refine WL.v (RV.load (by first | exact hq8) (Tryz.isAgg23 _) rfl) rfl ?_
      refine WL.call Tryz.call59 rfl (compact_ret hR8 hrow8 hji (by rw [sortM_len]; omega)) rfl ?_
      rintro u w9 ⟨hrow9, hU9, hR9⟩
      have hb9 := hb8.upd hU9 hj hne
      have hone9 := hrow9.one
      refine WL.v (RV.nilPtr rfl) rfl ?_
      refine WL.storeBlk (j := 6) hb9 rfl (Tryz.sizeOf23 _) hone9 rfl rfl rfl ?_
      have hb10 := hb9.set 6 u
      have hU10 : Upd (fun k => k = j) O1 w9 O1 (w9.setCell ⟨rb, 6, none⟩ u) := Upd.set (fun e => hj e.symm) hb9.tag rfl
      have hUz := ((hUt7.trans (hU8.mono (fun _ h => .inr h) hz2)).trans (hU9.mono (fun _ h => .inr h) hz2)).trans (hU10.mono (fun _ h => .inl h) hz2)
      refine WL.nil ?_
      exact QF.end0 rfl ⟨O1, u, _, (m : Int), 4, hUz, hR9.upd hU10, hb10, ⟨rfl, by decide, by simp⟩⟩
    · have hM : listM r0 = .ok (Lib.compact (sortM (a :: acc))) := by unfold listM; rw [← hMd, ← hM2]; rfl
      rw [hM]
      refine WC.condF rfl ((beq_eq_false_iff_ne.2 (by simp; omega))) ?_
      have hq6 := BlkO.q6 hb3
      refine WC.skip ?_
      refine QF.seqNext ?_
      refine WC.seq ?_
      refine WC.region ?_
      refine WL.v (RV.move rfl) rfl ?_
      refine WL.v (RV.nilPtr rfl) rfl ?_
      refine WL.v (RV.load (by first | exact hq6) (Tryz.isAgg23 _) rfl) rfl ?_
      refine WL.call Tryz.call58 rfl (sort_ret hR3 hrow3 hji (by omega)) rfl ?_
      rintro u w8 ⟨hrow8, hU8, hR8⟩
      have hb8 := BlkO.upd hb3 hU8 hj hne
      have hq8 := hb8.q6
      refine WL.nil ?_
      refine QF.seqNext ?_
      refine WC.region ?_
      refine WL.v (RV.move rfl) rfl ?_
      refine WL.v (RV.move rfl) rfl ?_
      refine WL.v (RV.nilPtr rfl) rfl ?_
      refine WL.v (RV.load (by first | exact hq8) (Tryz.isAgg23 _) rfl) rfl ?_
      refine WL.call Tryz.call59 rfl (compact_ret hR8 hrow8 hji (by rw [sortM_len]; omega)) rfl ?_
      rintro u w9 ⟨hrow9, hU9, hR9⟩
      have hb9 := hb8.upd hU9 hj hne
      have hone9 := hrow9.one
      refine WL.v (RV.nilPtr rfl) rfl ?_
      refine WL.storeBlk (j := 6) hb9 rfl (Tryz.sizeOf23 _) hone9 rfl rfl rfl ?_
      have hb10 := hb9.set 6 u
      have hU10 : Upd (fun k => k = j) O1 w9 O1 (w9.setCell ⟨rb, 6, none⟩ u) := Upd.set (fun e => hj e.symm) hb9.tag rfl
      have hUz := ((hUt3.trans (hU8.mono (fun _ h => .inr h) hz2)).trans (hU9.mono (fun _ h => .inr h) hz2)).trans (hU10.mono (fun _ h => .inl h) hz2)
      refine WL.nil ?_
      exact QF.end0 rfl ⟨O1, u, _, _, _, hUz, hR9.upd hU10, hb10, ⟨he, hrow9.upd hU10 hji (fun e => hne e.symm)⟩⟩
  · rw [if_neg h0] at hM2
    refine WC.condT rfl ((decide_eq_true (by omega))) ?_
    have hq1 := hb3.q1
    have hsuf3 := (skipB_suf r).trans hsuf
    refine WC.skip ?_
    refine QF.seqNext ?_
    refine WC.block ?_
    refine WC.seq ?_
    refine WC.region ?_
    refine WL.v (RV.move rfl) rfl ?_
    refine WL.v (RV.nilPtr rfl) rfl ?_
    refine WL.v (RV.fieldAddr 0 Tryz.underlying56 rfl rfl (Tryz.sizeOf53 _) (by decide) rfl) rfl ?_
    refine WL.v (RV.fieldAddr 1 Tryz.underlying53 rfl rfl (Tryz.sizeOf3 _) (by decide) rfl) rfl ?_
    refine WL.v (RV.load (by first | exact hq1) (Tryz.isAgg3 _) rfl) rfl ?_
    refine WL.v (RV.assign rfl) rfl ?_
    refine WL.nil ?_
    refine QF.seqNext ?_
    refine WC.seq ?_
    refine WC.region ?_
    refine WL.v (RV.move rfl) rfl ?_
    refine WL.v (RV.nilPtr rfl) rfl ?_
    refine WL.v (RV.fieldAddr 0 Tryz.underlying56 rfl rfl (Tryz.sizeOf53 _) (by decide) rfl) rfl ?_
    refine WL.call Tryz.call39 rfl (rname_ret O1 w3 j rb ({s with pos := (m : Int) - ((skipB r).length : Int), ig := lv, i := true} : LS) m (skipB r) hj hm hl hto hsuf3 rfl hb3) rfl ?_
    rintro v w4 ⟨rfl, hb4, hU4⟩
    have hrow4 := hrow3.upd hU4 hji (fun e => hne e.symm)
    have hR4 := hR3.upd hU4
    have hUt4 := hUt3.trans (hU4.mono (fun _ h => .inl h) hz2)
    refine WL.v (RV.assign rfl) rfl ?_
    refine WL.nil ?_
    refine QF.seqNext ?_
    refine WC.seq ?_
    refine WC.region ?_
    refine WL.v (RV.move rfl) rfl ?_
    refine WL.call Tryz.call57 rfl (number_ret ((skipB r).takeWhile letterB) w4) rfl ?_
    rintro v w5 ⟨rfl, hE5⟩
    have hX5 : Upd (fun _ => False) O1 w4 O1 w5 := Upd.of_ext (fun h => h) O1 hE5
    have hb5 := hb4.upd hX5 hj (fun h => h)
    have hrow5 := hrow4.upd hX5 hji (fun h => h)
    have hR5 := hR4.upd hX5
    have hUt5 := hUt4.trans (hX5.mono (fun _ h => h.elim) hz2)
    refine WL.v (RV.move rfl) rfl ?_
    refine WL.v (RV.extract rfl rfl) rfl ?_
    refine WL.v (RV.extract rfl rfl) rfl ?_
    refine WL.v (RV.assign rfl) rfl ?_
    refine WL.v (RV.assign rfl) rfl ?_
    refine WL.nil ?_
    refine QF.seqNext ?_
    refine WC.seq ?_
    refine WC.block ?_
    refine WC.seq ?_
    refine WC.region ?_
    refine WL.v (RV.move rfl) rfl ?_
    refine WL.v (RV.eqlS rfl rfl) rfl ?_
    refine WL.v (RV.assign rfl) rfl ?_
    refine WL.nil ?_
    refine QF.seqNext ?_
    by_cases hnm : (skipB r).takeWhile letterB = []
    · rw [if_pos hnm] at hM2
      have hM : listM r0 = .bad (skipB r).length 4 := by unfold listM; rw [← hMd, ← hM2]; rfl
      rw [hM]
      refine WC.condT rfl ((by simpa using hnm)) ?_
      refine WC.seq ?_
      refine WC.region ?_
      refine WL.v (RV.move rfl) rfl ?_
      refine WL.v (RV.nilPtr rfl) rfl ?_
      refine WL.v (RV.fieldAddr 0 Tryz.underlying56 rfl rfl (Tryz.sizeOf53 _) (by decide) rfl) rfl ?_
      refine WL.v (RV.move rfl) rfl ?_
      refine WL.call Tryz.call54 rfl (rfail_ret O1 w5 j rb ({s with pos := (m : Int) - (((skipB r).dropWhile letterB).length : Int), ig := lv, i := true} : LS) ((m : Int) - ((skipB r).length : Int)) 4 hj he hb5) rfl ?_
      rintro u w6 ⟨hb6, hU6⟩
      refine WL.nil ?_
      refine QF.seqNext ?_
      refine WC.ret ?_
      refine QF.blockRet ?_
      refine QF.thenRet ?_
      refine QF.blockRet ?_
      refine QF.thenRet ?_
      refine QF.blockRet ?_
      refine QF.thenRet ?_
      exact QF.done0 rfl ⟨O1, lv, _, _, _, hUt5.trans (hU6.mono (fun _ h => .inl h) hz2), hR5.upd hU6, hb6, rfl, by decide, rfl⟩
    · rw [if_neg hnm] at hM2
      have hwd := word_drop hnm
      refine WC.condF rfl ((by simpa using hnm)) ?_
      refine WC.seq ?_
      refine WC.region ?_
      refine WL.v (RV.move rfl) rfl ?_
      refine WL.v (RV.not rfl) rfl ?_
      refine WL.v (RV.assign rfl) rfl ?_
      refine WL.nil ?_
      refine QF.seqNext ?_
      cases hnum : numM ((skipB r).takeWhile letterB) with
      | none =>
        rw [hnum] at hM2
        have hM : listM r0 = .bad (skipB r).length 5 := by unfold listM; rw [← hMd, ← hM2]; rfl
        rw [hM]
        refine WC.condT rfl (rfl) ?_
        refine WC.seq ?_
        refine WC.region ?_
        refine WL.v (RV.move rfl) rfl ?_
        refine WL.v (RV.nilPtr rfl) rfl ?_
        refine WL.v (RV.fieldAddr 0 Tryz.underlying56 rfl rfl (Tryz.sizeOf53 _) (by decide) rfl) rfl ?_
        refine WL.v (RV.move rfl) rfl ?_
        refine WL.call Tryz.call54 rfl (rfail_ret O1 w5 j rb ({s with pos := (m : Int) - (((skipB r).dropWhile letterB).length : Int), ig := lv, i := true} : LS) ((m : Int) - ((skipB r).length : Int)) 5 hj he hb5) rfl ?_
        rintro u w6 ⟨hb6, hU6⟩
        refine WL.nil ?_
        refine QF.seqNext ?_
        refine WC.ret ?_
        refine QF.blockRet ?_
        refine QF.thenRet ?_
        refine QF.blockRet ?_
        refine QF.thenRet ?_
        refine QF.blockRet ?_
        refine QF.thenRet ?_
        exact QF.done0 rfl ⟨O1, lv, _, _, _, hUt5.trans (hU6.mono (fun _ h => .inl h) hz2), hR5.upd hU6, hb6, rfl, by decide, rfl⟩
      | some c =>
        rw [hnum] at hM2
        dsimp only at hM2
        have hnv : numV ((skipB r).takeWhile letterB) = (c : Int) := by unfold numV; rw [hnum]
        rw [hnv]
        refine WC.condF rfl (rfl) ?_
        have hq5 := hb5.q6
        refine WC.skip ?_
        refine QF.blockNormal ?_
        refine QF.seqNext ?_
        refine WC.region ?_
        refine WL.v (RV.move rfl) rfl ?_
        refine WL.v (RV.move rfl) rfl ?_
        refine WL.v (RV.nilPtr rfl) rfl ?_
        refine WL.v (RV.load (by first | exact hq5) (Tryz.isAgg23 _) rfl) rfl ?_
        refine WL.v (RV.move rfl) rfl ?_
        refine WL.push elI8 hrow5 hR5 ((c : Int)) (fun _ => rfl) rfl rfl rfl (by simp [Value.oneCell', encI]) (by omega) (by omega) (by omega) (by decide) rfl rfl ?_
        intro lv7 w7 O7 hrow7 hU7 hR7
        have hone7 := hrow7.one
        have hb7 := hb5.upd hU7 hj hne
        refine WL.v (RV.nilPtr rfl) rfl ?_
        refine WL.storeBlk (j := 6) hb7 rfl (Tryz.sizeOf23 _) hone7 rfl rfl rfl ?_
        have hb8 := hb7.set 6 lv7
        have hU8 : Upd (fun k => k = j) O7 w7 O7 (w7.setCell ⟨rb, 6, none⟩ lv7) := Upd.set (fun e => hj e.symm) hb7.tag rfl
        have hUt8 := (hUt5.trans (hU7.mono (fun _ h => .inr h) hz2)).trans (hU8.mono (fun _ h => .inl h) hz2)
        refine WL.nil ?_
        refine QF.blockNormal ?_
        refine QF.next ((n, acc ++ [(c : Int)], (skipB r).dropWhile letterB, O7, (w7.setCell ⟨rb, 6, none⟩ lv7), lv7)) (⟨hb8, hrow7.upd hU8 hji (fun e => hne e.symm), (List.dropWhile_suffix _).trans hsuf3, hM2, by dsimp only; omega, by simp; omega, hUt8, hR7.upd hU8⟩) (by dsimp only; omega) ⟨rfl, rfl, trivial⟩ rfl
theorem listK_ret (B : Nat) (O : Nat → Nat) (w : World) (j ji rb : Nat) (s : LS) (m : Nat) (r0 : List UInt8) (hR : Rng B O w) (hj : j ≠ 0) (hji : ji ≠ 0) (hne : j ≠ ji) (hm : m ≤ s.l.length) (hl : s.l.length ≤ 100000) (hto : s.to = (m : Int)) (he : s.e = 0) (hfl : s.k = false) (hfd : s.kp = nilV)
    (hr : r0 <:+ s.l.take m) (hp : s.pos = (m : Int) - (r0.length : Int)) (h : Rd6 O w j rb s) :
    Ret Tryz.prog 41 [.pointer (some ⟨rb, 0, none⟩), .pointer (some ⟨rb, 7, none⟩), .pointer (some ⟨rb, 11, none⟩)] w fun _ w' => ∃ O' lv pos bad e, Upd (fun k => k = j ∨ k = ji) O w O' w' ∧ Rng B O' w' ∧ Rd6 O' w' j rb {s with pos := pos, bad := bad, e := e, kp := lv, k := true} ∧ PostI m w' O' ji lv bad e (listM r0) := by
  have hz2 : ¬ (fun q : Nat => q = j ∨ q = ji) 0 := fun e => by rcases e with e | e; exact hj e.symm; exact hji e.symm
  have hrl : r0.length ≤ m := by have := hr.length_le; simp at this; omega
  have q0 := h.q11
  rw [hfl] at q0
  refine Ret.enter Tryz.func41 Tryz.ntmps41 rfl rfl ?_
  refine WC.seq ?_
  refine WC.seq ?_
  refine WC.region ?_
  refine WL.v (RV.move rfl) rfl ?_
  refine WL.v (RV.nilPtr rfl) rfl ?_
  refine WL.v (RV.load (by first | exact q0) (Tryz.isAgg4 _) rfl) rfl ?_
  refine WL.nil ?_
  refine QF.seqNext ?_
  refine WC.condF rfl (rfl) ?_
  refine WC.skip ?_
  refine QF.seqNext ?_
  refine WC.seq ?_
  refine WC.region ?_
  refine WL.v (RV.move rfl) rfl ?_
  refine WL.v (RV.nilPtr rfl) rfl ?_
  refine WL.storeBlk (j := 11) h rfl (Tryz.sizeOf4 _) rfl rfl rfl rfl ?_
  have hb1 : Rd6 O (w.setCell ⟨rb, 11, none⟩ (.bool true)) j rb {s with k := true} := BlkO.set h 11 _
  have hU1 : Upd (fun k => k = j) O w O (w.setCell ⟨rb, 11, none⟩ (.bool true)) := Upd.set (fun e => hj e.symm) h.tag rfl
  have hR1 := hR.upd hU1
  generalize w.setCell ⟨rb, 11, none⟩ (.bool true) = w1 at *
  obtain ⟨M, hMd⟩ : ∃ M, M = wordsM (r0.length + 1) [] r0 := ⟨_, rfl⟩
  refine WL.nil ?_
  refine QF.seqNext ?_
  refine WC.seq ?_
  refine WC.block ?_
  refine WC.loop (fun y : Nat × List Int × List UInt8 × (Nat → Nat) × World × Value => [(0, .pointer (some ⟨rb, 0, none⟩)), (1, .pointer (some ⟨rb, 7, none⟩))]) (fun y : Nat × List Int × List UInt8 × (Nat → Nat) × World × Value => y.2.2.2.2.1) (fun y : Nat × List Int × List UInt8 × (Nat → Nat) × World × Value => Rd6 y.2.2.2.1 y.2.2.2.2.1 j rb {s with pos := (m : Int) - (y.2.2.1.length : Int), kp := y.2.2.2.2.2, k := true} ∧ RowT encI 3 1 y.2.2.2.1 y.2.2.2.2.1 ji y.2.2.2.2.2 y.2.1 ∧ y.2.2.1 <:+ s.l.take m ∧ wordsM y.1 y.2.1 y.2.2.1 = M ∧ y.2.2.1.length < y.1 ∧ y.2.1.length + y.2.2.1.length ≤ r0.length ∧ Upd (fun k => k = j ∨ k = ji) O w y.2.2.2.1 y.2.2.2.2.1 ∧ Rng B y.2.2.2.1 y.2.2.2.2.1) (fun y : Nat × List Int × List UInt8 × (Nat → Nat) × World × Value => y.1) (r0.length + 1, [], r0, O, w1, nilV) (⟨by dsimp only; rw [← hp, ← hfd]; exact hb1, RowT.nil _ _ _ _ _ _, hr, hMd.symm, Nat.lt_succ_self _, by simp, hU1.mono (fun _ h => .inl h) hz2, hR1⟩) ⟨rfl, rfl, trivial⟩ rfl ?_
  rintro ⟨n, acc, r, O1, w2, lv⟩ ⟨hb2, hrow2, hsuf, hM2, hn, hal, hU2, hR2⟩
  dsimp only at hb2 hrow2 hsuf hM2 hn hal hU2 hR2 ⊢
  obtain ⟨n, rfl⟩ : ∃ q, n = q + 1 := ⟨n - 1, by omega⟩
  have hsl := skipB_le r
  unfold wordsM at hM2
  refine WC.seq ?_
  refine WC.seq ?_
  refine WC.region ?_
  refine WL.v (RV.move rfl) rfl ?_
  refine WL.v (RV.nilPtr rfl) rfl ?_
  refine WL.v (RV.fieldAddr 0 Tryz.underlying56 rfl rfl (Tryz.sizeOf53 _) (by decide) rfl) rfl ?_
  refine WL.call Tryz.call38 rfl (rblanks_ret O1 w2 j rb ({s with pos := (m : Int) - ((r).length : Int), kp := lv, k := true} : LS) m r hj hm hl hto hsuf rfl hb2) rfl ?_
  rintro v w3 ⟨rfl, hb3, hU3⟩
  have hrow3 := hrow2.upd hU3 hji (fun e => hne e.symm)
  have hR3 := hR2.upd hU3
  have hUt3 := hU2.trans (hU3.mono (fun _ h => .inl h) hz2)
  refine WL.nil ?_
  refine QF.seqNext ?_
  by_cases h0 : (skipB r).length = 0
  · rw [if_pos h0] at hM2
    refine WC.condF rfl ((decide_eq_false (by omega))) ?_
    have hq3 := hb3.q7
    have hsl3 := hrow3.sl
    refine WC.exit ?_
    refine QF.thenExit ?_
    refine QF.thenExit ?_
    refine QF.blockHit ?_
    refine QF.seqNext ?_
    refine WC.seq ?_
    refine WC.seq ?_
    refine WC.region ?_
    refine WL.v (RV.move rfl) rfl ?_
    refine WL.v (RV.nilPtr rfl) rfl ?_
    refine WL.v (RV.load (by first | exact hq3) (Tryz.isAgg23 _) rfl) rfl ?_
    refine WL.v (RV.len (by first | exact hsl3) Tryz.underlying23 rfl) rfl ?_
    refine WL.v (RV.eql rfl rfl) rfl ?_
    refine WL.nil ?_
    refine QF.seqNext ?_
    rcases acc with _ | ⟨a, acc⟩
    · have hM : listM r0 = .bad 0 4 := by unfold listM; rw [← hMd, ← hM2]; rfl
      rw [hM]
      refine WC.condT rfl (rfl) ?_
      have hq2 := hb3.q2
      dsimp only at hq2
      rw [hto] at hq2
      have hb3d := hb3.drew
      have hrow3d := hrow3.drew
      have hR3d := hR3.drew
      have hUt3d := hUt3.drew
      refine WC.tail 8 rfl rfl (by kernel_rfl) (by kernel_rfl) ?_
      refine WS.v (RV.move rfl) rfl ?_
      refine WS.v (RV.nilPtr rfl) rfl ?_
      refine WS.v (RV.fieldAddr 0 Tryz.underlying56 rfl rfl (Tryz.sizeOf53 _) (by decide) rfl) rfl ?_
      refine WS.v (RV.move rfl) rfl ?_
      refine WS.v (RV.nilPtr rfl) rfl ?_
      refine WS.v (RV.fieldAddr 0 Tryz.underlying56 rfl rfl (Tryz.sizeOf53 _) (by decide) rfl) rfl ?_
      refine WS.v (RV.fieldAddr 2 Tryz.underlying53 rfl rfl (Tryz.sizeOf3 _) (by decide) rfl) rfl ?_
      refine WS.v (RV.load (by first | exact hq2) (Tryz.isAgg3 _) rfl) rfl ?_
      refine WS.go ?_
      refine WL.call Tryz.call54 rfl (rfail_ret O1 w3.drew j rb ({s with pos := (m : Int) - ((skipB r).length : Int), kp := lv, k := true} : LS) (m : Int) 4 hj he hb3d) rfl ?_
      rintro u w7 ⟨hb7, hU7⟩
      have hrow7 := hrow3d.upd hU7 hji (fun e => hne e.symm)
      have hR7 := hR3d.upd hU7
      have hUt7 := hUt3d.trans (hU7.mono (fun _ h => .inl h) hz2)
      have hq6 := BlkO.q7 hb7
      refine WL.nil ?_
      refine QF.seqNext ?_
      refine WC.seq ?_
      refine WC.region ?_
      refine WL.v (RV.move rfl) rfl ?_
      refine WL.v (RV.nilPtr rfl) rfl ?_
      refine WL.v (RV.load (by first | exact hq6) (Tryz.isAgg23 _) rfl) rfl ?_
      refine WL.call Tryz.call58 rfl (sort_ret hR7 hrow7 hji (by omega)) rfl ?_
      rintro u w8 ⟨hrow8, hU8, hR8⟩
      have hb8 := BlkO.upd hb7 hU8 hj hne
      have hq8 := hb8.q7
      refine WL.nil ?_
      refine QF.seqNext ?_
      refine WC.region ?_
      refine WL.v (RV.move rfl) rfl ?_
      refine WL.v (RV.move rfl) rfl ?_
      refine WL.v (RV.nilPtr rfl) rfl ?_
      refine WL.v (RV.load (by first | exact hq8) (Tryz.isAgg23 _) rfl) rfl ?_
      refine WL.call Tryz.call59 rfl (compact_ret hR8 hrow8 hji (by rw [sortM_len]; omega)) rfl ?_
      rintro u w9 ⟨hrow9, hU9, hR9⟩
      have hb9 := hb8.upd hU9 hj hne
      have hone9 := hrow9.one
      refine WL.v (RV.nilPtr rfl) rfl ?_
      refine WL.storeBlk (j := 7) hb9 rfl (Tryz.sizeOf23 _) hone9 rfl rfl rfl ?_
      have hb10 := hb9.set 7 u
      have hU10 : Upd (fun k => k = j) O1 w9 O1 (w9.setCell ⟨rb, 7, none⟩ u) := Upd.set (fun e => hj e.symm) hb9.tag rfl
      have hUz := ((hUt7.trans (hU8.mono (fun _ h => .inr h) hz2)).trans (hU9.mono (fun _ h => .inr h) hz2)).trans (hU10.mono (fun _ h => .inl h) hz2)
      refine WL.nil ?_
      exact QF.end0 rfl ⟨O1, u, _, (m : Int), 4, hUz, hR9.upd hU10, hb10, ⟨rfl, by decide, by simp⟩⟩
    · have hM : listM r0 = .ok (Lib.compact (sortM (a :: acc))) := by unfold listM; rw [← hMd, ← hM2]; rfl
      rw [hM]
      refine WC.condF rfl ((beq_eq_false_iff_ne.2 (by simp; omega))) ?_
      have hq6 := BlkO.q7 hb3
      refine WC.skip ?_
      refine QF.seqNext ?_
      refine WC.seq ?_
      refine WC.region ?_
      refine WL.v (RV.move rfl) rfl ?_
      refine WL.v (RV.nilPtr rfl) rfl ?_
      refine WL.v (RV.load (by first | exact hq6) (Tryz.isAgg23 _) rfl) rfl ?_
      refine WL.call Tryz.call58 rfl (sort_ret hR3 hrow3 hji (by omega)) rfl ?_
      rintro u w8 ⟨hrow8, hU8, hR8⟩
      have hb8 := BlkO.upd hb3 hU8 hj hne
      have hq8 := hb8.q7
      refine WL.nil ?_
      refine QF.seqNext ?_
      refine WC.region ?_
      refine WL.v (RV.move rfl) rfl ?_
      refine WL.v (RV.move rfl) rfl ?_
      refine WL.v (RV.nilPtr rfl) rfl ?_
      refine WL.v (RV.load (by first | exact hq8) (Tryz.isAgg23 _) rfl) rfl ?_
      refine WL.call Tryz.call59 rfl (compact_ret hR8 hrow8 hji (by rw [sortM_len]; omega)) rfl ?_
      rintro u w9 ⟨hrow9, hU9, hR9⟩
      have hb9 := hb8.upd hU9 hj hne
      have hone9 := hrow9.one
      refine WL.v (RV.nilPtr rfl) rfl ?_
      refine WL.storeBlk (j := 7) hb9 rfl (Tryz.sizeOf23 _) hone9 rfl rfl rfl ?_
      have hb10 := hb9.set 7 u
      have hU10 : Upd (fun k => k = j) O1 w9 O1 (w9.setCell ⟨rb, 7, none⟩ u) := Upd.set (fun e => hj e.symm) hb9.tag rfl
      have hUz := ((hUt3.trans (hU8.mono (fun _ h => .inr h) hz2)).trans (hU9.mono (fun _ h => .inr h) hz2)).trans (hU10.mono (fun _ h => .inl h) hz2)
      refine WL.nil ?_
      exact QF.end0 rfl ⟨O1, u, _, _, _, hUz, hR9.upd hU10, hb10, ⟨he, hrow9.upd hU10 hji (fun e => hne e.symm)⟩⟩
  · rw [if_neg h0] at hM2
    refine WC.condT rfl ((decide_eq_true (by omega))) ?_
    have hq1 := hb3.q1
    have hsuf3 := (skipB_suf r).trans hsuf
    refine WC.skip ?_
    refine QF.seqNext ?_
    refine WC.block ?_
    refine WC.seq ?_
    refine WC.region ?_
    refine WL.v (RV.move rfl) rfl ?_
    refine WL.v (RV.nilPtr rfl) rfl ?_
    refine WL.v (RV.fieldAddr 0 Tryz.underlying56 rfl rfl (Tryz.sizeOf53 _) (by decide) rfl) rfl ?_
    refine WL.v (RV.fieldAddr 1 Tryz.underlying53 rfl rfl (Tryz.sizeOf3 _) (by decide) rfl) rfl ?_
    refine WL.v (RV.load (by first | exact hq1) (Tryz.isAgg3 _) rfl) rfl ?_
    refine WL.v (RV.assign rfl) rfl ?_
    refine WL.nil ?_
    refine QF.seqNext ?_
    refine WC.seq ?_
    refine WC.region ?_
    refine WL.v (RV.move rfl) rfl ?_
    refine WL.v (RV.nilPtr rfl) rfl ?_
    refine WL.v (RV.fieldAddr 0 Tryz.underlying56 rfl rfl (Tryz.sizeOf53 _) (by decide) rfl) rfl ?_
    refine WL.call Tryz.call39 rfl (rname_ret O1 w3 j rb ({s with pos := (m : Int) - ((skipB r).length : Int), kp := lv, k := true} : LS) m (skipB r) hj hm hl hto hsuf3 rfl hb3) rfl ?_
    rintro v w4 ⟨rfl, hb4, hU4⟩
    have hrow4 := hrow3.upd hU4 hji (fun e => hne e.symm)
    have hR4 := hR3.upd hU4
    have hUt4 := hUt3.trans (hU4.mono (fun _ h => .inl h) hz2)
    refine WL.v (RV.assign rfl) rfl ?_
    refine WL.nil ?_
    refine QF.seqNext ?_
    refine WC.seq ?_
    refine WC.region ?_
    refine WL.v (RV.move rfl) rfl ?_
    refine WL.call Tryz.call57 rfl (number_ret ((skipB r).takeWhile letterB) w4) rfl ?_
    rintro v w5 ⟨rfl, hE5⟩
    have hX5 : Upd (fun _ => False) O1 w4 O1 w5 := Upd.of_ext (fun h => h) O1 hE5
    have hb5 := hb4.upd hX5 hj (fun h => h)
    have hrow5 := hrow4.upd hX5 hji (fun h => h)
    have hR5 := hR4.upd hX5
    have hUt5 := hUt4.trans (hX5.mono (fun _ h => h.elim) hz2)
    refine WL.v (RV.move rfl) rfl ?_
    refine WL.v (RV.extract rfl rfl) rfl ?_
    refine WL.v (RV.extract rfl rfl) rfl ?_
    refine WL.v (RV.assign rfl) rfl ?_
    refine WL.v (RV.assign rfl) rfl ?_
    refine WL.nil ?_
    refine QF.seqNext ?_
    refine WC.seq ?_
    refine WC.block ?_
    refine WC.seq ?_
    refine WC.region ?_
    refine WL.v (RV.move rfl) rfl ?_
    refine WL.v (RV.eqlS rfl rfl) rfl ?_
    refine WL.v (RV.assign rfl) rfl ?_
    refine WL.nil ?_
    refine QF.seqNext ?_
    by_cases hnm : (skipB r).takeWhile letterB = []
    · rw [if_pos hnm] at hM2
      have hM : listM r0 = .bad (skipB r).length 4 := by unfold listM; rw [← hMd, ← hM2]; rfl
      rw [hM]
      refine WC.condT rfl ((by simpa using hnm)) ?_
      refine WC.seq ?_
      refine WC.region ?_
      refine WL.v (RV.move rfl) rfl ?_
      refine WL.v (RV.nilPtr rfl) rfl ?_
      refine WL.v (RV.fieldAddr 0 Tryz.underlying56 rfl rfl (Tryz.sizeOf53 _) (by decide) rfl) rfl ?_
      refine WL.v (RV.move rfl) rfl ?_
      refine WL.call Tryz.call54 rfl (rfail_ret O1 w5 j rb ({s with pos := (m : Int) - (((skipB r).dropWhile letterB).length : Int), kp := lv, k := true} : LS) ((m : Int) - ((skipB r).length : Int)) 4 hj he hb5) rfl ?_
      rintro u w6 ⟨hb6, hU6⟩
      refine WL.nil ?_
      refine QF.seqNext ?_
      refine WC.ret ?_
      refine QF.blockRet ?_
      refine QF.thenRet ?_
      refine QF.blockRet ?_
      refine QF.thenRet ?_
      refine QF.blockRet ?_
      refine QF.thenRet ?_
      exact QF.done0 rfl ⟨O1, lv, _, _, _, hUt5.trans (hU6.mono (fun _ h => .inl h) hz2), hR5.upd hU6, hb6, rfl, by decide, rfl⟩
    · rw [if_neg hnm] at hM2
      have hwd := word_drop hnm
      refine WC.condF rfl ((by simpa using hnm)) ?_
      refine WC.seq ?_
      refine WC.region ?_
      refine WL.v (RV.move rfl) rfl ?_
      refine WL.v (RV.not rfl) rfl ?_
      refine WL.v (RV.assign rfl) rfl ?_
      refine WL.nil ?_
      refine QF.seqNext ?_
      cases hnum : numM ((skipB r).takeWhile letterB) with
      | none =>
        rw [hnum] at hM2
        have hM : listM r0 = .bad (skipB r).length 5 := by unfold listM; rw [← hMd, ← hM2]; rfl
        rw [hM]
        refine WC.condT rfl (rfl) ?_
        refine WC.seq ?_
        refine WC.region ?_
        refine WL.v (RV.move rfl) rfl ?_
        refine WL.v (RV.nilPtr rfl) rfl ?_
        refine WL.v (RV.fieldAddr 0 Tryz.underlying56 rfl rfl (Tryz.sizeOf53 _) (by decide) rfl) rfl ?_
        refine WL.v (RV.move rfl) rfl ?_
        refine WL.call Tryz.call54 rfl (rfail_ret O1 w5 j rb ({s with pos := (m : Int) - (((skipB r).dropWhile letterB).length : Int), kp := lv, k := true} : LS) ((m : Int) - ((skipB r).length : Int)) 5 hj he hb5) rfl ?_
        rintro u w6 ⟨hb6, hU6⟩
        refine WL.nil ?_
        refine QF.seqNext ?_
        refine WC.ret ?_
        refine QF.blockRet ?_
        refine QF.thenRet ?_
        refine QF.blockRet ?_
        refine QF.thenRet ?_
        refine QF.blockRet ?_
        refine QF.thenRet ?_
        exact QF.done0 rfl ⟨O1, lv, _, _, _, hUt5.trans (hU6.mono (fun _ h => .inl h) hz2), hR5.upd hU6, hb6, rfl, by decide, rfl⟩
      | some c =>
        rw [hnum] at hM2
        dsimp only at hM2
        have hnv : numV ((skipB r).takeWhile letterB) = (c : Int) := by unfold numV; rw [hnum]
        rw [hnv]
        refine WC.condF rfl (rfl) ?_
        have hq5 := hb5.q7
        refine WC.skip ?_
        refine QF.blockNormal ?_
        refine QF.seqNext ?_
        refine WC.region ?_
        refine WL.v (RV.move rfl) rfl ?_
        refine WL.v (RV.move rfl) rfl ?_
        refine WL.v (RV.nilPtr rfl) rfl ?_
        refine WL.v (RV.load (by first | exact hq5) (Tryz.isAgg23 _) rfl) rfl ?_
        refine WL.v (RV.move rfl) rfl ?_
        refine WL.push elI8 hrow5 hR5 ((c : Int)) (fun _ => rfl) rfl rfl rfl (by simp [Value.oneCell', encI]) (by omega) (by omega) (by omega) (by decide) rfl rfl ?_
        intro lv7 w7 O7 hrow7 hU7 hR7
        have hone7 := hrow7.one
        have hb7 := hb5.upd hU7 hj hne
        refine WL.v (RV.nilPtr rfl) rfl ?_
        refine WL.storeBlk (j := 7) hb7 rfl (Tryz.sizeOf23 _) hone7 rfl rfl rfl ?_
        have hb8 := hb7.set 7 lv7
        have hU8 : Upd (fun k => k = j) O7 w7 O7 (w7.setCell ⟨rb, 7, none⟩ lv7) := Upd.set (fun e => hj e.symm) hb7.tag rfl
        have hUt8 := (hUt5.trans (hU7.mono (fun _ h => .inr h) hz2)).trans (hU8.mono (fun _ h => .inl h) hz2)
        refine WL.nil ?_
        refine QF.blockNormal ?_
        refine QF.next ((n, acc ++ [(c : Int)], (skipB r).dropWhile letterB, O7, (w7.setCell ⟨rb, 7, none⟩ lv7), lv7)) (⟨hb8, hrow7.upd hU8 hji (fun e => hne e.symm), (List.dropWhile_suffix _).trans hsuf3, hM2, by dsimp only; omega, by simp; omega, hUt8, hR7.upd hU8⟩) (by dsimp only; omega) ⟨rfl, rfl, trivial⟩ rfl
end Go.Proofs.YtmohcfjopaccdaaGreatDoor
end
section
/- Package rule, walked: a line, with lines of classes; Parse. -/
namespace Go.Proofs.YtmohcfjopaccdaaGreatDoor
open Go.VL Go.Proofs
set_option maxRecDepth 10000

/-- What has been read so far. -/
structure St where
  ts : List R3
  li : List Int
  lk : List Int
  hi : Bool
  hk : Bool
inductive RS where
  | go (s : St)
  | bad (p : Nat) (e : Int)
  | other
def addI (st : St) (d : Nat) : LM → RS
  | .ok l => .go {st with li := l, hi := true}
  | .bad p e => .bad (d - p) e
def addK (st : St) (d : Nat) : LM → RS
  | .ok l => .go {st with lk := l, hk := true}
  | .bad p e => .bad (d - p) e
def addR (st : St) (d : Nat) : LR → RS
  | .ok t => .go {st with ts := st.ts ++ [t]}
  | .bad p e => .bad (d + p) e
def readS (st : St) (seg : List UInt8) : RS :=
  if (lineR seg).length = 0 then .go st
  else if ((lineR seg).takeWhile letterB == [108, 101, 116]) = true then .other
  else if ((lineR seg).takeWhile letterB == [105, 103, 110, 111, 114, 101]) = true then
    (if st.hi = true then .bad ((bareL seg).length - (lineR seg).length) 11 else addI st (bareL seg).length (listM ((lineR seg).dropWhile letterB)))
  else if ((lineR seg).takeWhile letterB == [107, 101, 101, 112]) = true then
    (if st.hk = true then .bad ((bareL seg).length - (lineR seg).length) 11 else addK st (bareL seg).length (listM ((lineR seg).dropWhile letterB)))
  else addR st ((bareL seg).length - (lineR seg).length) (if st.ts.length = 40 then LR.bad 0 3 else ruleM (lineR seg))
/-- What has been read, in memory. -/
structure Mem (O : Nat → Nat) (w : World) (jr ji jk : Nat) (s : LS) (st : St) : Prop where
  ru : ∃ xs, RowT encR 50 7 O w jr s.ru xs ∧ st.ts.length = xs.length ∧ xs.length ≤ 40 ∧ ∀ i, i < xs.length → Rt O w (nth st.ts i) (nth xs i)
  ig : RowT encI 3 1 O w ji s.ig st.li
  kp : RowT encI 3 1 O w jk s.kp st.lk
  fi : s.i = st.hi
  fk : s.k = st.hk
  ni : st.hi = false → s.ig = nilV
  nk : st.hk = false → s.kp = nilV
theorem Mem.upd {S : Nat → Prop} {O O' : Nat → Nat} {w w' : World} {jr ji jk : Nat} {s : LS} {st : St} (h : Mem O w jr ji jk s st) (u : Upd S O w O' w') (h1 : jr ≠ 0) (h2 : ji ≠ 0) (h3 : jk ≠ 0) (g1 : ¬ S jr) (g2 : ¬ S ji) (g3 : ¬ S jk) : Mem O' w' jr ji jk s st := by
  obtain ⟨⟨xs, a1, a2, a3, a4⟩, b, c, d, e, f, g⟩ := h
  exact ⟨⟨xs, a1.upd u h1 g1, a2, a3, fun i hi => (a4 i hi).upd u⟩, b.upd u h2 g2, c.upd u h3 g3, d, e, f, g⟩
/-- The rows alone. -/
theorem Mem.with {O : Nat → Nat} {w : World} {jr ji jk : Nat} {s s' : LS} {st : St} (h : Mem O w jr ji jk s st) (e1 : s'.ru = s.ru) (e2 : s'.ig = s.ig) (e3 : s'.kp = s.kp) (e4 : s'.i = s.i) (e5 : s'.k = s.k) : Mem O w jr ji jk s' st := by
  obtain ⟨a, b, c, d, e, f, g⟩ := h
  exact ⟨by rw [e1]; exact a, by rw [e2]; exact b, by rw [e3]; exact c, by rw [e4]; exact d, by rw [e5]; exact e, by rw [e2]; exact f, by rw [e3]; exact g⟩
theorem Mem.push {O : Nat → Nat} {w : World} {jr ji jk : Nat} {s s' : LS} {st : St} {xs : List X3} {x : X3} {t : R3} (h : Mem O w jr ji jk s st) (hr : RowT encR 50 7 O w jr s'.ru (xs ++ [x])) (h1 : st.ts.length = xs.length) (h2 : xs.length < 40) (h3 : ∀ i, i < xs.length → Rt O w (nth st.ts i) (nth xs i)) (h4 : Rt O w t x) (e2 : s'.ig = s.ig) (e3 : s'.kp = s.kp) (e4 : s'.i = s.i) (e5 : s'.k = s.k) : Mem O w jr ji jk s' {st with ts := st.ts ++ [t]} := by
  obtain ⟨q1, q2, q3, q4⟩ := RowsT.push (ts := st.ts) hr h1 h2 h3 h4
  exact ⟨⟨xs ++ [x], q1, q2, q3, q4⟩, by rw [e2]; exact h.ig, by rw [e3]; exact h.kp, by rw [e4]; exact h.fi, by rw [e5]; exact h.fk, by rw [e2]; exact h.ni, by rw [e3]; exact h.nk⟩
def PostN (B : Nat) (O : Nat → Nat) (w w' : World) (j jr ji jk rb : Nat) (s : LS) (fr : Nat) (M : RS) : Prop :=
  ∃ O' s', Upd (fun k => k = j ∨ k = jr ∨ k = ji ∨ k = jk) O w O' w' ∧ Rng B O' w' ∧ Rd6 O' w' j rb s' ∧ s'.l = s.l ∧ s'.mc = s.mc ∧
    match M with
    | .go st' => s'.e = 0 ∧ Mem O' w' jr ji jk s' st'
    | .bad p e => e ≠ 0 ∧ s'.e = e ∧ s'.bad = (fr : Int) + (p : Int)
    | .other => False
theorem read2_ret (B : Nat) (O : Nat → Nat) (w : World) (j jr ji jk rb : Nat) (s : LS) (fr to : Nat) (seg : List UInt8) (st : St) (hR : Rng B O w) (hj : j ≠ 0) (hjr : jr ≠ 0) (hji : ji ≠ 0) (hjk : jk ≠ 0) (hd1 : j ≠ jr) (hd2 : j ≠ ji) (hd3 : j ≠ jk) (hd4 : jr ≠ ji) (hd5 : jr ≠ jk) (hd6 : ji ≠ jk) (hft : fr ≤ to) (htl : to ≤ s.l.length) (hl' : s.l.length ≤ 100000) (he : s.e = 0) (hmc : s.mc = .slice none 0 0)
    (hseg : (s.l.take to).drop fr = seg) (ha : asciiL seg) (hmem : Mem O w jr ji jk s st) (hother : readS st seg ≠ .other) (h : Rd6 O w j rb s) :
    Ret Tryz.prog 19 [.pointer (some ⟨rb, 0, none⟩), .int .i64 fr, .int .i64 to] w fun _ w' => PostN B O w w' j jr ji jk rb s fr (readS st seg) := by
  have hz4 : ¬ (fun q : Nat => q = j ∨ q = jr ∨ q = ji ∨ q = jk) 0 := fun e => by rcases e with e | e | e | e; exact hj e.symm; exact hjr e.symm; exact hji e.symm; exact hjk e.symm
  have hz1 : ¬ (fun q : Nat => q = j) 0 := fun e => hj e.symm
  have hsl : seg.length = to - fr := by rw [← hseg]; simp; omega
  have hRl : (lineR seg).length ≤ (bareL seg).length := skipB_le _
  have hBl : (bareL seg).length ≤ seg.length := (List.takeWhile_prefix (l := seg) _).length_le
  obtain ⟨m, hmd⟩ : ∃ m, m = fr + (bareL seg).length := ⟨_, rfl⟩
  have hm' : m ≤ s.l.length := by omega
  have hbare : (s.l.take m).drop fr = bareL seg := by
    have h1 : bareL seg = seg.take (bareL seg).length := List.prefix_iff_eq_take.1 (List.takeWhile_prefix _)
    have h2 : (seg.take (bareL seg).length) = (s.l.take m).drop fr := by
      conv => lhs; arg 2; rw [← hseg]
      rw [List.take_drop, List.take_take, Nat.min_eq_left (by omega), hmd]
    rw [← h2, ← h1]
  have hsufB : bareL seg <:+ s.l.take m := by rw [← hbare]; exact List.drop_suffix _ _
  have hsufR : lineR seg <:+ s.l.take m := (skipB_suf _).trans hsufB
  have hposB : (fr : Int) = (m : Int) - ((bareL seg).length : Int) := by omega
  have hbgR : (m : Int) - ((skipB (bareL seg)).length : Int) = ((m - (lineR seg).length : Nat) : Int) := by
    have : (skipB (bareL seg)).length = (lineR seg).length := rfl
    omega
  have haR : asciiL (lineR seg) := fun c hc => ha c ((List.takeWhile_prefix (l := seg) _).subset ((skipB_suf _).subset hc))
  refine Ret.enter Tryz.func19 Tryz.ntmps19 rfl rfl ?_
  refine WC.seq ?_
  refine WC.region ?_
  refine WL.v (RV.move rfl) rfl ?_
  refine WL.v (RV.move rfl) rfl ?_
  refine WL.v (RV.move rfl) rfl ?_
  refine WL.v (RV.move rfl) rfl ?_
  refine WL.v (RV.nilPtr rfl) rfl ?_
  refine WL.v (RV.fieldAddr 0 Tryz.underlying56 rfl rfl (Tryz.sizeOf53 _) (by decide) rfl) rfl ?_
  refine WL.v (RV.fieldAddr 1 Tryz.underlying53 rfl rfl (Tryz.sizeOf3 _) (by decide) rfl) rfl ?_
  refine WL.storeBlk (j := 1) h rfl (Tryz.sizeOf3 _) rfl rfl rfl rfl ?_
  have hb1 := h.s_pos (fr : Int)
  have hU1 : Upd (fun k => k = j) O w O (w.setCell ⟨rb, 1, none⟩ (.int .i64 (fr : Int))) := Upd.set hz1 h.tag rfl
  refine WL.v (RV.nilPtr rfl) rfl ?_
  refine WL.v (RV.fieldAddr 0 Tryz.underlying56 rfl rfl (Tryz.sizeOf53 _) (by decide) rfl) rfl ?_
  refine WL.v (RV.fieldAddr 2 Tryz.underlying53 rfl rfl (Tryz.sizeOf3 _) (by decide) rfl) rfl ?_
  refine WL.storeBlk (j := 2) hb1 rfl (Tryz.sizeOf3 _) rfl rfl rfl rfl ?_
  have hb2 := hb1.s_to (to : Int)
  have hU2 : Upd (fun k => k = j) O (w.setCell ⟨rb, 1, none⟩ (.int .i64 (fr : Int))) O ((w.setCell ⟨rb, 1, none⟩ (.int .i64 (fr : Int))).setCell ⟨rb, 2, none⟩ (.int .i64 (to : Int))) := Upd.set hz1 hb1.tag rfl
  have hU12 := hU1.trans hU2
  have hmem2 := hmem.upd hU12 hjr hji hjk (fun e => hd1 e.symm) (fun e => hd2 e.symm) (fun e => hd3 e.symm)
  have hR2 := hR.upd hU12
  generalize (w.setCell ⟨rb, 1, none⟩ (.int .i64 (fr : Int))).setCell ⟨rb, 2, none⟩ (.int .i64 (to : Int)) = w2 at *
  refine WL.nil ?_
  refine QF.seqNext ?_
  refine WC.seq ?_
  refine WC.seq ?_
  refine WC.region ?_
  refine WL.v (RV.move rfl) rfl ?_
  refine WL.v (RV.nilPtr rfl) rfl ?_
  refine WL.v (RV.fieldAddr 0 Tryz.underlying56 rfl rfl (Tryz.sizeOf53 _) (by decide) rfl) rfl ?_
  refine WL.v (RV.fieldAddr 0 Tryz.underlying53 rfl rfl (Tryz.sizeOf9 _) (by decide) rfl) rfl ?_
  refine WL.v (RV.load (by first | exact hb2.q0 | exact hb2.q1 | exact hb2.q2 | exact hb2.q3 | exact hb2.q4 | exact hb2.q5 | exact hb2.q6 | exact hb2.q7 | exact hb2.q8 | exact hb2.q9 | exact hb2.q10 | exact hb2.q11) (Tryz.isAgg9 _) rfl) rfl ?_
  refine WL.v (RV.move rfl) rfl ?_
  refine WL.v (RV.move rfl) rfl ?_
  refine WL.v (RV.sliceS Tryz.underlying9 rfl rfl rfl fr to rfl rfl hft htl) rfl ?_
  rw [show ({s with pos := (fr : Int), to := (to : Int)} : LS).l = s.l from rfl, hseg]
  refine WL.call Tryz.call18 rfl (indexByte_ret seg 35 w2) rfl ?_
  rintro v w9 ⟨rfl, hw9⟩
  rw [hw9]
  clear hw9 w9
  cases hf : seg.findIdx? (· == 35) with
  | none =>
    have hi : idxB seg 35 = -1 := by unfold idxB; rw [hf]
    have hbe := bareL_none hf
    rw [hi]
    obtain rfl : m = to := by rw [hmd, hbe, hsl]; omega
    refine WL.v (RV.assign rfl) rfl ?_
    refine WL.nil ?_
    refine QF.seqNext ?_
    refine WC.seq ?_
    refine WC.region ?_
    refine WL.v (RV.move rfl) rfl ?_
    refine WL.v (RV.geq rfl rfl) rfl ?_
    refine WL.nil ?_
    refine QF.seqNext ?_
    refine WC.condF rfl (rfl) ?_
    have hmem3 := hmem2
    have hR3 := hR2
    have hUt3 := hU12.mono (S' := fun k => k = j ∨ k = jr ∨ k = ji ∨ k = jk) (fun _ h => .inl h) hz4
    refine WC.skip ?_
    refine QF.seqNext ?_
    refine WC.seq ?_
    refine WC.seq ?_
    refine WC.region ?_
    refine WL.v (RV.move rfl) rfl ?_
    refine WL.v (RV.nilPtr rfl) rfl ?_
    refine WL.v (RV.fieldAddr 0 Tryz.underlying56 rfl rfl (Tryz.sizeOf53 _) (by decide) rfl) rfl ?_
    refine WL.call Tryz.call38 rfl (rblanks_ret O w2 j rb ({s with pos := (fr : Int), to := (m : Int)} : LS) m (bareL seg) hj hm' hl' rfl hsufB hposB hb2) rfl ?_
    rintro v w4 ⟨rfl, hb4, hU4⟩
    have hmem4 := hmem3.upd hU4 hjr hji hjk (fun e => hd1 e.symm) (fun e => hd2 e.symm) (fun e => hd3 e.symm)
    have hR4 := hR3.upd hU4
    have hUt4 := hUt3.trans (hU4.mono (fun _ h => .inl h) hz4)
    refine WL.v (RV.not rfl) rfl ?_
    refine WL.nil ?_
    refine QF.seqNext ?_
    by_cases h0 : (lineR seg).length = 0
    · have hM : readS st seg = .go st := by unfold readS; rw [if_pos h0]
      rw [hM]
      refine WC.condT rfl ((by have h0' : (skipB (bareL seg)).length = 0 := h0; simp [h0'])) ?_
      refine WC.ret ?_
      refine QF.thenRet ?_
      exact QF.done0 rfl ⟨O, _, hUt4, hR4, hb4, rfl, rfl, he, hmem4.with rfl rfl rfl rfl rfl⟩
    · have h0' : (skipB (bareL seg)).length = (lineR seg).length := rfl
      refine WC.condF rfl ((by rw [h0', decide_eq_true (by omega)]; rfl)) ?_
      refine WC.skip ?_
      refine QF.seqNext ?_
      refine WC.seq ?_
      refine WC.region ?_
      refine WL.v (RV.move rfl) rfl ?_
      refine WL.v (RV.move rfl) rfl ?_
      refine WL.v (RV.nilPtr rfl) rfl ?_
      refine WL.v (RV.fieldAddr 0 Tryz.underlying56 rfl rfl (Tryz.sizeOf53 _) (by decide) rfl) rfl ?_
      refine WL.v (RV.fieldAddr 1 Tryz.underlying53 rfl rfl (Tryz.sizeOf3 _) (by decide) rfl) rfl ?_
      refine WL.v (RV.load (by first | exact hb4.q0 | exact hb4.q1 | exact hb4.q2 | exact hb4.q3 | exact hb4.q4 | exact hb4.q5 | exact hb4.q6 | exact hb4.q7 | exact hb4.q8 | exact hb4.q9 | exact hb4.q10 | exact hb4.q11) (Tryz.isAgg3 _) rfl) rfl ?_
      refine WL.v (RV.nilPtr rfl) rfl ?_
      refine WL.v (RV.fieldAddr 0 Tryz.underlying56 rfl rfl (Tryz.sizeOf53 _) (by decide) rfl) rfl ?_
      refine WL.v (RV.fieldAddr 3 Tryz.underlying53 rfl rfl (Tryz.sizeOf3 _) (by decide) rfl) rfl ?_
      refine WL.storeBlk (j := 3) hb4 rfl (Tryz.sizeOf3 _) rfl rfl rfl rfl ?_
      have hb5 := hb4.s_bg ((m : Int) - ((skipB (bareL seg)).length : Int))
      have hU5 : Upd (fun k => k = j) O w4 O (w4.setCell ⟨rb, 3, none⟩ (.int .i64 ((m : Int) - ((skipB (bareL seg)).length : Int)))) := Upd.set (fun e => hj e.symm) hb4.tag rfl
      have hmem5 := hmem4.upd hU5 hjr hji hjk (fun e => hd1 e.symm) (fun e => hd2 e.symm) (fun e => hd3 e.symm)
      have hR5 := hR4.upd hU5
      have hUt5 := hUt4.trans (hU5.mono (fun _ h => .inl h) hz4)
      generalize w4.setCell ⟨rb, 3, none⟩ (.int .i64 ((m : Int) - ((skipB (bareL seg)).length : Int))) = w5 at *
      refine WL.nil ?_
      refine QF.seqNext ?_
      refine WC.seq ?_
      refine WC.region ?_
      refine WL.v (RV.move rfl) rfl ?_
      refine WL.v (RV.nilPtr rfl) rfl ?_
      refine WL.v (RV.fieldAddr 0 Tryz.underlying56 rfl rfl (Tryz.sizeOf53 _) (by decide) rfl) rfl ?_
      refine WL.call Tryz.call39 rfl (rname_ret O w5 j rb ({s with pos := ((m : Int) - ((skipB (bareL seg)).length : Int)), to := (m : Int), bg := ((m : Int) - ((skipB (bareL seg)).length : Int))} : LS) m (lineR seg) hj hm' hl' rfl hsufR rfl hb5) rfl ?_
      rintro v w6 ⟨rfl, hb6, hU6⟩
      have hmem6 := hmem5.upd hU6 hjr hji hjk (fun e => hd1 e.symm) (fun e => hd2 e.symm) (fun e => hd3 e.symm)
      have hR6 := hR5.upd hU6
      have hUt6 := hUt5.trans (hU6.mono (fun _ h => .inl h) hz4)
      have hdl := (List.dropWhile_suffix (l := lineR seg) letterB).length_le
      have hk1 : ((lineR seg).takeWhile letterB == [108, 101, 116]) = false := by
        cases hk : ((lineR seg).takeWhile letterB == [108, 101, 116]) with
        | false => rfl
        | true => exact absurd (by unfold readS; rw [if_neg h0, if_pos hk]) hother
      refine WL.nil ?_
      refine QF.seqNext ?_
      refine WC.block ?_
      refine WC.seq ?_
      refine WC.region ?_
      refine WL.v (RV.eqlS rfl rfl) rfl ?_
      refine WL.v (RV.assign rfl) rfl ?_
      refine WL.nil ?_
      refine QF.seqNext ?_
      refine WC.condF rfl (hk1) ?_
      refine WC.seq ?_
      refine WC.region ?_
      refine WL.v (RV.eqlS rfl rfl) rfl ?_
      refine WL.v (RV.assign rfl) rfl ?_
      refine WL.nil ?_
      refine QF.seqNext ?_
      cases hk2 : ((lineR seg).takeWhile letterB == [105, 103, 110, 111, 114, 101]) with
      | true =>
        refine WC.condT rfl (rfl) ?_
        have hb6d := hb6.drew
        have hmem6d := hmem6.upd (Upd.of_ext (S := fun _ => False) (fun h => h) O (Ext.refl w6).drew) hjr hji hjk (fun h => h) (fun h => h) (fun h => h)
        have hR6d := hR6.drew
        have hUt6d := hUt6.drew
        refine WC.tail 8 rfl rfl (by kernel_rfl) (by kernel_rfl) ?_
        refine WS.v (RV.move rfl) rfl ?_
        refine WS.v (RV.move rfl) rfl ?_
        refine WS.v (RV.nilPtr rfl) rfl ?_
        refine WS.v (RV.fieldAddr 6 Tryz.underlying56 rfl rfl (Tryz.sizeOf26 _) (by decide) rfl) rfl ?_
        refine WS.v (RV.fieldAddr 0 Tryz.underlying26 rfl rfl (Tryz.sizeOf23 _) (by decide) rfl) rfl ?_
        refine WS.v (RV.move rfl) rfl ?_
        refine WS.v (RV.nilPtr rfl) rfl ?_
        refine WS.v (RV.fieldAddr 10 Tryz.underlying56 rfl rfl (Tryz.sizeOf4 _) (by decide) rfl) rfl ?_
        refine WS.go ?_
        cases hfl : st.hi with
        | true =>
          have hM : readS st seg = .bad ((bareL seg).length - (lineR seg).length) 11 := by unfold readS; rw [if_neg h0, if_neg (by rw [hk1]; decide), if_pos hk2, if_pos hfl]
          rw [hM]
          refine WL.call Tryz.call41 rfl (listI2_ret O w6.drew j rb ({s with pos := (m : Int) - (((lineR seg).dropWhile letterB).length : Int), to := (m : Int), bg := ((m : Int) - ((skipB (bareL seg)).length : Int))} : LS) hj he (hmem6d.fi.trans hfl) hb6d) rfl ?_
          rintro u w7 ⟨hb7, hU7⟩
          refine WL.nil ?_
          refine QF.blockNormal ?_
          exact QF.end0 rfl ⟨O, _, hUt6d.trans (hU7.mono (fun _ h => .inl h) hz4), hR6d.upd hU7, hb7, rfl, rfl, by decide, rfl, by dsimp only; rw [h0']; omega⟩
        | false =>
          have hM : readS st seg = addI st (bareL seg).length (listM ((lineR seg).dropWhile letterB)) := by unfold readS; rw [if_neg h0, if_neg (by rw [hk1]; decide), if_pos hk2, if_neg (by rw [hfl]; decide)]
          rw [hM]
          refine WL.call Tryz.call41 rfl (listI_ret B O w6.drew j ji rb ({s with pos := (m : Int) - (((lineR seg).dropWhile letterB).length : Int), to := (m : Int), bg := ((m : Int) - ((skipB (bareL seg)).length : Int))} : LS) m ((lineR seg).dropWhile letterB) hR6d hj hji hd2 hm' hl' rfl he (hmem6d.fi.trans hfl) (hmem6d.ni hfl) ((List.dropWhile_suffix _).trans hsufR) rfl hb6d) rfl ?_
          rintro u w7 ⟨O7, lv, pos, bad, e, hU7, hR7, hb7, hP7⟩
          have hUt7 := hUt6d.trans (hU7.mono (S' := fun k => k = j ∨ k = jr ∨ k = ji ∨ k = jk) (fun _ h => by rcases h with h | h; exact .inl h; exact .inr (.inr (.inl h))) hz4)
          refine WL.nil ?_
          refine QF.blockNormal ?_
          cases hq : listM ((lineR seg).dropWhile letterB) with
          | ok l =>
            rw [hq] at hP7
            obtain ⟨he7, hrow7⟩ := hP7
            obtain ⟨⟨xs, a1, a2, a3, a4⟩, mb, mc, md, me, mf, mg⟩ := hmem6d
            exact QF.end0 rfl ⟨O7, _, hUt7, hR7, hb7, rfl, rfl, he7, ⟨⟨xs, a1.upd hU7 hjr (fun h => by rcases h with h | h; exact hd1 h.symm; exact hd4 h), a2, a3, fun i hi => (a4 i hi).upd hU7⟩, hrow7, mc.upd hU7 hjk (fun h => by rcases h with h | h; exact hd3 h.symm; exact hd6 h.symm), rfl, me, (fun h => by cases h), mg⟩⟩
          | bad p e' =>
            rw [hq] at hP7
            obtain ⟨he7, hne7, hbad7⟩ := hP7
            have hple := listM_le hq
            exact QF.end0 rfl ⟨O7, _, hUt7, hR7, hb7, rfl, rfl, hne7, he7, by dsimp only; rw [hbad7]; omega⟩
      | false =>
        refine WC.condF rfl (rfl) ?_
        refine WC.seq ?_
        refine WC.region ?_
        refine WL.v (RV.eqlS rfl rfl) rfl ?_
        refine WL.v (RV.assign rfl) rfl ?_
        refine WL.nil ?_
        refine QF.seqNext ?_
        cases hk3 : ((lineR seg).takeWhile letterB == [107, 101, 101, 112]) with
        | true =>
          refine WC.condT rfl (rfl) ?_
          have hb6d := hb6.drew
          have hmem6d := hmem6.upd (Upd.of_ext (S := fun _ => False) (fun h => h) O (Ext.refl w6).drew) hjr hji hjk (fun h => h) (fun h => h) (fun h => h)
          have hR6d := hR6.drew
          have hUt6d := hUt6.drew
          refine WC.tail 8 rfl rfl (by kernel_rfl) (by kernel_rfl) ?_
          refine WS.v (RV.move rfl) rfl ?_
          refine WS.v (RV.move rfl) rfl ?_
          refine WS.v (RV.nilPtr rfl) rfl ?_
          refine WS.v (RV.fieldAddr 6 Tryz.underlying56 rfl rfl (Tryz.sizeOf26 _) (by decide) rfl) rfl ?_
          refine WS.v (RV.fieldAddr 1 Tryz.underlying26 rfl rfl (Tryz.sizeOf23 _) (by decide) rfl) rfl ?_
          refine WS.v (RV.move rfl) rfl ?_
          refine WS.v (RV.nilPtr rfl) rfl ?_
          refine WS.v (RV.fieldAddr 11 Tryz.underlying56 rfl rfl (Tryz.sizeOf4 _) (by decide) rfl) rfl ?_
          refine WS.go ?_
          cases hfl : st.hk with
          | true =>
            have hM : readS st seg = .bad ((bareL seg).length - (lineR seg).length) 11 := by unfold readS; rw [if_neg h0, if_neg (by rw [hk1]; decide), if_neg (by rw [hk2]; decide), if_pos hk3, if_pos hfl]
            rw [hM]
            refine WL.call Tryz.call41 rfl (listK2_ret O w6.drew j rb ({s with pos := (m : Int) - (((lineR seg).dropWhile letterB).length : Int), to := (m : Int), bg := ((m : Int) - ((skipB (bareL seg)).length : Int))} : LS) hj he (hmem6d.fk.trans hfl) hb6d) rfl ?_
            rintro u w7 ⟨hb7, hU7⟩
            refine WL.nil ?_
            refine QF.blockNormal ?_
            exact QF.end0 rfl ⟨O, _, hUt6d.trans (hU7.mono (fun _ h => .inl h) hz4), hR6d.upd hU7, hb7, rfl, rfl, by decide, rfl, by dsimp only; rw [h0']; omega⟩
          | false =>
            have hM : readS st seg = addK st (bareL seg).length (listM ((lineR seg).dropWhile letterB)) := by unfold readS; rw [if_neg h0, if_neg (by rw [hk1]; decide), if_neg (by rw [hk2]; decide), if_pos hk3, if_neg (by rw [hfl]; decide)]
            rw [hM]
            refine WL.call Tryz.call41 rfl (listK_ret B O w6.drew j jk rb ({s with pos := (m : Int) - (((lineR seg).dropWhile letterB).length : Int), to := (m : Int), bg := ((m : Int) - ((skipB (bareL seg)).length : Int))} : LS) m ((lineR seg).dropWhile letterB) hR6d hj hjk hd3 hm' hl' rfl he (hmem6d.fk.trans hfl) (hmem6d.nk hfl) ((List.dropWhile_suffix _).trans hsufR) rfl hb6d) rfl ?_
            rintro u w7 ⟨O7, lv, pos, bad, e, hU7, hR7, hb7, hP7⟩
            have hUt7 := hUt6d.trans (hU7.mono (S' := fun k => k = j ∨ k = jr ∨ k = ji ∨ k = jk) (fun _ h => by rcases h with h | h; exact .inl h; exact .inr (.inr (.inr h))) hz4)
            refine WL.nil ?_
            refine QF.blockNormal ?_
            cases hq : listM ((lineR seg).dropWhile letterB) with
            | ok l =>
              rw [hq] at hP7
              obtain ⟨he7, hrow7⟩ := hP7
              obtain ⟨⟨xs, a1, a2, a3, a4⟩, mb, mc, md, me, mf, mg⟩ := hmem6d
              exact QF.end0 rfl ⟨O7, _, hUt7, hR7, hb7, rfl, rfl, he7, ⟨⟨xs, a1.upd hU7 hjr (fun h => by rcases h with h | h; exact hd1 h.symm; exact hd5 h), a2, a3, fun i hi => (a4 i hi).upd hU7⟩, mb.upd hU7 hji (fun h => by rcases h with h | h; exact hd2 h.symm; exact hd6 h), hrow7, md, rfl, mf, (fun h => by cases h)⟩⟩
            | bad p e' =>
              rw [hq] at hP7
              obtain ⟨he7, hne7, hbad7⟩ := hP7
              have hple := listM_le hq
              exact QF.end0 rfl ⟨O7, _, hUt7, hR7, hb7, rfl, rfl, hne7, he7, by dsimp only; rw [hbad7]; omega⟩
        | false =>
          have hM : readS st seg = addR st ((bareL seg).length - (lineR seg).length) (if st.ts.length = 40 then LR.bad 0 3 else ruleM (lineR seg)) := by unfold readS; rw [if_neg h0, if_neg (by rw [hk1]; decide), if_neg (by rw [hk2]; decide), if_neg (by rw [hk3]; decide)]
          refine WC.condF rfl (rfl) ?_
          obtain ⟨xs, hrow6, hxe, hxl, hxr⟩ := hmem6.ru
          refine WC.region ?_
          refine WL.v (RV.move rfl) rfl ?_
          refine WL.call Tryz.call42 rfl (rule_ret B O w6 j jr rb ({s with pos := (m : Int) - (((lineR seg).dropWhile letterB).length : Int), to := (m : Int), bg := ((m : Int) - ((skipB (bareL seg)).length : Int))} : LS) m (lineR seg) xs hR6 hj hjr hd1 hm' hl' rfl hbgR he hmc hsufR haR hrow6 hxl hb6) rfl ?_
          rintro v w7 ⟨O7, rv, hU7, hR7, hP7⟩
          have hUt7 := hUt6.trans (hU7.mono (S' := fun k => k = j ∨ k = jr ∨ k = ji ∨ k = jk) (fun _ h => by rcases h with h | h; exact .inl h; exact .inr (.inl h)) hz4)
          refine WL.nil ?_
          refine QF.blockNormal ?_
          rw [hM, hxe]
          cases hq : (if xs.length = 40 then LR.bad 0 3 else ruleM (lineR seg)) with
          | ok t =>
            rw [hq] at hP7
            obtain ⟨x, hrow7, hRt7, hb7⟩ := hP7
            have h40 : xs.length ≠ 40 := fun e => by rw [if_pos e] at hq; cases hq
            obtain ⟨_, mb, mc, md, me, mf, mg⟩ := hmem6
            obtain ⟨q1, q2, q3, q4⟩ := RowsT.push (ts := st.ts) hrow7 hxe (by omega) (fun i hi => (hxr i hi).upd hU7) hRt7
            exact QF.end0 rfl ⟨O7, _, hUt7, hR7, hb7, rfl, rfl, he, ⟨⟨xs ++ [x], q1, q2, q3, q4⟩, mb.upd hU7 hji (fun h => by rcases h with h | h; exact hd2 h.symm; exact hd4 h.symm), mc.upd hU7 hjk (fun h => by rcases h with h | h; exact hd3 h.symm; exact hd5 h.symm), md, me, mf, mg⟩⟩
          | bad p e =>
            rw [hq] at hP7
            obtain ⟨hne7, hb7⟩ := hP7
            exact QF.end0 rfl ⟨O7, _, hUt7, hR7, hb7, rfl, rfl, hne7, rfl, by dsimp only; rw [h0']; omega⟩
  | some k =>
    have hi : idxB seg 35 = (k : Nat) := by unfold idxB; rw [hf]
    obtain ⟨hbe, hkl⟩ := bareL_some hf
    rw [hi]
    have hmk : m = fr + k := by rw [hmd, hbe]; simp; omega
    refine WL.v (RV.assign rfl) rfl ?_
    refine WL.nil ?_
    refine QF.seqNext ?_
    refine WC.seq ?_
    refine WC.region ?_
    refine WL.v (RV.move rfl) rfl ?_
    refine WL.v (RV.geq rfl rfl) rfl ?_
    refine WL.nil ?_
    refine QF.seqNext ?_
    refine WC.condT rfl ((decide_eq_true (by omega))) ?_
    refine WC.region ?_
    refine WL.v (RV.move rfl) rfl ?_
    refine WL.v (RV.move rfl) rfl ?_
    refine WL.v (RV.move rfl) rfl ?_
    refine WL.v (RV.add rfl rfl (Fit.i64 (by omega))) rfl ?_
    refine WL.v (RV.nilPtr rfl) rfl ?_
    refine WL.v (RV.fieldAddr 0 Tryz.underlying56 rfl rfl (Tryz.sizeOf53 _) (by decide) rfl) rfl ?_
    refine WL.v (RV.fieldAddr 2 Tryz.underlying53 rfl rfl (Tryz.sizeOf3 _) (by decide) rfl) rfl ?_
    refine WL.storeBlk (j := 2) hb2 rfl (Tryz.sizeOf3 _) rfl rfl rfl rfl ?_
    rw [show (fr : Int) + ((k : Nat) : Int) = (m : Int) from by omega]
    have hb3 := hb2.s_to (m : Int)
    have hU3 : Upd (fun k => k = j) O w2 O (w2.setCell ⟨rb, 2, none⟩ (.int .i64 (m : Int))) := Upd.set hz1 hb2.tag rfl
    have hmem3 := hmem2.upd hU3 hjr hji hjk (fun e => hd1 e.symm) (fun e => hd2 e.symm) (fun e => hd3 e.symm)
    have hR3 := hR2.upd hU3
    have hUt3 := (hU12.trans hU3).mono (S' := fun k => k = j ∨ k = jr ∨ k = ji ∨ k = jk) (fun _ h => .inl h) hz4
    generalize w2.setCell ⟨rb, 2, none⟩ (.int .i64 (m : Int)) = w3 at *
    refine WL.nil ?_
    refine QF.seqNext ?_
    refine WC.seq ?_
    refine WC.seq ?_
    refine WC.region ?_
    refine WL.v (RV.move rfl) rfl ?_
    refine WL.v (RV.nilPtr rfl) rfl ?_
    refine WL.v (RV.fieldAddr 0 Tryz.underlying56 rfl rfl (Tryz.sizeOf53 _) (by decide) rfl) rfl ?_
    refine WL.call Tryz.call38 rfl (rblanks_ret O w3 j rb ({s with pos := (fr : Int), to := (m : Int)} : LS) m (bareL seg) hj hm' hl' rfl hsufB hposB hb3) rfl ?_
    rintro v w4 ⟨rfl, hb4, hU4⟩
    have hmem4 := hmem3.upd hU4 hjr hji hjk (fun e => hd1 e.symm) (fun e => hd2 e.symm) (fun e => hd3 e.symm)
    have hR4 := hR3.upd hU4
    have hUt4 := hUt3.trans (hU4.mono (fun _ h => .inl h) hz4)
    refine WL.v (RV.not rfl) rfl ?_
    refine WL.nil ?_
    refine QF.seqNext ?_
    by_cases h0 : (lineR seg).length = 0
    · have hM : readS st seg = .go st := by unfold readS; rw [if_pos h0]
      rw [hM]
      refine WC.condT rfl ((by have h0' : (skipB (bareL seg)).length = 0 := h0; simp [h0'])) ?_
      refine WC.ret ?_
      refine QF.thenRet ?_
      exact QF.done0 rfl ⟨O, _, hUt4, hR4, hb4, rfl, rfl, he, hmem4.with rfl rfl rfl rfl rfl⟩
    · have h0' : (skipB (bareL seg)).length = (lineR seg).length := rfl
      refine WC.condF rfl ((by rw [h0', decide_eq_true (by omega)]; rfl)) ?_
      refine WC.skip ?_
      refine QF.seqNext ?_
      refine WC.seq ?_
      refine WC.region ?_
      refine WL.v (RV.move rfl) rfl ?_
      refine WL.v (RV.move rfl) rfl ?_
      refine WL.v (RV.nilPtr rfl) rfl ?_
      refine WL.v (RV.fieldAddr 0 Tryz.underlying56 rfl rfl (Tryz.sizeOf53 _) (by decide) rfl) rfl ?_
      refine WL.v (RV.fieldAddr 1 Tryz.underlying53 rfl rfl (Tryz.sizeOf3 _) (by decide) rfl) rfl ?_
      refine WL.v (RV.load (by first | exact hb4.q0 | exact hb4.q1 | exact hb4.q2 | exact hb4.q3 | exact hb4.q4 | exact hb4.q5 | exact hb4.q6 | exact hb4.q7 | exact hb4.q8 | exact hb4.q9 | exact hb4.q10 | exact hb4.q11) (Tryz.isAgg3 _) rfl) rfl ?_
      refine WL.v (RV.nilPtr rfl) rfl ?_
      refine WL.v (RV.fieldAddr 0 Tryz.underlying56 rfl rfl (Tryz.sizeOf53 _) (by decide) rfl) rfl ?_
      refine WL.v (RV.fieldAddr 3 Tryz.underlying53 rfl rfl (Tryz.sizeOf3 _) (by decide) rfl) rfl ?_
      refine WL.storeBlk (j := 3) hb4 rfl (Tryz.sizeOf3 _) rfl rfl rfl rfl ?_
      have hb5 := hb4.s_bg ((m : Int) - ((skipB (bareL seg)).length : Int))
      have hU5 : Upd (fun k => k = j) O w4 O (w4.setCell ⟨rb, 3, none⟩ (.int .i64 ((m : Int) - ((skipB (bareL seg)).length : Int)))) := Upd.set (fun e => hj e.symm) hb4.tag rfl
      have hmem5 := hmem4.upd hU5 hjr hji hjk (fun e => hd1 e.symm) (fun e => hd2 e.symm) (fun e => hd3 e.symm)
      have hR5 := hR4.upd hU5
      have hUt5 := hUt4.trans (hU5.mono (fun _ h => .inl h) hz4)
      generalize w4.setCell ⟨rb, 3, none⟩ (.int .i64 ((m : Int) - ((skipB (bareL seg)).length : Int))) = w5 at *
      refine WL.nil ?_
      refine QF.seqNext ?_
      refine WC.seq ?_
      refine WC.region ?_
      refine WL.v (RV.move rfl) rfl ?_
      refine WL.v (RV.nilPtr rfl) rfl ?_
      refine WL.v (RV.fieldAddr 0 Tryz.underlying56 rfl rfl (Tryz.sizeOf53 _) (by decide) rfl) rfl ?_
      refine WL.call Tryz.call39 rfl (rname_ret O w5 j rb ({s with pos := ((m : Int) - ((skipB (bareL seg)).length : Int)), to := (m : Int), bg := ((m : Int) - ((skipB (bareL seg)).length : Int))} : LS) m (lineR seg) hj hm' hl' rfl hsufR rfl hb5) rfl ?_
      rintro v w6 ⟨rfl, hb6, hU6⟩
      have hmem6 := hmem5.upd hU6 hjr hji hjk (fun e => hd1 e.symm) (fun e => hd2 e.symm) (fun e => hd3 e.symm)
      have hR6 := hR5.upd hU6
      have hUt6 := hUt5.trans (hU6.mono (fun _ h => .inl h) hz4)
      have hdl := (List.dropWhile_suffix (l := lineR seg) letterB).length_le
      have hk1 : ((lineR seg).takeWhile letterB == [108, 101, 116]) = false := by
        cases hk : ((lineR seg).takeWhile letterB == [108, 101, 116]) with
        | false => rfl
        | true => exact absurd (by unfold readS; rw [if_neg h0, if_pos hk]) hother
      refine WL.nil ?_
      refine QF.seqNext ?_
      refine WC.block ?_
      refine WC.seq ?_
      refine WC.region ?_
      refine WL.v (RV.eqlS rfl rfl) rfl ?_
      refine WL.v (RV.assign rfl) rfl ?_
      refine WL.nil ?_
      refine QF.seqNext ?_
      refine WC.condF rfl (hk1) ?_
      refine WC.seq ?_
      refine WC.region ?_
      refine WL.v (RV.eqlS rfl rfl) rfl ?_
      refine WL.v (RV.assign rfl) rfl ?_
      refine WL.nil ?_
      refine QF.seqNext ?_
      cases hk2 : ((lineR seg).takeWhile letterB == [105, 103, 110, 111, 114, 101]) with
      | true =>
        refine WC.condT rfl (rfl) ?_
        have hb6d := hb6.drew
        have hmem6d := hmem6.upd (Upd.of_ext (S := fun _ => False) (fun h => h) O (Ext.refl w6).drew) hjr hji hjk (fun h => h) (fun h => h) (fun h => h)
        have hR6d := hR6.drew
        have hUt6d := hUt6.drew
        refine WC.tail 8 rfl rfl (by kernel_rfl) (by kernel_rfl) ?_
        refine WS.v (RV.move rfl) rfl ?_
        refine WS.v (RV.move rfl) rfl ?_
        refine WS.v (RV.nilPtr rfl) rfl ?_
        refine WS.v (RV.fieldAddr 6 Tryz.underlying56 rfl rfl (Tryz.sizeOf26 _) (by decide) rfl) rfl ?_
        refine WS.v (RV.fieldAddr 0 Tryz.underlying26 rfl rfl (Tryz.sizeOf23 _) (by decide) rfl) rfl ?_
        refine WS.v (RV.move rfl) rfl ?_
        refine WS.v (RV.nilPtr rfl) rfl ?_
        refine WS.v (RV.fieldAddr 10 Tryz.underlying56 rfl rfl (Tryz.sizeOf4 _) (by decide) rfl) rfl ?_
        refine WS.go ?_
        cases hfl : st.hi with
        | true =>
          have hM : readS st seg = .bad ((bareL seg).length - (lineR seg).length) 11 := by unfold readS; rw [if_neg h0, if_neg (by rw [hk1]; decide), if_pos hk2, if_pos hfl]
          rw [hM]
          refine WL.call Tryz.call41 rfl (listI2_ret O w6.drew j rb ({s with pos := (m : Int) - (((lineR seg).dropWhile letterB).length : Int), to := (m : Int), bg := ((m : Int) - ((skipB (bareL seg)).length : Int))} : LS) hj he (hmem6d.fi.trans hfl) hb6d) rfl ?_
          rintro u w7 ⟨hb7, hU7⟩
          refine WL.nil ?_
          refine QF.blockNormal ?_
          exact QF.end0 rfl ⟨O, _, hUt6d.trans (hU7.mono (fun _ h => .inl h) hz4), hR6d.upd hU7, hb7, rfl, rfl, by decide, rfl, by dsimp only; rw [h0']; omega⟩
        | false =>
          have hM : readS st seg = addI st (bareL seg).length (listM ((lineR seg).dropWhile letterB)) := by unfold readS; rw [if_neg h0, if_neg (by rw [hk1]; decide), if_pos hk2, if_neg (by rw [hfl]; decide)]
          rw [hM]
          refine WL.call Tryz.call41 rfl (listI_ret B O w6.drew j ji rb ({s with pos := (m : Int) - (((lineR seg).dropWhile letterB).length : Int), to := (m : Int), bg := ((m : Int) - ((skipB (bareL seg)).length : Int))} : LS) m ((lineR seg).dropWhile letterB) hR6d hj hji hd2 hm' hl' rfl he (hmem6d.fi.trans hfl) (hmem6d.ni hfl) ((List.dropWhile_suffix _).trans hsufR) rfl hb6d) rfl ?_
          rintro u w7 ⟨O7, lv, pos, bad, e, hU7, hR7, hb7, hP7⟩
          have hUt7 := hUt6d.trans (hU7.mono (S' := fun k => k = j ∨ k = jr ∨ k = ji ∨ k = jk) (fun _ h => by rcases h with h | h; exact .inl h; exact .inr (.inr (.inl h))) hz4)
          refine WL.nil ?_
          refine QF.blockNormal ?_
          cases hq : listM ((lineR seg).dropWhile letterB) with
          | ok l =>
            rw [hq] at hP7
            obtain ⟨he7, hrow7⟩ := hP7
            obtain ⟨⟨xs, a1, a2, a3, a4⟩, mb, mc, md, me, mf, mg⟩ := hmem6d
            exact QF.end0 rfl ⟨O7, _, hUt7, hR7, hb7, rfl, rfl, he7, ⟨⟨xs, a1.upd hU7 hjr (fun h => by rcases h with h | h; exact hd1 h.symm; exact hd4 h), a2, a3, fun i hi => (a4 i hi).upd hU7⟩, hrow7, mc.upd hU7 hjk (fun h => by rcases h with h | h; exact hd3 h.symm; exact hd6 h.symm), rfl, me, (fun h => by cases h), mg⟩⟩
          | bad p e' =>
            rw [hq] at hP7
            obtain ⟨he7, hne7, hbad7⟩ := hP7
            have hple := listM_le hq
            exact QF.end0 rfl ⟨O7, _, hUt7, hR7, hb7, rfl, rfl, hne7, he7, by dsimp only; rw [hbad7]; omega⟩
      | false =>
        refine WC.condF rfl (rfl) ?_
        refine WC.seq ?_
        refine WC.region ?_
        refine WL.v (RV.eqlS rfl rfl) rfl ?_
        refine WL.v (RV.assign rfl) rfl ?_
        refine WL.nil ?_
        refine QF.seqNext ?_
        cases hk3 : ((lineR seg).takeWhile letterB == [107, 101, 101, 112]) with
        | true =>
          refine WC.condT rfl (rfl) ?_
          have hb6d := hb6.drew
          have hmem6d := hmem6.upd (Upd.of_ext (S := fun _ => False) (fun h => h) O (Ext.refl w6).drew) hjr hji hjk (fun h => h) (fun h => h) (fun h => h)
          have hR6d := hR6.drew
          have hUt6d := hUt6.drew
          refine WC.tail 8 rfl rfl (by kernel_rfl) (by kernel_rfl) ?_
          refine WS.v (RV.move rfl) rfl ?_
          refine WS.v (RV.move rfl) rfl ?_
          refine WS.v (RV.nilPtr rfl) rfl ?_
          refine WS.v (RV.fieldAddr 6 Tryz.underlying56 rfl rfl (Tryz.sizeOf26 _) (by decide) rfl) rfl ?_
          refine WS.v (RV.fieldAddr 1 Tryz.underlying26 rfl rfl (Tryz.sizeOf23 _) (by decide) rfl) rfl ?_
          refine WS.v (RV.move rfl) rfl ?_
          refine WS.v (RV.nilPtr rfl) rfl ?_
          refine WS.v (RV.fieldAddr 11 Tryz.underlying56 rfl rfl (Tryz.sizeOf4 _) (by decide) rfl) rfl ?_
          refine WS.go ?_
          cases hfl : st.hk with
          | true =>
            have hM : readS st seg = .bad ((bareL seg).length - (lineR seg).length) 11 := by unfold readS; rw [if_neg h0, if_neg (by rw [hk1]; decide), if_neg (by rw [hk2]; decide), if_pos hk3, if_pos hfl]
            rw [hM]
            refine WL.call Tryz.call41 rfl (listK2_ret O w6.drew j rb ({s with pos := (m : Int) - (((lineR seg).dropWhile letterB).length : Int), to := (m : Int), bg := ((m : Int) - ((skipB (bareL seg)).length : Int))} : LS) hj he (hmem6d.fk.trans hfl) hb6d) rfl ?_
            rintro u w7 ⟨hb7, hU7⟩
            refine WL.nil ?_
            refine QF.blockNormal ?_
            exact QF.end0 rfl ⟨O, _, hUt6d.trans (hU7.mono (fun _ h => .inl h) hz4), hR6d.upd hU7, hb7, rfl, rfl, by decide, rfl, by dsimp only; rw [h0']; omega⟩
          | false =>
            have hM : readS st seg = addK st (bareL seg).length (listM ((lineR seg).dropWhile letterB)) := by unfold readS; rw [if_neg h0, if_neg (by rw [hk1]; decide), if_neg (by rw [hk2]; decide), if_pos hk3, if_neg (by rw [hfl]; decide)]
            rw [hM]
            refine WL.call Tryz.call41 rfl (listK_ret B O w6.drew j jk rb ({s with pos := (m : Int) - (((lineR seg).dropWhile letterB).length : Int), to := (m : Int), bg := ((m : Int) - ((skipB (bareL seg)).length : Int))} : LS) m ((lineR seg).dropWhile letterB) hR6d hj hjk hd3 hm' hl' rfl he (hmem6d.fk.trans hfl) (hmem6d.nk hfl) ((List.dropWhile_suffix _).trans hsufR) rfl hb6d) rfl ?_
            rintro u w7 ⟨O7, lv, pos, bad, e, hU7, hR7, hb7, hP7⟩
            have hUt7 := hUt6d.trans (hU7.mono (S' := fun k => k = j ∨ k = jr ∨ k = ji ∨ k = jk) (fun _ h => by rcases h with h | h; exact .inl h; exact .inr (.inr (.inr h))) hz4)
            refine WL.nil ?_
            refine QF.blockNormal ?_
            cases hq : listM ((lineR seg).dropWhile letterB) with
            | ok l =>
              rw [hq] at hP7
              obtain ⟨he7, hrow7⟩ := hP7
              obtain ⟨⟨xs, a1, a2, a3, a4⟩, mb, mc, md, me, mf, mg⟩ := hmem6d
              exact QF.end0 rfl ⟨O7, _, hUt7, hR7, hb7, rfl, rfl, he7, ⟨⟨xs, a1.upd hU7 hjr (fun h => by rcases h with h | h; exact hd1 h.symm; exact hd5 h), a2, a3, fun i hi => (a4 i hi).upd hU7⟩, mb.upd hU7 hji (fun h => by rcases h with h | h; exact hd2 h.symm; exact hd6 h), hrow7, md, rfl, mf, (fun h => by cases h)⟩⟩
            | bad p e' =>
              rw [hq] at hP7
              obtain ⟨he7, hne7, hbad7⟩ := hP7
              have hple := listM_le hq
              exact QF.end0 rfl ⟨O7, _, hUt7, hR7, hb7, rfl, rfl, hne7, he7, by dsimp only; rw [hbad7]; omega⟩
        | false =>
          have hM : readS st seg = addR st ((bareL seg).length - (lineR seg).length) (if st.ts.length = 40 then LR.bad 0 3 else ruleM (lineR seg)) := by unfold readS; rw [if_neg h0, if_neg (by rw [hk1]; decide), if_neg (by rw [hk2]; decide), if_neg (by rw [hk3]; decide)]
          refine WC.condF rfl (rfl) ?_
          obtain ⟨xs, hrow6, hxe, hxl, hxr⟩ := hmem6.ru
          refine WC.region ?_
          refine WL.v (RV.move rfl) rfl ?_
          refine WL.call Tryz.call42 rfl (rule_ret B O w6 j jr rb ({s with pos := (m : Int) - (((lineR seg).dropWhile letterB).length : Int), to := (m : Int), bg := ((m : Int) - ((skipB (bareL seg)).length : Int))} : LS) m (lineR seg) xs hR6 hj hjr hd1 hm' hl' rfl hbgR he hmc hsufR haR hrow6 hxl hb6) rfl ?_
          rintro v w7 ⟨O7, rv, hU7, hR7, hP7⟩
          have hUt7 := hUt6.trans (hU7.mono (S' := fun k => k = j ∨ k = jr ∨ k = ji ∨ k = jk) (fun _ h => by rcases h with h | h; exact .inl h; exact .inr (.inl h)) hz4)
          refine WL.nil ?_
          refine QF.blockNormal ?_
          rw [hM, hxe]
          cases hq : (if xs.length = 40 then LR.bad 0 3 else ruleM (lineR seg)) with
          | ok t =>
            rw [hq] at hP7
            obtain ⟨x, hrow7, hRt7, hb7⟩ := hP7
            have h40 : xs.length ≠ 40 := fun e => by rw [if_pos e] at hq; cases hq
            obtain ⟨_, mb, mc, md, me, mf, mg⟩ := hmem6
            obtain ⟨q1, q2, q3, q4⟩ := RowsT.push (ts := st.ts) hrow7 hxe (by omega) (fun i hi => (hxr i hi).upd hU7) hRt7
            exact QF.end0 rfl ⟨O7, _, hUt7, hR7, hb7, rfl, rfl, he, ⟨⟨xs ++ [x], q1, q2, q3, q4⟩, mb.upd hU7 hji (fun h => by rcases h with h | h; exact hd2 h.symm; exact hd4 h.symm), mc.upd hU7 hjk (fun h => by rcases h with h | h; exact hd3 h.symm; exact hd5 h.symm), md, me, mf, mg⟩⟩
          | bad p e =>
            rw [hq] at hP7
            obtain ⟨hne7, hb7⟩ := hP7
            exact QF.end0 rfl ⟨O7, _, hUt7, hR7, hb7, rfl, rfl, hne7, rfl, by dsimp only; rw [h0']; omega⟩
end Go.Proofs.YtmohcfjopaccdaaGreatDoor
end
section
/- Package rule, walked: Parse, with lines of classes. -/
namespace Go.Proofs.YtmohcfjopaccdaaGreatDoor
open Go.VL Go.Proofs
set_option maxRecDepth 10000

inductive TS where
  | ok (s : St)
  | bad (p : Nat) (e : Int)
  | other
def linesS : Nat → St → Nat → List UInt8 → TS
  | 0, _, _, _ => .other
  | n + 1, st, fr, r =>
    match readS st (lineT r) with
    | .other => .other
    | .bad p e => .bad (fr + p) e
    | .go st' => if (lineT r).length = r.length then .ok st' else linesS n st' (fr + (lineT r).length + 1) (r.drop ((lineT r).length + 1))
def st0 : St := ⟨[], [], [], false, false⟩
def parseS (l : List UInt8) : TS := if 4096 < l.length then .bad 0 3 else linesS (l.length + 1) st0 0 l
def LoopQ (l : List UInt8) (M : TS) (O : Nat → Nat) (w : World) (jr ji jk : Nat) (n fr : Nat) (st : St) (s : LS) : Prop :=
  (fr ≤ l.length ∧ s.e = 0 ∧ l.length - fr < n ∧ linesS n st fr (l.drop fr) = M ∧ Mem O w jr ji jk s st) ∨ (fr = l.length + 1 ∧ s.e = 0 ∧ M = .ok st ∧ Mem O w jr ji jk s st) ∨
  (∃ p e, e ≠ 0 ∧ s.e = e ∧ s.bad = ((p : Nat) : Int) ∧ M = .bad p e)
theorem LoopQ.next {l : List UInt8} {M : TS} {B j jr ji jk rb n fr : Nat} {O : Nat → Nat} {w w' : World} {st : St} {s : LS} (hfr : fr ≤ l.length) (hn : l.length - fr < n + 1) (hM : linesS (n + 1) st fr (l.drop fr) = M)
    (hP : PostN B O w w' j jr ji jk rb s fr (readS st (lineT (l.drop fr)))) :
    ∃ O' s' n' st', Upd (fun k => k = j ∨ k = jr ∨ k = ji ∨ k = jk) O w O' w' ∧ Rng B O' w' ∧ Rd6 O' w' j rb s' ∧ s'.l = s.l ∧ s'.mc = s.mc ∧ n' < n + 1 ∧ LoopQ l M O' w' jr ji jk n' (fr + (lineT (l.drop fr)).length + 1) st' s' := by
  obtain ⟨O', s', hU, hR, hb, e1, e4, hq⟩ := hP
  have hll : (lineT (l.drop fr)).length ≤ l.length - fr := by
    have := (List.takeWhile_prefix (l := l.drop fr) (fun b => !(b == 10))).length_le
    simpa [lineT] using this
  have hdl : (l.drop fr).length = l.length - fr := by simp
  unfold linesS at hM
  refine ⟨O', s', ?_⟩
  cases hr : readS st (lineT (l.drop fr)) with
  | other => rw [hr] at hq; exact hq.elim
  | bad p e =>
    rw [hr] at hq hM
    obtain ⟨q1, q2, q3⟩ := hq
    exact ⟨0, st, hU, hR, hb, e1, e4, by omega, .inr (.inr ⟨fr + p, e, q1, q2, by rw [q3]; simp, hM.symm⟩)⟩
  | go st' =>
    rw [hr] at hq hM
    dsimp only at hM
    obtain ⟨q1, q2⟩ := hq
    split at hM
    · rename_i he
      exact ⟨0, st', hU, hR, hb, e1, e4, by omega, .inr (.inl ⟨by omega, q1, hM.symm, q2⟩)⟩
    · rename_i he
      exact ⟨n, st', hU, hR, hb, e1, e4, by omega, .inl ⟨by omega, q1, by omega, by rw [← hM, List.drop_drop, Nat.add_assoc], q2⟩⟩
theorem linesS_other {n : Nat} {st : St} {fr : Nat} {r : List UInt8} (h : linesS (n + 1) st fr r ≠ .other) : readS st (lineT r) ≠ .other := fun e => by
  unfold linesS at h
  rw [e] at h; exact h rfl
def PostS6 (w : World) (v : Value) : TS → Prop
  | .ok st => ∃ tv, v = .tuple #[tv, .int .i64 0, .int .i64 0] ∧ Tx w tv st.li st.lk st.ts
  | .bad p e => v = .tuple #[txtV nilV nilV nilV, .int .i64 (p : Int), .int .i64 e] ∧ e ≠ 0
  | .other => False
theorem Mem.tx {O : Nat → Nat} {w : World} {jr ji jk : Nat} {s : LS} {st : St} (h : Mem O w jr ji jk s st) : Tx w (txtV s.ig s.kp s.ru) st.li st.lk st.ts := by
  obtain ⟨xs, a1, a2, a3, a4⟩ := h.ru
  exact ⟨s.ig, s.kp, s.ru, xs, rfl, h.ig.sl, h.kp.sl, a1.sl, a2, fun i hi => (a4 i hi).weak fun _ _ => rfl⟩
theorem Tx.nil (w : World) : Tx w (txtV nilV nilV nilV) [] [] [] := ⟨_, _, _, [], rfl, (RowT.nil encI 3 1 (fun _ => 0) w 1).sl, (RowT.nil encI 3 1 (fun _ => 0) w 1).sl, (RowT.nil encR 50 7 (fun _ => 0) w 1).sl, rfl, fun i hi => absurd hi (by simp)⟩
theorem rparse2_ret (l : List UInt8) (B : Nat) (O : Nat → Nat) (w : World) (hR : Rng B O w) (hlm : l.length ≤ 1000000000) (ha : asciiL l) (hot : parseS l ≠ .other) : Ret Tryz.prog 8 [.string (bs l)] w fun v w' => Ext w w' ∧ PostS6 w' v (parseS l) := by
  obtain ⟨T, hT0, hT⟩ := hR.bound
  have hzz : ¬ (fun q : Nat => T ≤ q) 0 := fun e => by omega
  have hTT : ∀ b, ¬ T ≤ O b := fun b => by have := hT b; omega
  refine Ret.enter Tryz.func8 Tryz.ntmps8 rfl rfl ?_
  refine WC.seq ?_
  refine WC.region ?_
  refine WL.allocO hR T (by omega) (Tryz.zeroValue26 _) rfl ?_
  intro xb w1 O1 hx1 hU1 hR1 hE1
  have hUt1 : Upd (fun q => T ≤ q) O w O1 w1 := hU1.mono (fun _ h => Nat.le_of_eq h.symm) hzz
  refine WL.v (RV.assign rfl) rfl ?_
  refine WL.v (RV.assign rfl) rfl ?_
  refine WL.nil ?_
  refine QF.seqNext ?_
  refine WC.seq ?_
  refine WC.seq ?_
  refine WC.region ?_
  refine WL.v (RV.move rfl) rfl ?_
  refine WL.v (RV.lenS Tryz.underlying9 rfl) rfl ?_
  refine WL.v (RV.gtr rfl rfl) rfl ?_
  refine WL.nil ?_
  refine QF.seqNext ?_
  by_cases hl : 4096 < l.length
  · have hM : parseS l = .bad 0 3 := by unfold parseS; rw [if_pos hl]
    rw [hM]
    refine WC.condT rfl ((decide_eq_true (by omega))) ?_
    refine WC.seq ?_
    refine WC.region ?_
    refine WL.v (RV.buildF pl26 (Tryz.zeroValue26 _) rfl (by first | rfl | (simp only [List.all_cons, List.all_nil]; rfl)) rfl rfl) rfl ?_
    refine WL.storeAgg (us := (#[.slice none 0 0, .slice none 0 0, .slice none 0 0] : Array Value)) hx1 rfl (Tryz.sizeOf26 _) rfl rfl rfl rfl ?_
    have hxz := hx1.setRow (us := (#[.slice none 0 0, .slice none 0 0, .slice none 0 0] : Array Value))
    have hUz : Upd (fun k => k = T) O1 w1 O1 (w1.setRow xb (#[.slice none 0 0, .slice none 0 0, .slice none 0 0] : Array Value)) := Upd.setRow (by omega) hx1.tag rfl
    refine WL.v (RV.assign rfl) rfl ?_
    refine WL.v (RV.assign rfl) rfl ?_
    refine WL.nil ?_
    refine QF.seqNext ?_
    refine WC.ret ?_
    refine QF.thenRet ?_
    refine QF.doneC3 rfl rfl rfl rfl hxz.cellsAdd (Tryz.isAgg26 _) (Tryz.sizeOf26 _) ⟨Upd.noneE (hUt1.trans (hUz.mono (fun _ h => Nat.le_of_eq h.symm) hzz)) hTT, rfl, by decide⟩
  · have hM0 : parseS l = linesS (l.length + 1) st0 0 l := by unfold parseS; rw [if_neg hl]
    refine WC.condF rfl ((decide_eq_false (by omega))) ?_
    refine WC.skip ?_
    refine QF.seqNext ?_
    refine WC.seq ?_
    refine WC.region ?_
    refine WL.v (RV.move rfl) rfl ?_
    refine WL.v (RV.buildF pl53 (Tryz.zeroValue53 _) rfl (by first | rfl | (simp only [List.all_cons, List.all_nil]; rfl)) rfl rfl) rfl ?_
    refine WL.v (RV.build (vs := [(0, .agg #[.string (bs l), .int .i64 0, .int .i64 0, .int .i64 0, .int .i64 0, .int .i64 0])]) (cells := (⟨l, 0, 0, 0, 0, 0, .slice none 0 0, .slice none 0 0, .slice none 0 0, .slice none 0 0, false, false⟩ : LS).cells) pl56 (Tryz.zeroValue56 _) rfl (by kernel_rfl)) rfl ?_
    refine WL.boxO hR1 (T + 1) (by omega) rfl rfl ?_
    intro rb w2 O2 hb2' hU2 hR2 hE2
    have hb2 : Rd6 O2 w2 (T + 1) rb ⟨l, 0, 0, 0, 0, 0, .slice none 0 0, .slice none 0 0, .slice none 0 0, .slice none 0 0, false, false⟩ := hb2'
    have hx2 := hx1.upd hU2 (by omega) (by omega)
    have hUt2 := hUt1.trans (hU2.mono (fun _ h => by rw [h]; omega) hzz)
    refine WL.v (RV.assign rfl) rfl ?_
    refine WL.nil ?_
    refine QF.seqNext ?_
    refine WC.seq ?_
    refine WC.seq ?_
    refine WC.region ?_
    refine WL.v (RV.assign rfl) rfl ?_
    refine WL.nil ?_
    refine QF.seqNext ?_
    refine WC.block ?_
    refine WC.loop (fun y : Nat × Nat × St × (Nat → Nat) × World × LS => [(0, .string (bs l)), (2, .pointer (some ⟨xb, 0, none⟩)), (5, .pointer (some ⟨rb, 0, none⟩)), (6, .int .i64 (y.2.1 : Nat))]) (fun y : Nat × Nat × St × (Nat → Nat) × World × LS => y.2.2.2.2.1) (fun y : Nat × Nat × St × (Nat → Nat) × World × LS => BlkO y.2.2.2.1 y.2.2.2.2.1 T xb (#[.slice none 0 0, .slice none 0 0, .slice none 0 0] : Array Value) 26 ∧ Rd6 y.2.2.2.1 y.2.2.2.2.1 (T + 1) rb y.2.2.2.2.2 ∧ y.2.2.2.2.2.l = l ∧ y.2.2.2.2.2.mc = .slice none 0 0 ∧ Upd (fun q => T ≤ q) O w y.2.2.2.1 y.2.2.2.2.1 ∧ Rng B y.2.2.2.1 y.2.2.2.2.1 ∧ y.2.1 ≤ 10000000 ∧ LoopQ l (parseS l) y.2.2.2.1 y.2.2.2.2.1 (T + 2) (T + 3) (T + 4) y.1 y.2.1 y.2.2.1 y.2.2.2.2.2) (fun y : Nat × Nat × St × (Nat → Nat) × World × LS => y.1) (l.length + 1, 0, st0, O2, w2, ⟨l, 0, 0, 0, 0, 0, .slice none 0 0, .slice none 0 0, .slice none 0 0, .slice none 0 0, false, false⟩) (⟨hx2, hb2, rfl, rfl, hUt2, hR2, by dsimp only; omega, .inl ⟨by dsimp only; omega, rfl, by dsimp only; omega, by rw [hM0]; rfl, ⟨⟨[], RowT.nil _ _ _ _ _ _, rfl, by simp, fun i hi => absurd hi (by simp)⟩, RowT.nil _ _ _ _ _ _, RowT.nil _ _ _ _ _ _, rfl, rfl, fun _ => rfl, fun _ => rfl⟩⟩⟩) ⟨rfl, rfl, rfl, rfl, trivial⟩ rfl ?_
    rintro ⟨n, fr, st, O1, w3, s⟩ ⟨hx3, hb3, hsl, hmc, hUt3, hR3, hfb, hL3⟩
    dsimp only at hx3 hb3 hsl hmc hUt3 hR3 hfb hL3 ⊢
    rcases hL3 with ⟨hfr, he, hnn, hMM, hrows⟩ | ⟨hfr, he, hMM, hrows⟩ | ⟨p, e, hne, hee, hbad, hMM⟩
    · obtain ⟨n, rfl⟩ : ∃ m, n = m + 1 := ⟨n - 1, by omega⟩
      have hoth : readS st (lineT (l.drop fr)) ≠ .other := linesS_other (n := n) (st := st) (fr := fr) (r := l.drop fr) (by rw [hMM]; exact hot)
      have hll : (lineT (l.drop fr)).length ≤ l.length - fr := by
        have := (List.takeWhile_prefix (l := l.drop fr) (fun b => !(b == 10))).length_le
        simpa [lineT] using this
      have q5 := hb3.q5
      rw [he] at q5
      refine WC.seq ?_
      refine WC.seq ?_
      refine WC.region ?_
      refine WL.v (RV.move rfl) rfl ?_
      refine WL.v (RV.move rfl) rfl ?_
      refine WL.v (RV.lenS Tryz.underlying9 rfl) rfl ?_
      refine WL.v (RV.leq rfl rfl) rfl ?_
      refine WL.v (RV.move rfl) rfl ?_
      refine WL.know (d := 21) rfl (b' := true) ((decide_eq_true (by omega))) ?_
      refine WL.on rfl ?_
      refine WL.v (RV.move rfl) rfl ?_
      refine WL.on rfl ?_
      refine WL.v (RV.nilPtr rfl) rfl ?_
      refine WL.on rfl ?_
      refine WL.v (RV.fieldAddr 0 Tryz.underlying56 rfl rfl (Tryz.sizeOf53 _) (by decide) rfl) rfl ?_
      refine WL.on rfl ?_
      refine WL.v (RV.fieldAddr 5 Tryz.underlying53 rfl rfl (Tryz.sizeOf27 _) (by decide) rfl) rfl ?_
      refine WL.on rfl ?_
      refine WL.v (RV.load (by first | exact q5) (Tryz.isAgg27 _) rfl) rfl ?_
      refine WL.on rfl ?_
      refine WL.v (RV.eql rfl rfl) rfl ?_
      refine WL.v (RV.pickT rfl rfl) rfl ?_
      refine WL.nil ?_
      refine QF.seqNext ?_
      refine WC.condT rfl (rfl) ?_
      refine WC.skip ?_
      refine QF.seqNext ?_
      refine WC.block ?_
      refine WC.seq ?_
      refine WC.region ?_
      refine WL.v (RV.move rfl) rfl ?_
      refine WL.v (RV.lenS Tryz.underlying9 rfl) rfl ?_
      refine WL.v (RV.assign rfl) rfl ?_
      refine WL.nil ?_
      refine QF.seqNext ?_
      refine WC.seq ?_
      refine WC.seq ?_
      refine WC.region ?_
      refine WL.v (RV.move rfl) rfl ?_
      refine WL.v (RV.move rfl) rfl ?_
      refine WL.v (RV.sliceSlo Tryz.underlying9 rfl rfl fr rfl hfr) rfl ?_
      refine WL.call Tryz.call18 rfl (indexByte_ret (l.drop fr) 10 w3) rfl ?_
      rintro v w9 ⟨rfl, hw9⟩
      rw [hw9]
      clear hw9 w9
      cases hf : (l.drop fr).findIdx? (· == 10) with
      | none =>
        have hi : idxB (l.drop fr) 10 = -1 := by unfold idxB; rw [hf]
        have hln := congrArg List.length (lineT_none hf)
        rw [List.length_drop] at hln
        rw [hi, show ((l.length : Nat) : Int) = ((fr + (lineT (l.drop fr)).length : Nat) : Int) from by omega]
        refine WL.v (RV.assign rfl) rfl ?_
        refine WL.nil ?_
        refine QF.seqNext ?_
        refine WC.seq ?_
        refine WC.region ?_
        refine WL.v (RV.move rfl) rfl ?_
        refine WL.v (RV.geq rfl rfl) rfl ?_
        refine WL.nil ?_
        refine QF.seqNext ?_
        refine WC.condF rfl (rfl) ?_
        refine WC.skip ?_
        refine QF.seqNext ?_
        refine WC.seq ?_
        refine WC.region ?_
        refine WL.v (RV.move rfl) rfl ?_
        refine WL.v (RV.move rfl) rfl ?_
        refine WL.v (RV.move rfl) rfl ?_
        refine WL.call Tryz.call19 rfl (read2_ret B O1 w3 (T + 1) (T + 2) (T + 3) (T + 4) rb s fr (fr + (lineT (l.drop fr)).length) (lineT (l.drop fr)) st hR3 (by omega) (by omega) (by omega) (by omega) (by omega) (by omega) (by omega) (by omega) (by omega) (by omega) (by omega) (by rw [hsl]; omega) (by rw [hsl]; omega) he hmc (by rw [hsl]; exact lineT_seg l fr) (fun c hc => ha c (List.mem_of_mem_drop ((List.takeWhile_prefix (l := l.drop fr) _).subset hc))) hrows hoth hb3) rfl ?_
        rintro v w4 hP4
        obtain ⟨O4, s4, n4, st4, hU4, hR4, hb4, g1, g4, hlt4, hL4⟩ := LoopQ.next hfr hnn hMM hP4
        have hx4 := BlkO.upd hx3 hU4 (by omega) (by omega)
        have hUt4 := hUt3.trans (hU4.mono (fun _ h => by rcases h with h | h | h | h <;> rw [h] <;> omega) hzz)
        refine WL.nil ?_
        refine QF.seqNext ?_
        refine WC.region ?_
        refine WL.v (RV.move rfl) rfl ?_
        refine WL.v (RV.add rfl rfl (Fit.i64 (by omega))) rfl ?_
        refine WL.v (RV.assign rfl) rfl ?_
        refine WL.nil ?_
        refine QF.blockNormal ?_
        refine QF.next ((n4, fr + (lineT (l.drop fr)).length + 1, st4, O4, w4, s4)) (⟨hx4, hb4, g1.trans hsl, g4.trans hmc, hUt4, hR4, by dsimp only; omega, hL4⟩) (hlt4) ⟨rfl, rfl, rfl, rfl, trivial⟩ rfl
      | some k =>
        have hi : idxB (l.drop fr) 10 = (k : Nat) := by unfold idxB; rw [hf]
        have hln := lineT_some hf
        rw [hi]
        refine WL.v (RV.assign rfl) rfl ?_
        refine WL.nil ?_
        refine QF.seqNext ?_
        refine WC.seq ?_
        refine WC.region ?_
        refine WL.v (RV.move rfl) rfl ?_
        refine WL.v (RV.geq rfl rfl) rfl ?_
        refine WL.nil ?_
        refine QF.seqNext ?_
        refine WC.condT rfl ((decide_eq_true (by omega))) ?_
        refine WC.region ?_
        refine WL.v (RV.move rfl) rfl ?_
        refine WL.v (RV.move rfl) rfl ?_
        refine WL.v (RV.add rfl rfl (Fit.i64 (by omega))) rfl ?_
        refine WL.v (RV.assign rfl) rfl ?_
        refine WL.nil ?_
        refine QF.seqNext ?_
        refine WC.seq ?_
        refine WC.region ?_
        refine WL.v (RV.move rfl) rfl ?_
        refine WL.v (RV.move rfl) rfl ?_
        refine WL.v (RV.move rfl) rfl ?_
        rw [show (fr : Int) + ((k : Nat) : Int) = ((fr + (lineT (l.drop fr)).length : Nat) : Int) from by omega]
        refine WL.call Tryz.call19 rfl (read2_ret B O1 w3 (T + 1) (T + 2) (T + 3) (T + 4) rb s fr (fr + (lineT (l.drop fr)).length) (lineT (l.drop fr)) st hR3 (by omega) (by omega) (by omega) (by omega) (by omega) (by omega) (by omega) (by omega) (by omega) (by omega) (by omega) (by rw [hsl]; omega) (by rw [hsl]; omega) he hmc (by rw [hsl]; exact lineT_seg l fr) (fun c hc => ha c (List.mem_of_mem_drop ((List.takeWhile_prefix (l := l.drop fr) _).subset hc))) hrows hoth hb3) rfl ?_
        rintro v w4 hP4
        obtain ⟨O4, s4, n4, st4, hU4, hR4, hb4, g1, g4, hlt4, hL4⟩ := LoopQ.next hfr hnn hMM hP4
        have hx4 := BlkO.upd hx3 hU4 (by omega) (by omega)
        have hUt4 := hUt3.trans (hU4.mono (fun _ h => by rcases h with h | h | h | h <;> rw [h] <;> omega) hzz)
        refine WL.nil ?_
        refine QF.seqNext ?_
        refine WC.region ?_
        refine WL.v (RV.move rfl) rfl ?_
        refine WL.v (RV.add rfl rfl (Fit.i64 (by omega))) rfl ?_
        refine WL.v (RV.assign rfl) rfl ?_
        refine WL.nil ?_
        refine QF.blockNormal ?_
        refine QF.next ((n4, fr + (lineT (l.drop fr)).length + 1, st4, O4, w4, s4)) (⟨hx4, hb4, g1.trans hsl, g4.trans hmc, hUt4, hR4, by dsimp only; omega, hL4⟩) (hlt4) ⟨rfl, rfl, rfl, rfl, trivial⟩ rfl
    · skip
      have q5 := hb3.q5
      rw [he] at q5
      refine WC.seq ?_
      refine WC.seq ?_
      refine WC.region ?_
      refine WL.v (RV.move rfl) rfl ?_
      refine WL.v (RV.move rfl) rfl ?_
      refine WL.v (RV.lenS Tryz.underlying9 rfl) rfl ?_
      refine WL.v (RV.leq rfl rfl) rfl ?_
      refine WL.v (RV.move rfl) rfl ?_
      refine WL.know (d := 21) rfl (b' := false) ((decide_eq_false (by omega))) ?_
      rw [hMM]
      have q6 := hb3.q6
      have q7 := hb3.q7
      have q8 := hb3.q8
      have htx := hrows.tx
      have hl6 := hrows.ig.one
      have hl7 := hrows.kp.one
      obtain ⟨xs, hru, _, _, _⟩ := hrows.ru
      have hl8 := hru.one
      refine WL.off rfl rfl rfl ?_
      refine WL.off rfl rfl rfl ?_
      refine WL.off rfl rfl rfl ?_
      refine WL.off rfl rfl rfl ?_
      refine WL.off rfl rfl rfl ?_
      refine WL.off rfl rfl rfl ?_
      refine WL.v (RV.pickF rfl rfl) rfl ?_
      refine WL.nil ?_
      refine QF.seqNext ?_
      refine WC.condF rfl rfl ?_
      refine WC.exit ?_
      refine QF.thenExit ?_
      refine QF.thenExit ?_
      refine QF.blockHit ?_
      refine QF.seqNext ?_
      refine WC.seq ?_
      refine WC.seq ?_
      refine WC.region ?_
      refine WL.v (RV.move rfl) rfl ?_
      refine WL.v (RV.nilPtr rfl) rfl ?_
      refine WL.v (RV.fieldAddr 0 Tryz.underlying56 rfl rfl (Tryz.sizeOf53 _) (by decide) rfl) rfl ?_
      refine WL.v (RV.fieldAddr 5 Tryz.underlying53 rfl rfl (Tryz.sizeOf27 _) (by decide) rfl) rfl ?_
      refine WL.v (RV.load (by first | exact q5) (Tryz.isAgg27 _) rfl) rfl ?_
      refine WL.v (RV.neq rfl rfl) rfl ?_
      refine WL.nil ?_
      refine QF.seqNext ?_
      refine WC.condF rfl (rfl) ?_
      refine WC.skip ?_
      refine QF.seqNext ?_
      refine WC.seq ?_
      refine WC.region ?_
      refine WL.v (RV.move rfl) rfl ?_
      refine WL.v (RV.nilPtr rfl) rfl ?_
      refine WL.v (RV.fieldAddr 6 Tryz.underlying56 rfl rfl (Tryz.sizeOf26 _) (by decide) rfl) rfl ?_
      refine WL.v (RV.loadAgg (us := [s.ig, s.kp, s.ru]) (txt_cells q6 q7 q8) (Tryz.isAgg26 _) (Tryz.sizeOf26 _) rfl) rfl ?_
      refine WL.storeAgg (us := #[s.ig, s.kp, s.ru]) hx3 rfl (Tryz.sizeOf26 _) (by simp only [List.all_cons, hl6, hl7, hl8]; rfl) rfl rfl rfl ?_
      have hxz := hx3.setRow (us := #[s.ig, s.kp, s.ru])
      have hUz : Upd (fun k => k = T) O1 w3 O1 (w3.setRow xb #[s.ig, s.kp, s.ru]) := Upd.setRow (by omega) hx3.tag rfl
      have hUt9 := hUt3.trans (hUz.mono (fun _ h => Nat.le_of_eq h.symm) hzz)
      have hmem9 := hrows.upd hUz (by omega) (by omega) (by omega) (by omega) (by omega) (by omega)
      refine WL.v (RV.assign rfl) rfl ?_
      refine WL.v (RV.assign rfl) rfl ?_
      refine WL.nil ?_
      refine QF.seqNext ?_
      refine WC.ret ?_
      refine QF.doneC3 rfl rfl rfl rfl hxz.cellsAdd (Tryz.isAgg26 _) (Tryz.sizeOf26 _) ⟨Upd.noneE hUt9 hTT, _, rfl, hmem9.tx⟩
    · skip
      rw [hMM]
      have q5 := hb3.q5
      rw [hee] at q5
      have q4 := hb3.q4
      rw [hbad] at q4
      have hne2 : ((e == 0) : Bool) = false := by simpa using hne
      have hne3 : ((e != 0) : Bool) = true := by simpa using hne
      cases hfl : decide ((fr : Int) ≤ (l.length : Int)) with
      | false =>
        refine WC.seq ?_
        refine WC.seq ?_
        refine WC.region ?_
        refine WL.v (RV.move rfl) rfl ?_
        refine WL.v (RV.move rfl) rfl ?_
        refine WL.v (RV.lenS Tryz.underlying9 rfl) rfl ?_
        refine WL.v (RV.leq rfl rfl) rfl ?_
        refine WL.v (RV.move rfl) rfl ?_
        refine WL.know (d := 21) rfl (b' := false) (hfl) ?_
        refine WL.off rfl rfl rfl ?_
        refine WL.off rfl rfl rfl ?_
        refine WL.off rfl rfl rfl ?_
        refine WL.off rfl rfl rfl ?_
        refine WL.off rfl rfl rfl ?_
        refine WL.off rfl rfl rfl ?_
        refine WL.v (RV.pickF rfl rfl) rfl ?_
        refine WL.nil ?_
        refine QF.seqNext ?_
        refine WC.condF rfl rfl ?_
        refine WC.exit ?_
        refine QF.thenExit ?_
        refine QF.thenExit ?_
        refine QF.blockHit ?_
        refine QF.seqNext ?_
        refine WC.seq ?_
        refine WC.seq ?_
        refine WC.region ?_
        refine WL.v (RV.move rfl) rfl ?_
        refine WL.v (RV.nilPtr rfl) rfl ?_
        refine WL.v (RV.fieldAddr 0 Tryz.underlying56 rfl rfl (Tryz.sizeOf53 _) (by decide) rfl) rfl ?_
        refine WL.v (RV.fieldAddr 5 Tryz.underlying53 rfl rfl (Tryz.sizeOf27 _) (by decide) rfl) rfl ?_
        refine WL.v (RV.load (by first | exact q5) (Tryz.isAgg27 _) rfl) rfl ?_
        refine WL.v (RV.neq rfl rfl) rfl ?_
        refine WL.nil ?_
        refine QF.seqNext ?_
        refine WC.condT rfl (hne3) ?_
        have d4 : w3.drew.cell? ⟨rb, 4, none⟩ = some (.int .i64 (p : Nat)) := q4
        have d5 : w3.drew.cell? ⟨rb, 5, none⟩ = some (.int .i64 e) := q5
        refine WC.seq ?_
        refine WC.draw (fun W => W.cell? ⟨rb, 4, none⟩ = some (.int .i64 (p : Nat)) ∧ W.cell? ⟨rb, 5, none⟩ = some (.int .i64 e)) 14 rfl (by kernel_rfl) ?_
        refine WH.take 0 rfl (by kernel_rfl) (by kernel_rfl) (by kernel_rfl) ⟨d4, d5⟩ (fun w1 hw1 => RV.buildF pl26 (Tryz.zeroValue26 _) rfl (by first | rfl | (simp only [List.all_cons, List.all_nil]; rfl)) rfl rfl) rfl ?_
        refine WH.take 1 rfl (by kernel_rfl) (by kernel_rfl) (by kernel_rfl) ⟨d4, d5⟩ (fun w1 hw1 => RV.move rfl) rfl ?_
        refine WH.take 2 rfl (by kernel_rfl) (by kernel_rfl) (by kernel_rfl) ⟨d4, d5⟩ (fun w1 hw1 => RV.nilPtr rfl) rfl ?_
        refine WH.take 3 rfl (by kernel_rfl) (by kernel_rfl) (by kernel_rfl) ⟨d4, d5⟩ (fun w1 hw1 => RV.fieldAddr 0 Tryz.underlying56 rfl rfl (Tryz.sizeOf53 _) (by decide) rfl) rfl ?_
        refine WH.take 4 rfl (by kernel_rfl) (by kernel_rfl) (by kernel_rfl) ⟨d4, d5⟩ (fun w1 hw1 => RV.fieldAddr 4 Tryz.underlying53 rfl rfl (Tryz.sizeOf3 _) (by decide) rfl) rfl ?_
        refine WH.take 5 rfl (by kernel_rfl) (by kernel_rfl) (by kernel_rfl) ⟨d4, d5⟩ (fun w1 hw1 => RV.load (by first | exact hw1.1 | exact hw1.2) (Tryz.isAgg3 _) rfl) rfl ?_
        refine WH.take 6 rfl (by kernel_rfl) (by kernel_rfl) (by kernel_rfl) ⟨d4, d5⟩ (fun w1 hw1 => RV.move rfl) rfl ?_
        refine WH.take 7 rfl (by kernel_rfl) (by kernel_rfl) (by kernel_rfl) ⟨d4, d5⟩ (fun w1 hw1 => RV.nilPtr rfl) rfl ?_
        refine WH.take 8 rfl (by kernel_rfl) (by kernel_rfl) (by kernel_rfl) ⟨d4, d5⟩ (fun w1 hw1 => RV.fieldAddr 0 Tryz.underlying56 rfl rfl (Tryz.sizeOf53 _) (by decide) rfl) rfl ?_
        refine WH.take 9 rfl (by kernel_rfl) (by kernel_rfl) (by kernel_rfl) ⟨d4, d5⟩ (fun w1 hw1 => RV.fieldAddr 5 Tryz.underlying53 rfl rfl (Tryz.sizeOf27 _) (by decide) rfl) rfl ?_
        refine WH.take 10 rfl (by kernel_rfl) (by kernel_rfl) (by kernel_rfl) ⟨d4, d5⟩ (fun w1 hw1 => RV.load (by first | exact hw1.1 | exact hw1.2) (Tryz.isAgg27 _) rfl) rfl ?_
        refine WH.one 11 (by kernel_rfl) rfl ?_
        refine WL.storeAgg (us := #[.slice none 0 0, .slice none 0 0, .slice none 0 0]) hx3.drew rfl (Tryz.sizeOf26 _) rfl rfl rfl rfl ?_
        have hxz := BlkO.setRow (us := #[.slice none 0 0, .slice none 0 0, .slice none 0 0]) hx3.drew
        have hUz : Upd (fun k => k = T) O1 w3.drew O1 (w3.drew.setRow xb #[.slice none 0 0, .slice none 0 0, .slice none 0 0]) := Upd.setRow (by omega) hx3.tag rfl
        have hbz := (BlkO.drew hb3).upd hUz (by omega) (by omega)
        have z5 := hbz.q5
        rw [hee] at z5
        have z4 := hbz.q4
        rw [hbad] at z4
        refine WL.nil ?_
        refine QF.after (⟨z4, z5⟩) ?_
        refine WH.take 12 rfl (by kernel_rfl) (by kernel_rfl) (by kernel_rfl) (⟨z4, z5⟩) (fun w1 hw1 => RV.assign rfl) rfl ?_
        refine WH.take 13 rfl (by kernel_rfl) (by kernel_rfl) (by kernel_rfl) (⟨z4, z5⟩) (fun w1 hw1 => RV.assign rfl) rfl ?_
        refine WH.done (by kernel_rfl) ?_
        refine QF.seqNext ?_
        refine WC.ret ?_
        refine QF.thenRet ?_
        refine QF.doneC3 rfl rfl rfl rfl hxz.cellsAdd (Tryz.isAgg26 _) (Tryz.sizeOf26 _) ⟨Upd.noneE ((hUt3.drew).trans (hUz.mono (fun _ h => Nat.le_of_eq h.symm) hzz)) hTT, rfl, hne⟩
      | true =>
        refine WC.seq ?_
        refine WC.seq ?_
        refine WC.region ?_
        refine WL.v (RV.move rfl) rfl ?_
        refine WL.v (RV.move rfl) rfl ?_
        refine WL.v (RV.lenS Tryz.underlying9 rfl) rfl ?_
        refine WL.v (RV.leq rfl rfl) rfl ?_
        refine WL.v (RV.move rfl) rfl ?_
        refine WL.know (d := 21) rfl (b' := true) (hfl) ?_
        refine WL.on rfl ?_
        refine WL.v (RV.move rfl) rfl ?_
        refine WL.on rfl ?_
        refine WL.v (RV.nilPtr rfl) rfl ?_
        refine WL.on rfl ?_
        refine WL.v (RV.fieldAddr 0 Tryz.underlying56 rfl rfl (Tryz.sizeOf53 _) (by decide) rfl) rfl ?_
        refine WL.on rfl ?_
        refine WL.v (RV.fieldAddr 5 Tryz.underlying53 rfl rfl (Tryz.sizeOf27 _) (by decide) rfl) rfl ?_
        refine WL.on rfl ?_
        refine WL.v (RV.load (by first | exact q5) (Tryz.isAgg27 _) rfl) rfl ?_
        refine WL.on rfl ?_
        refine WL.v (RV.eql rfl rfl) rfl ?_
        refine WL.v (RV.pickT rfl rfl) rfl ?_
        refine WL.nil ?_
        refine QF.seqNext ?_
        refine WC.condF rfl (hne2) ?_
        refine WC.exit ?_
        refine QF.thenExit ?_
        refine QF.thenExit ?_
        refine QF.blockHit ?_
        refine QF.seqNext ?_
        refine WC.seq ?_
        refine WC.seq ?_
        refine WC.region ?_
        refine WL.v (RV.move rfl) rfl ?_
        refine WL.v (RV.nilPtr rfl) rfl ?_
        refine WL.v (RV.fieldAddr 0 Tryz.underlying56 rfl rfl (Tryz.sizeOf53 _) (by decide) rfl) rfl ?_
        refine WL.v (RV.fieldAddr 5 Tryz.underlying53 rfl rfl (Tryz.sizeOf27 _) (by decide) rfl) rfl ?_
        refine WL.v (RV.load (by first | exact q5) (Tryz.isAgg27 _) rfl) rfl ?_
        refine WL.v (RV.neq rfl rfl) rfl ?_
        refine WL.nil ?_
        refine QF.seqNext ?_
        refine WC.condT rfl (hne3) ?_
        have d4 : w3.drew.cell? ⟨rb, 4, none⟩ = some (.int .i64 (p : Nat)) := q4
        have d5 : w3.drew.cell? ⟨rb, 5, none⟩ = some (.int .i64 e) := q5
        refine WC.seq ?_
        refine WC.draw (fun W => W.cell? ⟨rb, 4, none⟩ = some (.int .i64 (p : Nat)) ∧ W.cell? ⟨rb, 5, none⟩ = some (.int .i64 e)) 14 rfl (by kernel_rfl) ?_
        refine WH.take 0 rfl (by kernel_rfl) (by kernel_rfl) (by kernel_rfl) ⟨d4, d5⟩ (fun w1 hw1 => RV.buildF pl26 (Tryz.zeroValue26 _) rfl (by first | rfl | (simp only [List.all_cons, List.all_nil]; rfl)) rfl rfl) rfl ?_
        refine WH.take 1 rfl (by kernel_rfl) (by kernel_rfl) (by kernel_rfl) ⟨d4, d5⟩ (fun w1 hw1 => RV.move rfl) rfl ?_
        refine WH.take 2 rfl (by kernel_rfl) (by kernel_rfl) (by kernel_rfl) ⟨d4, d5⟩ (fun w1 hw1 => RV.nilPtr rfl) rfl ?_
        refine WH.take 3 rfl (by kernel_rfl) (by kernel_rfl) (by kernel_rfl) ⟨d4, d5⟩ (fun w1 hw1 => RV.fieldAddr 0 Tryz.underlying56 rfl rfl (Tryz.sizeOf53 _) (by decide) rfl) rfl ?_
        refine WH.take 4 rfl (by kernel_rfl) (by kernel_rfl) (by kernel_rfl) ⟨d4, d5⟩ (fun w1 hw1 => RV.fieldAddr 4 Tryz.underlying53 rfl rfl (Tryz.sizeOf3 _) (by decide) rfl) rfl ?_
        refine WH.take 5 rfl (by kernel_rfl) (by kernel_rfl) (by kernel_rfl) ⟨d4, d5⟩ (fun w1 hw1 => RV.load (by first | exact hw1.1 | exact hw1.2) (Tryz.isAgg3 _) rfl) rfl ?_
        refine WH.take 6 rfl (by kernel_rfl) (by kernel_rfl) (by kernel_rfl) ⟨d4, d5⟩ (fun w1 hw1 => RV.move rfl) rfl ?_
        refine WH.take 7 rfl (by kernel_rfl) (by kernel_rfl) (by kernel_rfl) ⟨d4, d5⟩ (fun w1 hw1 => RV.nilPtr rfl) rfl ?_
        refine WH.take 8 rfl (by kernel_rfl) (by kernel_rfl) (by kernel_rfl) ⟨d4, d5⟩ (fun w1 hw1 => RV.fieldAddr 0 Tryz.underlying56 rfl rfl (Tryz.sizeOf53 _) (by decide) rfl) rfl ?_
        refine WH.take 9 rfl (by kernel_rfl) (by kernel_rfl) (by kernel_rfl) ⟨d4, d5⟩ (fun w1 hw1 => RV.fieldAddr 5 Tryz.underlying53 rfl rfl (Tryz.sizeOf27 _) (by decide) rfl) rfl ?_
        refine WH.take 10 rfl (by kernel_rfl) (by kernel_rfl) (by kernel_rfl) ⟨d4, d5⟩ (fun w1 hw1 => RV.load (by first | exact hw1.1 | exact hw1.2) (Tryz.isAgg27 _) rfl) rfl ?_
        refine WH.one 11 (by kernel_rfl) rfl ?_
        refine WL.storeAgg (us := #[.slice none 0 0, .slice none 0 0, .slice none 0 0]) hx3.drew rfl (Tryz.sizeOf26 _) rfl rfl rfl rfl ?_
        have hxz := BlkO.setRow (us := #[.slice none 0 0, .slice none 0 0, .slice none 0 0]) hx3.drew
        have hUz : Upd (fun k => k = T) O1 w3.drew O1 (w3.drew.setRow xb #[.slice none 0 0, .slice none 0 0, .slice none 0 0]) := Upd.setRow (by omega) hx3.tag rfl
        have hbz := (BlkO.drew hb3).upd hUz (by omega) (by omega)
        have z5 := hbz.q5
        rw [hee] at z5
        have z4 := hbz.q4
        rw [hbad] at z4
        refine WL.nil ?_
        refine QF.after (⟨z4, z5⟩) ?_
        refine WH.take 12 rfl (by kernel_rfl) (by kernel_rfl) (by kernel_rfl) (⟨z4, z5⟩) (fun w1 hw1 => RV.assign rfl) rfl ?_
        refine WH.take 13 rfl (by kernel_rfl) (by kernel_rfl) (by kernel_rfl) (⟨z4, z5⟩) (fun w1 hw1 => RV.assign rfl) rfl ?_
        refine WH.done (by kernel_rfl) ?_
        refine QF.seqNext ?_
        refine WC.ret ?_
        refine QF.thenRet ?_
        refine QF.doneC3 rfl rfl rfl rfl hxz.cellsAdd (Tryz.isAgg26 _) (Tryz.sizeOf26 _) ⟨Upd.noneE ((hUt3.drew).trans (hUz.mono (fun _ h => Nat.le_of_eq h.symm) hzz)) hTT, rfl, hne⟩
end Go.Proofs.YtmohcfjopaccdaaGreatDoor
end
section
/- Plain: a side of a printed line, read again. -/
namespace Go.Proofs.YtmohcfjopaccdaaGreatDoor
open Go.VL Go.Proofs
set_option maxRecDepth 10000

/-! Less deep brackets allowed: the same answer, or that they stand too deep. -/
def Le6 (x y : PR) : Prop := x = y ∨ ∃ p, x = .bad p 6
def LeA : Al → Al → Prop
  | none, _ => True
  | some f, some g => ∀ r, Le6 (f r) (g r)
  | some _, none => False
theorem bracketsM_le {a b : Al} (h : LeA a b) (r : List UInt8) : Le6 (bracketsM a r) (bracketsM b r) := by
  cases a with
  | none => exact .inr ⟨_, rfl⟩
  | some f =>
    cases b with
    | none => exact h.elim
    | some g =>
      unfold bracketsM
      dsimp only
      rcases h r.tail with e | ⟨p, e⟩
      · rw [e]; exact .inl rfl
      · rw [e]; exact .inr ⟨p, rfl⟩
theorem atomM_le {a b : Al} (h : LeA a b) (r : List UInt8) : Le6 (atomM a r) (atomM b r) := by
  unfold atomM
  by_cases h1 : letterB ((skipB r).headD 0) = true
  · rw [if_pos h1, if_pos h1]; exact .inl rfl
  · rw [if_neg h1, if_neg h1]
    by_cases h2 : (skipB r).headD 0 = 126
    · rw [if_pos h2, if_pos h2]; exact .inl rfl
    · rw [if_neg h2, if_neg h2]
      by_cases h3 : (skipB r).headD 0 = 94
      · rw [if_pos h3, if_pos h3]; exact .inl rfl
      · rw [if_neg h3, if_neg h3]
        by_cases h4 : (skipB r).headD 0 = 40
        · rw [if_pos h4, if_pos h4]; exact bracketsM_le h _
        · rw [if_neg h4, if_neg h4]; exact .inl rfl
theorem oftenM_le {a b : Al} (h : LeA a b) (r : List UInt8) : Le6 (oftenM a r) (oftenM b r) := by
  unfold oftenM
  rcases atomM_le h r with e | ⟨p, e⟩
  · rw [e]; exact .inl rfl
  · rw [e]; exact .inr ⟨p, rfl⟩
theorem seqLoop_le {a b : Al} (h : LeA a b) : ∀ (n : Nat) (acc : List Nd) (r : List UInt8), Le6 (seqLoop a n acc r) (seqLoop b n acc r)
  | 0, _, _ => .inl rfl
  | n + 1, acc, r => by
    unfold seqLoop
    by_cases h1 : beginsB ((skipB r).headD 0) = true
    · rw [if_pos h1, if_pos h1]
      rcases oftenM_le h (skipB r) with e | ⟨p, e⟩
      · rw [e]
        cases oftenM b (skipB r) with
        | bad p e => exact .inl rfl
        | ok t r2 => exact seqLoop_le h n _ _
      · rw [e]; exact .inr ⟨p, rfl⟩
    · rw [if_neg h1, if_neg h1]; exact .inl rfl
theorem seqM_le {a b : Al} (h : LeA a b) (r : List UInt8) : Le6 (seqM a r) (seqM b r) := by
  unfold seqM
  rcases oftenM_le h r with e | ⟨p, e⟩
  · rw [e]
    cases oftenM b r with
    | bad p e => exact .inl rfl
    | ok t r2 => exact seqLoop_le h _ _ _
  · rw [e]; exact .inr ⟨p, rfl⟩
theorem altsLoop_le {a b : Al} (h : LeA a b) : ∀ (n : Nat) (acc : List Nd) (r : List UInt8), Le6 (altsLoop a n acc r) (altsLoop b n acc r)
  | 0, _, _ => .inl rfl
  | n + 1, acc, r => by
    unfold altsLoop
    by_cases h1 : (skipB r).headD 0 = 124
    · rw [if_pos h1, if_pos h1]
      rcases seqM_le h (skipB r).tail with e | ⟨p, e⟩
      · rw [e]
        cases seqM b (skipB r).tail with
        | bad p e => exact .inl rfl
        | ok t r2 => exact altsLoop_le h n _ _
      · rw [e]; exact .inr ⟨p, rfl⟩
    · rw [if_neg h1, if_neg h1]; exact .inl rfl
theorem altsL_le {a b : Al} (h : LeA a b) (r : List UInt8) : Le6 (altsL a r) (altsL b r) := by
  unfold altsL
  rcases seqM_le h r with e | ⟨p, e⟩
  · rw [e]
    cases seqM b r with
    | bad p e => exact .inl rfl
    | ok t r2 => exact altsLoop_le h _ _ _
  · rw [e]; exact .inr ⟨p, rfl⟩
theorem altsM_le6 : ∀ (d k : Nat) (r : List UInt8), Le6 (altsM d r) (altsM (d + k) r)
  | 0, k, r => by
    rw [altsM_alD (0 + k)]
    exact altsL_le (a := none) trivial r
  | d + 1, k, r => by
    rw [show d + 1 + k = (d + k) + 1 from by omega, altsM_alD (d + k + 1), altsM_alD (d + 1)]
    exact altsL_le (a := alD (d + 1)) (b := alD (d + k + 1)) (fun r => altsM_le6 d k r) r

/-! What is read has no deeper brackets. -/
theorem depT_leaf {k c : Int} {ks : List Int} (h : k ∉ ks) : depT ks (.mk k c []) = 0 := by
  unfold depT
  rw [if_neg (show (Nd.mk k c []).kind ∉ ks from h)]
  simp only [depM, depL]
  split
  · rfl
  · split
    · rfl
    · split <;> rfl
theorem depT_le (ks : List Int) (t : Nd) : depT ks t ≤ depM t + 1 := by unfold depT; split <;> omega
theorem le_depT (ks : List Int) (t : Nd) : depM t ≤ depT ks t := by unfold depT; split <;> omega
theorem depT_mono {ks ks' : List Int} (h : ∀ k ∈ ks, k ∈ ks') (t : Nd) : depT ks t ≤ depT ks' t := by
  unfold depT
  split
  · rename_i hm; rw [if_pos (h _ hm)]; exact Nat.le_refl _
  · split <;> omega
theorem depL_le {ks : List Int} {d : Nat} : ∀ {l : List Nd}, (∀ t ∈ l, depT ks t ≤ d) → depL ks l ≤ d
  | [], _ => by simp [depL]
  | a :: r, h => by
    rw [depL]
    exact Nat.max_le.2 ⟨h a (by simp), depL_le fun t ht => h t (by simp [ht])⟩
def Inner (d : Nat) : Prop := ∀ e, d = e + 1 → ∀ r t r', altsM e r = .ok t r' → depM t ≤ e
theorem classM_dep {d : Nat} {k : Int} {ks : List Int} (hk : k ∉ ks) {r r' : List UInt8} {t : Nd} (h : classM k r = .ok t r') : depT ks t ≤ d := by
  unfold classM at h
  split at h
  · split at h
    · cases h
    · cases h
      rw [depT_leaf hk]; exact Nat.zero_le _
  · cases h
theorem atomM_dep {d : Nat} (hi : Inner d) {r r' : List UInt8} {t : Nd} (h : atomM (alD d) r = .ok t r') : depT [4, 5, 6, 7, 8] t ≤ d := by
  unfold atomM at h
  split at h
  · unfold namedM at h
    split at h
    · cases h; rw [depT_leaf (by decide)]; exact Nat.zero_le _
    · exact classM_dep (by decide) h
  · split at h
    · exact classM_dep (by decide) h
    · split at h
      · cases h; rw [depT_leaf (by decide)]; exact Nat.zero_le _
      · split at h
        · cases d with
          | zero => cases h
          | succ e =>
            unfold bracketsM alD at h
            dsimp only at h
            cases hq : altsM e (skipB r).tail with
            | bad p e' => rw [hq] at h; cases h
            | ok u r2 =>
              rw [hq] at h
              dsimp only at h
              split at h
              · cases h
                have h1 := hi e rfl _ _ _ hq
                have h2 := depT_le [4, 5, 6, 7, 8] t
                omega
              · cases h
        · cases h
theorem opM_lt {c : UInt8} {k : Nat} (h : opM c = some k) : k < 3 := by
  unfold opM at h
  split at h
  · cases h; decide
  · split at h
    · cases h; decide
    · split at h
      · cases h; decide
      · cases h
theorem oftenM_dep {d : Nat} (hi : Inner d) {r r' : List UInt8} {t : Nd} (h : oftenM (alD d) r = .ok t r') : depT [4, 5] t ≤ d := by
  unfold oftenM at h
  cases hq : atomM (alD d) r with
  | bad p e => rw [hq] at h; cases h
  | ok u r1 =>
    have h1 := atomM_dep hi hq
    rw [hq] at h
    dsimp only at h
    split at h
    · rename_i k hk
      have hk3 := opM_lt hk
      cases h
      have hkk : 6 + (k : Int) = 6 ∨ 6 + (k : Int) = 7 ∨ 6 + (k : Int) = 8 := by omega
      have e : depT [4, 5] (.mk (6 + (k : Int)) 0 [u]) = depL [4, 5, 6, 7, 8] [u] := by
        unfold depT
        rw [if_neg (show (Nd.mk (6 + (k : Int)) 0 [u]).kind ∉ ([4, 5] : List Int) from (by simp; omega : (6 + (k : Int)) ∉ ([4, 5] : List Int)))]
        rw [depM, if_neg (by omega), if_neg (by omega), if_pos hkk]
      rw [e]
      exact depL_le fun t ht => by rw [List.mem_singleton.1 ht]; exact h1
    · cases h
      exact Nat.le_trans (depT_mono (by simp) _) h1
theorem oneM_dep4 {d : Nat} {acc : List Nd} (h : ∀ t ∈ acc, depT [4, 5] t ≤ d) : depT [5] (oneM 4 acc) ≤ d := by
  unfold oneM
  split
  · rename_i h1
    exact Nat.le_trans (depT_mono (by simp) _) (h _ (nth_mem (by omega)))
  · have e : depT [5] (.mk 4 0 acc) = depL [4, 5] acc := by
      unfold depT
      rw [if_neg (show (Nd.mk 4 0 acc).kind ∉ ([5] : List Int) from (by decide : (4 : Int) ∉ ([5] : List Int))), depM, if_pos rfl]
    rw [e]; exact depL_le h
theorem oneM_dep5 {d : Nat} {acc : List Nd} (h : ∀ t ∈ acc, depT [5] t ≤ d) : depM (oneM 5 acc) ≤ d := by
  unfold oneM
  split
  · rename_i h1
    exact Nat.le_trans (le_depT _ _) (h _ (nth_mem (by omega)))
  · rw [depM, if_neg (by decide), if_pos rfl]; exact depL_le h
theorem snoc_all {α : Type} {p : α → Prop} {acc : List α} {t : α} (h : ∀ x ∈ acc, p x) (ht : p t) : ∀ x ∈ acc ++ [t], p x := fun x hx => by
  rcases List.mem_append.1 hx with hx | hx
  · exact h x hx
  · rw [List.mem_singleton.1 hx]; exact ht
theorem seqLoop_dep {d : Nat} (hi : Inner d) : ∀ (n : Nat) (acc : List Nd) (r r' : List UInt8) (t : Nd), (∀ t ∈ acc, depT [4, 5] t ≤ d) → seqLoop (alD d) n acc r = .ok t r' → depT [5] t ≤ d
  | 0, acc, r, r', t, ha, h => by cases h; exact oneM_dep4 ha
  | n + 1, acc, r, r', t, ha, h => by
    unfold seqLoop at h
    split at h
    · cases hq : oftenM (alD d) (skipB r) with
      | bad p e => rw [hq] at h; cases h
      | ok u r2 =>
        rw [hq] at h
        exact seqLoop_dep hi n _ _ _ _ (snoc_all ha (oftenM_dep hi hq)) h
    · cases h; exact oneM_dep4 ha
theorem seqM_dep {d : Nat} (hi : Inner d) {r r' : List UInt8} {t : Nd} (h : seqM (alD d) r = .ok t r') : depT [5] t ≤ d := by
  unfold seqM at h
  cases hq : oftenM (alD d) r with
  | bad p e => rw [hq] at h; cases h
  | ok u r2 =>
    rw [hq] at h
    exact seqLoop_dep hi _ _ _ _ _ (fun x hx => by rw [List.mem_singleton.1 hx]; exact oftenM_dep hi hq) h
theorem altsLoop_dep {d : Nat} (hi : Inner d) : ∀ (n : Nat) (acc : List Nd) (r r' : List UInt8) (t : Nd), (∀ t ∈ acc, depT [5] t ≤ d) → altsLoop (alD d) n acc r = .ok t r' → depM t ≤ d
  | 0, acc, r, r', t, ha, h => by cases h; exact oneM_dep5 ha
  | n + 1, acc, r, r', t, ha, h => by
    unfold altsLoop at h
    split at h
    · cases hq : seqM (alD d) (skipB r).tail with
      | bad p e => rw [hq] at h; cases h
      | ok u r2 =>
        rw [hq] at h
        exact altsLoop_dep hi n _ _ _ _ (snoc_all ha (seqM_dep hi hq)) h
    · cases h; exact oneM_dep5 ha
theorem altsL_dep {d : Nat} (hi : Inner d) {r r' : List UInt8} {t : Nd} (h : altsL (alD d) r = .ok t r') : depM t ≤ d := by
  unfold altsL at h
  cases hq : seqM (alD d) r with
  | bad p e => rw [hq] at h; cases h
  | ok u r2 =>
    rw [hq] at h
    exact altsLoop_dep hi _ _ _ _ _ (fun x hx => by rw [List.mem_singleton.1 hx]; exact seqM_dep hi hq) h
theorem altsM_dep : ∀ (d : Nat) (r r' : List UInt8) (t : Nd), altsM d r = .ok t r' → depM t ≤ d
  | 0, r, r', t, h => by rw [altsM_alD] at h; exact altsL_dep (fun e he => absurd he (by omega)) h
  | d + 1, r, r', t, h => by
    rw [altsM_alD] at h
    refine altsL_dep (fun e he => ?_) h
    obtain rfl : d = e := by omega
    exact fun r t r' h => altsM_dep d r r' t h

/-! A side. -/
def SideR (x : XR) (t : Nd) : Prop := (depM t ≤ 20 ∧ x = .ok t) ∨ (20 < depM t ∧ ∃ p, x = .bad p 6)
theorem atomM_blank (al : Al) (x : List UInt8) : atomM al (32 :: x) = atomM al x := by unfold atomM; rw [skipB_blank]
theorem altsL_blank (al : Al) (x : List UInt8) : altsL al (32 :: x) = altsL al x := by unfold altsL seqM oftenM; rw [atomM_blank]
theorem altsM_blank (d : Nat) (x : List UInt8) : altsM d (32 :: x) = altsM d x := by rw [altsM_alD]; exact altsL_blank _ _
theorem exprM_side {t : Nd} {l rest : List UInt8} (hl : ∀ d, altsM d l = altsM d (textM t ++ rest)) (hr : rest = [] ∨ rest = [32]) (hf : fitsM t true = true) (hn : nsz t ≤ 2000) (hlen : l.length ≤ 4096) : SideR (exprM l) t := by
  have hok : okT rest := by rcases hr with rfl | rfl <;> (unfold okT okS okO okA; decide)
  have hsk : skipB rest = [] := by rcases hr with rfl | rfl <;> rfl
  have hD : ∀ d, depM t ≤ d → altsM d l = .ok t [] := fun d hd => by
    rw [hl, altsM_alD]
    have := (parse_all (nsz t) t (Nat.le_refl _) hf d hd).pt rest hok
    rw [hsk] at this; exact this
  unfold exprM
  rw [if_neg (by omega)]
  by_cases h : depM t ≤ 20
  · rw [hD 20 h]
    dsimp only
    rw [if_neg (by rw [show skipB [] = [] from rfl]; simp), if_neg (by omega)]
    exact .inl ⟨h, rfl⟩
  · have h1 := altsM_le6 20 (depM t - 20) l
    rw [show 20 + (depM t - 20) = depM t from by omega, hD _ (Nat.le_refl _)] at h1
    rcases h1 with e | ⟨p, e⟩
    · exact absurd (altsM_dep 20 l [] t e) h
    · rw [e]
      exact .inr ⟨by omega, _, rfl⟩
theorem trim_ne {x : List UInt8} (h1 : beginsB (x.headD 0) = true) (h2 : endB x) : trimM (x ++ [32]) = x ∧ trimM (32 :: x) = x := by
  have hx : x ≠ [] := fun e => by rw [e] at h1; exact absurd h1 (by decide)
  obtain ⟨y, b, rfl⟩ : ∃ y b, x = y ++ [b] := by
    rcases List.eq_nil_or_concat x with e | ⟨y, b, e⟩
    · exact absurd e hx
    · exact ⟨y, b, by rw [e, List.concat_eq_append]⟩
  have hb : b ≠ 32 := fun e => h2 (by rw [e]; simp)
  have hs := (head_app (rest := []) h1).1
  rw [List.append_nil] at hs
  constructor
  · unfold trimM; rw [trimRB_snoc, trimRB_keep _ hb, hs]
  · unfold trimM; rw [← List.cons_append, trimRB_keep _ hb, List.cons_append, skipB_blank, hs]
theorem sideL {t : Nd} (h : rightM t = true) (hlen : (partL (printM t)).length ≤ 4096) : SideR (sideM (partL (printM t))) t := by
  have hn : nsz t ≤ 2000 := by simp only [rightM, Bool.and_eq_true, decide_eq_true_eq] at h; exact h.1
  rcases right_cases h with ⟨rfl, hp⟩ | ⟨hf, hp, hb⟩
  · rw [hp]; exact .inl ⟨by decide, rfl⟩
  · have hne : textM t ≠ [] := text_ne hf
    have e : partL (printM t) = textM t ++ [32] := by rw [hp]; unfold partL; rw [if_neg hne]
    rw [e] at hlen ⊢
    unfold sideM
    rw [if_neg (by rw [(trim_ne hb (text_end _ t (Nat.le_refl _) hf)).1]; exact hne)]
    exact exprM_side (rest := [32]) (fun _ => rfl) (.inr rfl) hf hn hlen
theorem sideRt {t : Nd} (h : rightM t = true) (hlen : (partR (printM t)).length ≤ 4096) : SideR (sideM (partR (printM t))) t := by
  have hn : nsz t ≤ 2000 := by simp only [rightM, Bool.and_eq_true, decide_eq_true_eq] at h; exact h.1
  rcases right_cases h with ⟨rfl, hp⟩ | ⟨hf, hp, hb⟩
  · rw [hp]; exact .inl ⟨by decide, rfl⟩
  · have hne : textM t ≠ [] := text_ne hf
    have e : partR (printM t) = 32 :: textM t := by rw [hp]; unfold partR; rw [if_neg hne]; rfl
    rw [e] at hlen ⊢
    unfold sideM
    rw [if_neg (by rw [(trim_ne hb (text_end _ t (Nat.le_refl _) hf)).2]; exact hne)]
    exact exprM_side (rest := []) (fun d => by rw [altsM_blank, List.append_nil]) (.inl rfl) hf hn hlen
end Go.Proofs.YtmohcfjopaccdaaGreatDoor
end
section
/- Plain: a printed meaning, read again. -/
namespace Go.Proofs.YtmohcfjopaccdaaGreatDoor
open Go.VL Go.Proofs
set_option maxRecDepth 10000

theorem findIdx_cut {p : UInt8 → Bool} : ∀ {A B : List UInt8} {s : UInt8}, (∀ c ∈ A, p c = false) → p s = true → (A ++ s :: B).findIdx? p = some A.length
  | [], B, s, _, hs => by simp [List.findIdx?_cons, hs]
  | a :: A, B, s, hA, hs => by
    have h1 := hA a (by simp)
    rw [List.cons_append, List.findIdx?_cons, h1, findIdx_cut (fun c hc => hA c (by simp [hc])) hs]
    simp
def LineR (x : LR) (t : R3) : Prop := ((depM t.1 ≤ 20 ∧ depM t.2.1 ≤ 20) ∧ x = .ok t) ∨ ((20 < depM t.1 ∨ 20 < depM t.2.1) ∧ ∃ p, x = .bad p 6)
theorem nth_mid {A B : List UInt8} {s : UInt8} : nth (A ++ s :: B) A.length = s := by
  rw [nth_eq (by simp), List.getElem_append_right (Nat.le_refl _)]; simp
theorem line_parts (t : R3) : ∃ s, lineM t = partL (printM t.1) ++ s :: partR (printM t.2.1) ∧ sgnB s = true ∧ s ≠ 32 ∧ (((s.toNat : Int) == 47) = t.2.2) := by
  obtain ⟨s, hs, hsg, hs32, hs10⟩ := sign_one t.2.2
  refine ⟨s, by unfold lineM; rw [hs]; simp, hsg, hs32, ?_⟩
  cases hb : t.2.2 with
  | true => rw [hb] at hs; simp [signM] at hs; subst hs; rfl
  | false => rw [hb] at hs; simp [signM] at hs; subst hs; rfl
theorem ruleM_line {t : R3} (h1 : rightM t.1 = true) (h2 : rightM t.2.1 = true) (h3 : looksM t.2.1 = 0) (hl : (lineM t).length ≤ 4096) : LineR (ruleM (lineM t)) t := by
  obtain ⟨s, e, hsg, hs32, hsv⟩ := line_parts t
  rw [e] at hl ⊢
  simp only [List.length_append, List.length_cons] at hl
  unfold ruleM
  rw [findIdx_cut (p := sgnB) (fun c hc => okC_sgn (partL_okC c hc)) hsg]
  dsimp only
  rw [nth_mid, List.take_left, show (partL (printM t.1) ++ s :: partR (printM t.2.1)).drop ((partL (printM t.1)).length + 1) = partR (printM t.2.1) from by rw [← List.drop_drop, List.drop_left]; rfl, hsv]
  rcases sideL h1 (by omega) with ⟨d1, q1⟩ | ⟨d1, p, q1⟩
  · rw [q1]
    dsimp only
    rcases sideRt h2 (by omega) with ⟨d2, q2⟩ | ⟨d2, p, q2⟩
    · rw [q2]
      dsimp only
      rw [if_neg (fun e => e h3)]
      exact .inl ⟨⟨d1, d2⟩, rfl⟩
    · rw [q2]; exact .inr ⟨.inr d2, _, rfl⟩
  · rw [q1]; exact .inr ⟨.inl d1, _, rfl⟩

/-! The first word of a line. -/
theorem first_word {al : Al} {x r : List UInt8} {t : Nd} (h : altsL al x = .ok t r) (hx : skipB x = x) (hl : letterB (x.headD 0) = true) : x.takeWhile letterB = [97, 110, 121] ∨ ∃ c, numM (x.takeWhile letterB) = some c := by
  cases ha : atomM al x with
  | bad p e => unfold altsL seqM oftenM at h; rw [ha] at h; cases h
  | ok u q =>
    unfold atomM at ha
    rw [hx, if_pos hl] at ha
    unfold namedM at ha
    split at ha
    · rename_i he; exact .inl he
    · unfold classM at ha
      rw [hx, if_pos hl] at ha
      split at ha
      · cases ha
      · rename_i c hc; exact .inr ⟨c, hc⟩
theorem sgn_facts {s : UInt8} (h : sgnB s = true) : letterB s = false ∧ opM s = none ∧ beginsB s = false ∧ s ≠ 124 ∧ s ≠ 35 ∧ s ≠ 10 := by
  have : s = 33 ∨ s = 47 := by unfold sgnB at h; simpa using h
  rcases this with rfl | rfl <;> decide
theorem while_none {x : List UInt8} (h : letterB (x.headD 0) = false) : x.takeWhile letterB = [] := by
  cases x with
  | nil => rfl
  | cons a x => rw [List.takeWhile_cons_of_neg (by simp only [List.headD_cons] at h; rw [h]; decide)]
theorem line_word {t : R3} (h1 : rightM t.1 = true) : skipB (lineM t) = lineM t ∧ ((lineM t).takeWhile letterB = [] ∨ (lineM t).takeWhile letterB = [97, 110, 121] ∨ ∃ c, numM ((lineM t).takeWhile letterB) = some c) := by
  obtain ⟨s, e, hsg, hs32, hsv⟩ := line_parts t
  obtain ⟨g1, g2, g3, g4, g5⟩ := sgn_facts hsg
  rw [e]
  rcases right_cases h1 with ⟨_, hp⟩ | ⟨hf, hp, hb⟩
  · rw [hp]
    exact ⟨skipB_cons hs32, .inl (while_none (x := s :: partR (printM t.2.1)) g1)⟩
  · have hne : textM t.1 ≠ [] := text_ne hf
    have e1 : partL (printM t.1) ++ s :: partR (printM t.2.1) = textM t.1 ++ (32 :: s :: partR (printM t.2.1)) := by rw [hp]; unfold partL; rw [if_neg hne]; simp
    rw [e1]
    obtain ⟨k1, k2⟩ := head_app (rest := 32 :: s :: partR (printM t.2.1)) hb
    refine ⟨k1, ?_⟩
    have hok : okT (32 :: s :: partR (printM t.2.1)) := by
      unfold okT okS okO okA
      rw [skipB_blank, skipB_cons hs32, List.headD_cons]
      exact ⟨⟨⟨(by decide : letterB 32 = false), g2⟩, g3⟩, g4⟩
    have hpt := (parse_all (nsz t.1) t.1 (Nat.le_refl _) hf (depM t.1) (Nat.le_refl _)).pt _ hok
    cases hl : letterB ((textM t.1 ++ (32 :: s :: partR (printM t.2.1))).headD 0) with
    | false => exact .inl (while_none hl)
    | true => exact .inr (first_word hpt k1 hl)
theorem line_key {w : List UInt8} (h : w = [] ∨ w = [97, 110, 121] ∨ ∃ c, numM w = some c) : (w == [108, 101, 116]) = false ∧ (w == [105, 103, 110, 111, 114, 101]) = false ∧ (w == [107, 101, 101, 112]) = false := by
  rcases h with rfl | rfl | ⟨c, hc⟩
  · decide
  · decide
  · refine ⟨beq_eq_false_iff_ne.2 ?_, beq_eq_false_iff_ne.2 ?_, beq_eq_false_iff_ne.2 ?_⟩ <;> (rintro rfl; exact absurd hc (by decide +revert))
theorem bare_all {x : List UInt8} (h : ∀ b ∈ x, b ≠ 35) : bareL x = x := takeWhile_all fun b hb => by simpa using h b hb
theorem line_okC (t : R3) : ∀ b ∈ lineM t, b ≠ 35 := fun b hb => by
  obtain ⟨s, e, hsg, _⟩ := line_parts t
  rw [e] at hb
  rcases List.mem_append.1 hb with hb | hb
  · exact (partL_okC b hb).2.2.2
  · rcases List.mem_cons.1 hb with rfl | hb
    · exact (sgn_facts hsg).2.2.2.2.1
    · exact (partR_okC b hb).2.2.2
theorem readS_rule {st : St} {t : R3} (h1 : rightM t.1 = true) (hst : st.ts.length < 40) : readS st (lineM t) = addR st 0 (ruleM (lineM t)) := by
  obtain ⟨k1, k2⟩ := line_word h1
  obtain ⟨k3, k4, k5⟩ := line_key k2
  have hb := bare_all (line_okC t)
  have hR : lineR (lineM t) = lineM t := by unfold lineR; rw [hb, k1]
  have hne : ¬ (lineM t).length = 0 := by
    obtain ⟨s, e, _⟩ := line_parts t
    rw [e]; simp
  unfold readS
  rw [hR, hb, if_neg hne, if_neg (by rw [k3]; decide), if_neg (by rw [k4]; decide), if_neg (by rw [k5]; decide), if_neg (by omega), Nat.sub_self]

/-! Lines of classes. -/
theorem name_begins {c : Int} (h : 0 ≤ c ∧ c < 36) : beginsB ((nameM c).headD 0) = true := letter_begins (name_head h)
theorem wordsM_cls : ∀ (l : List Int), (∀ c ∈ l, 0 ≤ c ∧ c < 36) → ∀ (n : Nat) (acc : List Int), l.length < n → wordsM n acc (l.flatMap clsM) = .ok (acc ++ l)
  | _, _, 0, _, hn => absurd hn (by omega)
  | [], _, n + 1, acc, _ => by
    unfold wordsM
    rw [if_pos (show (skipB (List.flatMap clsM [])).length = 0 from rfl), List.append_nil]
  | c :: l, h, n + 1, acc, hn => by
    have hc := h c (by simp)
    obtain ⟨f1, f2, f3, f4⟩ := nameM_facts hc
    have hh : letterB ((l.flatMap clsM).headD 0) = false := by
      cases l with
      | nil => decide
      | cons a l => exact (by decide : letterB 32 = false)
    have e : (c :: l).flatMap clsM = 32 :: (nameM c ++ l.flatMap clsM) := by simp [clsM]
    obtain ⟨g1, g2⟩ := head_app (rest := l.flatMap clsM) (name_begins hc)
    obtain ⟨a1, a2⟩ := letter_app f2 hh
    unfold wordsM
    rw [e, skipB_blank, g1, if_neg (by simp; intro hz; exact absurd hz f1), a1, a2, if_neg f1, f4]
    dsimp only
    rw [wordsM_cls l (fun x hx => h x (by simp [hx])) n _ (by simpa using hn), List.append_assoc, Int.toNat_of_nonneg hc.1]
    rfl
theorem rises_step {l : List Int} (h : risesM l = true) {i : Nat} (h0 : 0 < i) (hi : i < l.length) : nth l (i - 1) < nth l i := by
  unfold risesM at h
  rw [Bool.not_eq_true'] at h
  have := anyN_false.1 h i hi
  unfold badAt at this
  simp only [Bool.or_eq_false_iff, Bool.and_eq_false_iff, decide_eq_false_iff_not] at this
  omega
theorem rises_lt {l : List Int} (h : risesM l = true) : ∀ (k i : Nat), i + k < l.length → nth l i ≤ nth l (i + k)
  | 0, i, _ => Int.le_refl _
  | k + 1, i, hk => by
    have h1 := rises_lt h k i (by omega)
    have h2 := rises_step h (i := i + (k + 1)) (by omega) hk
    rw [show i + (k + 1) - 1 = i + k from by omega] at h2
    omega
theorem rises_sort {l : List Int} (h : risesM l = true) : sortM l = l := by
  unfold sortM
  refine List.mergeSort_of_pairwise (List.pairwise_iff_getElem.2 fun i j hi hj hij => ?_)
  have := rises_lt h (j - i) i (by omega)
  rw [show i + (j - i) = j from by omega, nth_eq hi, nth_eq hj] at this
  simpa using this
theorem rises_compact {l : List Int} (h : risesM l = true) : Lib.compact l = l := by
  refine Lib.compact_all l fun j hj => ?_
  unfold Lib.keeps
  rw [decide_eq_true_eq]
  by_cases h0 : j = 0
  · exact .inl h0
  · right
    have := rises_step h (i := j) (by omega) hj
    rw [nth_eq hj, nth_eq (by omega)] at this
    rw [getElem!_pos l.toArray j (by simpa using hj), getElem!_pos l.toArray (j - 1) (by simp; omega)]
    simp only [List.getElem_toArray]
    omega
theorem cls_len : ∀ (l : List Int), l.length ≤ (l.flatMap clsM).length
  | [] => by simp
  | a :: l => by
    have h1 := cls_len l
    have h2 : 1 ≤ (clsM a).length := by simp [clsM]
    rw [List.flatMap_cons, List.length_append, List.length_cons]
    omega
theorem listM_cls {l : List Int} (h : risesM l = true) (hne : l ≠ []) : listM (l.flatMap clsM) = .ok l := by
  unfold listM
  have hlen : l.length < (l.flatMap clsM).length + 1 := by
    have := cls_len l
    omega
  rw [wordsM_cls l (rises_in h) _ [] hlen, List.nil_append]
  cases l with
  | nil => exact absurd rfl hne
  | cons a l =>
    unfold listF
    dsimp only
    rw [rises_sort h, rises_compact h]
theorem cls_word {w : List UInt8} (hw : ∀ b ∈ w, letterB b = true) (l : List Int) : (w ++ l.flatMap clsM).takeWhile letterB = w ∧ (w ++ l.flatMap clsM).dropWhile letterB = l.flatMap clsM := by
  refine letter_app hw ?_
  cases l with
  | nil => decide
  | cons a l => exact (by decide : letterB 32 = false)
theorem readS_ign {st : St} {l : List Int} (h : risesM l = true) (hne : l ≠ []) (hst : st.hi = false) : readS st ([105, 103, 110, 111, 114, 101] ++ l.flatMap clsM) = .go {st with li := l, hi := true} := by
  have hb : bareL ([105, 103, 110, 111, 114, 101] ++ l.flatMap clsM) = [105, 103, 110, 111, 114, 101] ++ l.flatMap clsM := bare_all fun b hb => by
    rcases List.mem_append.1 hb with hb | hb
    · exact (ign_okC b hb).2.2.2
    · exact (cls_okC b hb).2.2.2
  have hR : lineR ([105, 103, 110, 111, 114, 101] ++ l.flatMap clsM) = [105, 103, 110, 111, 114, 101] ++ l.flatMap clsM := by unfold lineR; rw [hb]; exact skipB_cons (by decide)
  obtain ⟨k1, k2⟩ := cls_word (w := [105, 103, 110, 111, 114, 101]) (by decide) l
  unfold readS
  rw [hR, hb, if_neg (by simp), k1, k2, if_neg (by decide), if_pos (by decide), if_neg (by rw [hst]; decide), listM_cls h hne]
  rfl
theorem readS_keep {st : St} {l : List Int} (h : risesM l = true) (hne : l ≠ []) (hst : st.hk = false) : readS st ([107, 101, 101, 112] ++ l.flatMap clsM) = .go {st with lk := l, hk := true} := by
  have hb : bareL ([107, 101, 101, 112] ++ l.flatMap clsM) = [107, 101, 101, 112] ++ l.flatMap clsM := bare_all fun b hb => by
    rcases List.mem_append.1 hb with hb | hb
    · exact (keep_okC b hb).2.2.2
    · exact (cls_okC b hb).2.2.2
  have hR : lineR ([107, 101, 101, 112] ++ l.flatMap clsM) = [107, 101, 101, 112] ++ l.flatMap clsM := by unfold lineR; rw [hb]; exact skipB_cons (by decide)
  obtain ⟨k1, k2⟩ := cls_word (w := [107, 101, 101, 112]) (by decide) l
  unfold readS
  rw [hR, hb, if_neg (by simp), k1, k2, if_neg (by decide), if_neg (by decide), if_pos (by decide), if_neg (by rw [hst]; decide), listM_cls h hne]
  rfl

/-! Line by line. -/
theorem lineT_cut {x r : List UInt8} (h : ∀ b ∈ x, b ≠ 10) : lineT (x ++ 10 :: r) = x := by
  unfold lineT
  rw [List.takeWhile_append_of_pos (fun b hb => by simpa using h b hb), List.takeWhile_cons_of_neg (by simp), List.append_nil]
theorem linesS_go {n : Nat} {st st' : St} {fr : Nat} {x r : List UInt8} (h : ∀ b ∈ x, b ≠ 10) (hr : readS st x = .go st') : linesS (n + 1) st fr (x ++ 10 :: r) = linesS n st' (fr + x.length + 1) r := by
  conv => lhs; unfold linesS
  rw [lineT_cut h, hr]
  dsimp only
  rw [if_neg (by simp), ← List.drop_drop, List.drop_left]
  rfl
theorem linesS_bad {n : Nat} {st : St} {fr p : Nat} {e : Int} {x r : List UInt8} (h : ∀ b ∈ x, b ≠ 10) (hr : readS st x = .bad p e) : linesS (n + 1) st fr (x ++ 10 :: r) = .bad (fr + p) e := by
  conv => lhs; unfold linesS
  rw [lineT_cut h, hr]
theorem linesS_nil (n : Nat) (st : St) (fr : Nat) : linesS (n + 1) st fr [] = .ok st := by
  unfold linesS
  have : readS st (lineT []) = .go st := by unfold readS; rw [if_pos (show (lineR (lineT [])).length = 0 from rfl)]
  rw [this]
  rfl
theorem unlines_cons (x : List UInt8) (l : List (List UInt8)) : unlinesM (x :: l) = x ++ 10 :: unlinesM l := by unfold unlinesM; simp
theorem linesS_rules : ∀ (ts : List R3), (∀ t ∈ ts, ruleR t = true ∧ (lineM t).length ≤ 4096) → ∀ (n : Nat) (st : St) (fr : Nat), st.ts.length + ts.length ≤ 40 → ts.length < n →
    ((∀ t ∈ ts, depM t.1 ≤ 20 ∧ depM t.2.1 ≤ 20) ∧ linesS n st fr (unlinesM (ts.map lineM)) = .ok {st with ts := st.ts ++ ts}) ∨ ((∃ t ∈ ts, 20 < depM t.1 ∨ 20 < depM t.2.1) ∧ ∃ p, linesS n st fr (unlinesM (ts.map lineM)) = .bad p 6)
  | _, _, 0, _, _, _, hn => absurd hn (by omega)
  | [], _, n + 1, st, fr, _, _ => .inl ⟨fun t ht => absurd ht (by simp), by rw [List.append_nil]; exact linesS_nil n st fr⟩
  | t :: ts, h, n + 1, st, fr, hst, hn => by
    obtain ⟨hr, hl⟩ := h t (by simp)
    simp only [ruleR, Bool.and_eq_true, beq_iff_eq] at hr
    simp only [List.length_cons] at hst hn
    have hrd := readS_rule (st := st) hr.1.1 (by omega)
    rw [List.map_cons, unlines_cons]
    rcases ruleM_line hr.1.1 hr.1.2 hr.2 hl with ⟨hd, q⟩ | ⟨hd, p, q⟩
    · rw [q] at hrd
      rw [linesS_go (line_no10 t) hrd]
      rcases linesS_rules ts (fun t ht => h t (by simp [ht])) n {st with ts := st.ts ++ [t]} (fr + (lineM t).length + 1) (by simp; omega) (by omega) with ⟨hda, q2⟩ | ⟨⟨u, hu, hud⟩, p, q2⟩
      · refine .inl ⟨fun u hu => ?_, by rw [q2, List.append_assoc]; rfl⟩
        rcases List.mem_cons.1 hu with rfl | hu
        · exact hd
        · exact hda u hu
      · exact .inr ⟨⟨u, by simp [hu], hud⟩, p, q2⟩
    · rw [q] at hrd
      exact .inr ⟨⟨t, by simp, hd⟩, _, linesS_bad (line_no10 t) hrd⟩
end Go.Proofs.YtmohcfjopaccdaaGreatDoor
end
section
/- Plain: a printed meaning, read again; how deep its brackets stand. -/
namespace Go.Proofs.YtmohcfjopaccdaaGreatDoor
open Go.VL Go.Proofs
set_option maxRecDepth 10000

theorem ign_step {n : Nat} {st : St} {fr : Nat} {l : List Int} {r : List (List UInt8)} (h : risesM l = true) (h1 : st.li = []) (h2 : st.hi = false) (hn : (clsLine [105, 103, 110, 111, 114, 101] l).length ≤ n) :
    ∃ st1 n1 fr1, linesS n st fr (unlinesM (clsLine [105, 103, 110, 111, 114, 101] l ++ r)) = linesS n1 st1 fr1 (unlinesM r) ∧ n = n1 + (clsLine [105, 103, 110, 111, 114, 101] l).length ∧ st1.li = l ∧ st1.lk = st.lk ∧ st1.ts = st.ts ∧ st1.hk = st.hk := by
  by_cases hl : l = []
  · subst hl; exact ⟨st, n, fr, rfl, rfl, h1, rfl, rfl, rfl⟩
  · unfold clsLine at hn ⊢
    rw [if_neg hl] at hn ⊢
    obtain ⟨n, rfl⟩ : ∃ m, n = m + 1 := ⟨n - 1, by simp at hn; omega⟩
    refine ⟨{st with li := l, hi := true}, n, fr + ([105, 103, 110, 111, 114, 101] ++ l.flatMap clsM).length + 1, ?_, rfl, ?_⟩
    · rw [List.singleton_append, unlines_cons, linesS_go (fun b hb => ?_) (readS_ign h hl h2)]
      rcases List.mem_append.1 hb with hb | hb
      · exact (ign_okC b hb).2.2.1
      · exact (cls_okC b hb).2.2.1
    · exact ⟨rfl, rfl, rfl, rfl⟩
theorem keep_step {n : Nat} {st : St} {fr : Nat} {l : List Int} {r : List (List UInt8)} (h : risesM l = true) (h1 : st.lk = []) (h2 : st.hk = false) (hn : (clsLine [107, 101, 101, 112] l).length ≤ n) :
    ∃ st1 n1 fr1, linesS n st fr (unlinesM (clsLine [107, 101, 101, 112] l ++ r)) = linesS n1 st1 fr1 (unlinesM r) ∧ n = n1 + (clsLine [107, 101, 101, 112] l).length ∧ st1.lk = l ∧ st1.li = st.li ∧ st1.ts = st.ts := by
  by_cases hl : l = []
  · subst hl; exact ⟨st, n, fr, rfl, rfl, h1, rfl, rfl⟩
  · unfold clsLine at hn ⊢
    rw [if_neg hl] at hn ⊢
    obtain ⟨n, rfl⟩ : ∃ m, n = m + 1 := ⟨n - 1, by simp at hn; omega⟩
    refine ⟨{st with lk := l, hk := true}, n, fr + ([107, 101, 101, 112] ++ l.flatMap clsM).length + 1, ?_, rfl, ?_⟩
    · rw [List.singleton_append, unlines_cons, linesS_go (fun b hb => ?_) (readS_keep h hl h2)]
      rcases List.mem_append.1 hb with hb | hb
      · exact (keep_okC b hb).2.2.1
      · exact (cls_okC b hb).2.2.1
    · exact ⟨rfl, rfl, rfl⟩
theorem unlines_ge : ∀ (l : List (List UInt8)), l.length ≤ (unlinesM l).length
  | [] => by simp
  | x :: l => by have := unlines_ge l; rw [unlines_cons, List.length_append, List.length_cons, List.length_cons]; omega
theorem unlines_mem : ∀ {l : List (List UInt8)} {x : List UInt8}, x ∈ l → x.length ≤ (unlinesM l).length
  | [], x, h => absurd h (by simp)
  | y :: l, x, h => by
    rw [unlines_cons, List.length_append, List.length_cons]
    rcases List.mem_cons.1 h with rfl | h
    · omega
    · have := unlines_mem h; omega
theorem right_parts {li lk : List Int} {ts : List R3} (h : rightT li lk ts = true) : ts.length ≤ 40 ∧ risesM li = true ∧ risesM lk = true ∧ ∀ t ∈ ts, ruleR t = true := by
  unfold rightT at h
  simp only [Bool.and_eq_true, decide_eq_true_eq] at h
  obtain ⟨⟨⟨h1, h2⟩, h3⟩, h4⟩ := h
  refine ⟨by omega, h2, h3, fun t ht => ?_⟩
  unfold allR at h4
  rw [Bool.not_eq_true'] at h4
  obtain ⟨i, hi, rfl⟩ := List.getElem_of_mem ht
  have := anyN_false.1 h4 i hi
  rw [nth_eq hi] at this
  simpa using this
def deepT (ts : List R3) : Prop := ∃ t ∈ ts, 20 < depM t.1 ∨ 20 < depM t.2.1
theorem parse_print {li lk : List Int} {ts : List R3} (h : rightT li lk ts = true) (hl : (printT li lk ts).length ≤ 4096) :
    (¬ deepT ts ∧ ∃ st, parseS (printT li lk ts) = .ok st ∧ st.li = li ∧ st.lk = lk ∧ st.ts = ts) ∨ (deepT ts ∧ ∃ p, parseS (printT li lk ts) = .bad p 6) := by
  obtain ⟨r1, r2, r3, r4⟩ := right_parts h
  unfold parseS
  rw [if_neg (by omega)]
  rw [print_lines h] at hl ⊢
  have hge := unlines_ge (linesP li lk ts)
  have hts : ∀ t ∈ ts, (lineM t).length ≤ 4096 := fun t ht => Nat.le_trans (unlines_mem (l := linesP li lk ts) (by unfold linesP; exact List.mem_append_right _ (List.mem_map.2 ⟨t, ht, rfl⟩))) hl
  have hlen : (linesP li lk ts).length = (clsLine [105, 103, 110, 111, 114, 101] li).length + (clsLine [107, 101, 101, 112] lk).length + ts.length := by unfold linesP; simp [Nat.add_assoc]
  obtain ⟨n, hnd⟩ : ∃ n, n = (unlinesM (linesP li lk ts)).length + 1 := ⟨_, rfl⟩
  rw [← hnd]
  rw [show linesP li lk ts = clsLine [105, 103, 110, 111, 114, 101] li ++ (clsLine [107, 101, 101, 112] lk ++ ts.map lineM) from by unfold linesP; rw [List.append_assoc]]
  obtain ⟨s1, n1, f1, e1, k1, a1, a2, a3, a4⟩ := ign_step (n := n) (st := st0) (fr := 0) (r := clsLine [107, 101, 101, 112] lk ++ ts.map lineM) r2 rfl rfl (by omega)
  obtain ⟨s2, n2, f2, e2, k2, b1, b2, b3⟩ := keep_step (n := n1) (st := s1) (fr := f1) (r := ts.map lineM) r3 a2 a4 (by omega)
  rw [e1, e2]
  have ht0 : s2.ts = [] := by rw [b3, a3]; rfl
  rcases linesS_rules ts (fun t ht => ⟨r4 t ht, hts t ht⟩) n2 s2 f2 (by rw [ht0]; simpa using r1) (by omega) with ⟨hd, q⟩ | ⟨hd, p, q⟩
  · refine .inl ⟨?_, _, q, ?_, b1, ?_⟩
    · rintro ⟨t, ht, hd'⟩
      have := hd t ht
      omega
    · exact b2.trans a1
    · simp [ht0]
  · exact .inr ⟨hd, p, q⟩

/-! Brackets. -/
def Bal (x : List UInt8) (d : Nat) : Prop := ∀ q : Int × Int, q.1 ≤ q.2 → x.foldl brStep q = (q.1, max q.2 (q.1 + (d : Int)))
theorem brStep_plain {b : UInt8} (h1 : b ≠ 40) (h2 : b ≠ 41) (q : Int × Int) : brStep q b = (q.1, max q.2 q.1) := by simp [brStep, h1, h2]
theorem brStep_open (q : Int × Int) : brStep q 40 = (q.1 + 1, max q.2 (q.1 + 1)) := by simp [brStep]
theorem brStep_close (q : Int × Int) : brStep q 41 = (q.1 - 1, max q.2 (q.1 - 1)) := by simp [brStep]
theorem Bal.nil : Bal [] 0 := fun q h => by
  rw [List.foldl_nil]
  refine Prod.ext rfl ?_
  simp only
  omega
theorem Bal.app {x y : List UInt8} {d e : Nat} (h : Bal x d) (k : Bal y e) : Bal (x ++ y) (max d e) := fun q hq => by
  rw [List.foldl_append, h q hq, k _ (by simp only; omega)]
  refine Prod.ext rfl ?_
  simp only
  omega
theorem Bal.one {b : UInt8} (h1 : b ≠ 40) (h2 : b ≠ 41) : Bal [b] 0 := fun q hq => by
  rw [List.foldl_cons, List.foldl_nil, brStep_plain h1 h2]
  refine Prod.ext rfl ?_
  simp only
  omega
theorem Bal.plain : ∀ {x : List UInt8}, (∀ b ∈ x, b ≠ 40 ∧ b ≠ 41) → Bal x 0
  | [], _ => Bal.nil
  | b :: x, h => by
    obtain ⟨h1, h2⟩ := h b (by simp)
    exact (Bal.one h1 h2).app (Bal.plain fun c hc => h c (by simp [hc]))
theorem Bal.wrap {x : List UInt8} {d : Nat} (h : Bal x d) : Bal (40 :: (x ++ [41])) (d + 1) := fun q hq => by
  rw [List.foldl_cons, List.foldl_append]
  rw [brStep_open, h _ (by simp only; omega), List.foldl_cons, List.foldl_nil, brStep_close]
  refine Prod.ext ?_ ?_
  · simp only; omega
  · simp only; omega
theorem name_bal (c : Int) : Bal (nameM c) 0 := Bal.plain fun b hb => by
  by_cases h : 0 ≤ c ∧ c < 36
  · have := (nameM_facts h).2.1 b hb
    refine ⟨?_, ?_⟩ <;> (rintro rfl; revert this; decide)
  · unfold nameM at hb; rw [if_neg h] at hb; simp at hb
theorem Bal.cast {x y : List UInt8} {d e : Nat} (h : Bal x d) (hx : x = y) (hd : d = e) : Bal y e := by rw [← hx, ← hd]; exact h
theorem Bal.drop {b : UInt8} {x : List UInt8} {d : Nat} (h : Bal (b :: x) d) (h1 : b ≠ 40) (h2 : b ≠ 41) : Bal x d := fun q hq => by
  have e : brStep q b = q := by
    rw [brStep_plain h1 h2]
    refine Prod.ext rfl ?_
    simp only
    omega
  have := h q hq
  rw [List.foldl_cons, e] at this
  exact this
theorem join_bal {s : UInt8} (h1 : s ≠ 40) (h2 : s ≠ 41) {xs : List (List UInt8)} {d : Nat} (h : Bal (xs.flatMap fun x => [s] ++ x) d) : Bal (joinM [s] xs) d := by
  cases xs with
  | nil => exact h
  | cons a r =>
    rw [List.flatMap_cons, List.append_assoc, List.singleton_append] at h
    exact h.drop h1 h2
mutual
theorem text_bal : ∀ (t : Nd) (wi : Bool), fitsM t wi = true → Bal (textM t) (depM t)
  | .mk k c l, wi, hf => by
    simp only [fitsM, Bool.and_eq_true] at hf
    have ih := fun ks s h1 h2 => told_bal l ks s h1 h2 hf.2
    rcases head_cases hf.1 with ⟨rfl, hl, hc⟩ | ⟨rfl, hl, rfl⟩ | ⟨rfl, hl, hc⟩ | ⟨rfl, hl, rfl⟩ | ⟨rfl, hl, rfl⟩ | ⟨rfl, hl, rfl⟩ | ⟨rfl, hl, rfl⟩ | ⟨rfl, hl, rfl⟩ | ⟨rfl, hl, rfl⟩ | ⟨rfl, hl, rfl, e⟩
    · exact (name_bal c).cast (by simp [textM]) (by simp [depM])
    · exact (Bal.plain (x := [97, 110, 121]) (by decide)).cast (by simp [textM]) (by simp [depM])
    · exact ((Bal.one (b := 126) (by decide) (by decide)).app (name_bal c)).cast (by simp [textM]) (by simp [depM])
    · exact (Bal.plain (x := [94]) (by decide)).cast (by simp [textM]) (by simp [depM])
    · exact (join_bal (by decide) (by decide) (ih [4, 5] 32 (by decide) (by decide))).cast (by simp [textM]) (by simp [depM])
    · exact (join_bal (by decide) (by decide) (ih [5] 124 (by decide) (by decide))).cast (by simp [textM]) (by simp [depM])
    · obtain ⟨a, rfl⟩ := List.length_eq_one_iff.1 hl
      exact ((join_bal (by decide) (by decide) (ih [4, 5, 6, 7, 8] 32 (by decide) (by decide))).app (Bal.one (b := 42) (by decide) (by decide))).cast (by simp [textM, toldL, joinM, nth_cons0]) (by simp [depM])
    · obtain ⟨a, rfl⟩ := List.length_eq_one_iff.1 hl
      exact ((join_bal (by decide) (by decide) (ih [4, 5, 6, 7, 8] 32 (by decide) (by decide))).app (Bal.one (b := 43) (by decide) (by decide))).cast (by simp [textM, toldL, joinM, nth1_3]) (by simp [depM])
    · obtain ⟨a, rfl⟩ := List.length_eq_one_iff.1 hl
      exact ((join_bal (by decide) (by decide) (ih [4, 5, 6, 7, 8] 32 (by decide) (by decide))).app (Bal.one (b := 63) (by decide) (by decide))).cast (by simp [textM, toldL, joinM, nth2_3]) (by simp [depM])
    · exact Bal.nil.cast (by simp [textM]) (by simp [depM])
theorem told_bal : ∀ (l : List Nd) (ks : List Int) (s : UInt8), s ≠ 40 → s ≠ 41 → fitsL l = true → Bal ((toldL ks l).flatMap fun x => [s] ++ x) (depL ks l)
  | [], ks, s, h1, h2, hf => Bal.nil.cast (by simp [toldL]) (by simp [depL])
  | t :: r, ks, s, h1, h2, hf => by
    rw [fitsL, Bool.and_eq_true] at hf
    have ht := text_bal t true hf.1
    have hr := told_bal r ks s h1 h2 hf.2
    rw [toldL, depL, List.flatMap_cons]
    refine Bal.app ?_ hr
    refine ((Bal.one h1 h2).app (y := if t.kind ∈ ks then 40 :: (textM t ++ [41]) else textM t) (e := if t.kind ∈ ks then depM t + 1 else depM t) ?_).cast rfl (Nat.zero_max _)
    split
    · exact ht.wrap
    · exact ht
end
theorem print_bal {t : Nd} (h : rightM t = true) : Bal (printM t) (depM t) := by
  have hf : fitsM t false = true := by simp only [rightM, Bool.and_eq_true] at h; exact h.2
  unfold printM
  rw [if_pos h]
  exact text_bal t false hf
theorem line_bal {t : R3} (h1 : rightM t.1 = true) (h2 : rightM t.2.1 = true) : Bal (lineM t) (max (depM t.1) (depM t.2.1)) := by
  have hL : Bal (partL (printM t.1)) (depM t.1) := by
    have := print_bal h1
    unfold partL
    split
    · rename_i e; rw [e] at this; exact this
    · exact (this.app (Bal.one (b := 32) (by decide) (by decide))).cast rfl (Nat.max_zero _)
  have hR : Bal (partR (printM t.2.1)) (depM t.2.1) := by
    have := print_bal h2
    unfold partR
    split
    · rename_i e; rw [e] at this; exact this
    · exact ((Bal.one (b := 32) (by decide) (by decide)).app this).cast rfl (Nat.zero_max _)
  obtain ⟨s, e, hs, _⟩ := line_parts t
  have hs2 : s ≠ 40 ∧ s ≠ 41 := by
    refine ⟨?_, ?_⟩ <;> (rintro rfl; revert hs; decide)
  rw [e, ← List.singleton_append]
  exact (hL.app ((Bal.one hs2.1 hs2.2).app hR)).cast rfl (by omega)
theorem rules_bal : ∀ (ts : List R3), (∀ t ∈ ts, ruleR t = true) → ∃ d, Bal (unlinesM (ts.map lineM)) d ∧ (20 < d ↔ deepT ts)
  | [], _ => ⟨0, Bal.nil, by simp [deepT]⟩
  | t :: ts, h => by
    obtain ⟨d, hd, hdd⟩ := rules_bal ts fun t ht => h t (by simp [ht])
    have hr := h t (by simp)
    simp only [ruleR, Bool.and_eq_true] at hr
    refine ⟨max (max (depM t.1) (depM t.2.1)) d, ?_, ?_⟩
    · rw [List.map_cons, unlines_cons, ← List.singleton_append]
      exact ((line_bal hr.1.1 hr.1.2).app ((Bal.one (b := 10) (by decide) (by decide)).app hd)).cast rfl (by omega)
    · have e : deepT (t :: ts) ↔ (20 < depM t.1 ∨ 20 < depM t.2.1) ∨ deepT ts := by unfold deepT; simp
      rw [e, ← hdd]
      omega
theorem cls_bal {w : List UInt8} (hw : ∀ b ∈ w, b ≠ 40 ∧ b ≠ 41) (l : List Int) : Bal (unlinesM (clsLine w l)) 0 := by
  unfold clsLine
  split
  · exact Bal.nil
  · rw [unlines_cons]
    have hn : ∀ (l : List Int), Bal (l.flatMap clsM) 0 := fun l => by
      induction l with
      | nil => exact Bal.nil
      | cons a l ih =>
        rw [List.flatMap_cons]
        exact (((Bal.one (b := 32) (by decide) (by decide)).app (name_bal a)).app ih).cast rfl rfl
    exact ((((Bal.plain hw).app (hn l))).app ((Bal.one (b := 10) (by decide) (by decide)).app Bal.nil)).cast rfl rfl
theorem brM_print {li lk : List Int} {ts : List R3} (h : rightT li lk ts = true) : 20 < brM (printT li lk ts) ↔ deepT ts := by
  obtain ⟨r1, r2, r3, r4⟩ := right_parts h
  obtain ⟨d, hd, hdd⟩ := rules_bal ts r4
  rw [print_lines h]
  have hb : Bal (unlinesM (linesP li lk ts)) d := by
    unfold linesP unlinesM
    rw [List.flatMap_append, List.flatMap_append]
    exact (((cls_bal (w := [105, 103, 110, 111, 114, 101]) (by decide) li).app (cls_bal (w := [107, 101, 101, 112]) (by decide) lk)).app hd).cast rfl (by simp)
  have := hb (0, 0) (Int.le_refl _)
  unfold brM brF
  rw [this, ← hdd]
  simp only
  omega
end Go.Proofs.YtmohcfjopaccdaaGreatDoor
end
section
/- Package virgulelaw06, walked: RulePrints. -/
namespace Go.Proofs.YtmohcfjopaccdaaGreatDoor
open Go.VL Go.Proofs
set_option maxRecDepth 10000

theorem letter_asc {b : UInt8} (h : letterB b = true) : b.toNat < 128 := by
  unfold letterB at h
  simp only [Bool.or_eq_true, Bool.and_eq_true, decide_eq_true_eq] at h
  omega
theorem name_asc (c : Int) : ∀ b ∈ nameM c, b.toNat < 128 := fun b hb => by
  by_cases h : 0 ≤ c ∧ c < 36
  · exact letter_asc ((nameM_facts h).2.1 b hb)
  · unfold nameM at hb; rw [if_neg h] at hb; simp at hb
mutual
theorem text_asc : ∀ (t : Nd), ∀ b ∈ textM t, b.toNat < 128
  | .mk k c l, b, hb => by
    have ih := fun ks => told_asc ks l
    simp only [textM] at hb
    split at hb
    · exact name_asc c b hb
    · split at hb
      · revert b; decide
      · split at hb
        · rcases List.mem_cons.1 hb with rfl | hb
          · decide
          · exact name_asc c b hb
        · split at hb
          · revert b; decide
          · split at hb
            · rcases join_mem hb with rfl | ⟨x, hx, hb⟩
              · decide
              · exact ih _ x hx b hb
            · split at hb
              · rcases join_mem hb with rfl | ⟨x, hx, hb⟩
                · decide
                · exact ih _ x hx b hb
              · split at hb
                · rename_i hk
                  rcases List.mem_append.1 hb with hb | hb
                  · have h6 := ih [4, 5, 6, 7, 8]
                    cases hq : toldL [4, 5, 6, 7, 8] l with
                    | nil => rw [hq] at hb; simp at hb
                    | cons x r => rw [hq] at hb h6; exact h6 x (by simp) b hb
                  · rcases hk with rfl | rfl | rfl
                    · simp [nth_cons0] at hb; subst hb; decide
                    · simp [nth1_3] at hb; subst hb; decide
                    · simp [nth2_3] at hb; subst hb; decide
                · simp at hb
theorem told_asc (ks : List Int) : ∀ (l : List Nd), ∀ x ∈ toldL ks l, ∀ b ∈ x, b.toNat < 128
  | [], x, hx, _, _ => by simp [toldL] at hx
  | t :: r, x, hx, b, hb => by
    rw [toldL] at hx
    rcases List.mem_cons.1 hx with rfl | hx
    · split at hb
      · rcases List.mem_cons.1 hb with rfl | hb
        · decide
        · rcases List.mem_append.1 hb with hb | hb
          · exact text_asc t b hb
          · simp at hb; subst hb; decide
      · exact text_asc t b hb
    · exact told_asc ks r x hx b hb
end
theorem print_asc (t : Nd) : ∀ b ∈ printM t, b.toNat < 128 := fun b hb => by
  unfold printM at hb
  split at hb
  · exact text_asc t b hb
  · simp at hb
theorem asc_app {x y : List UInt8} (h : asciiL x) (k : asciiL y) : asciiL (x ++ y) := fun b hb => by
  rcases List.mem_append.1 hb with hb | hb
  · exact h b hb
  · exact k b hb
theorem asc_flat {α : Type} {f : α → List UInt8} {l : List α} (h : ∀ a ∈ l, asciiL (f a)) : asciiL (l.flatMap f) := fun b hb => by
  obtain ⟨a, ha, hb⟩ := List.mem_flatMap.1 hb
  exact h a ha b hb
theorem cls_asc (l : List Int) : asciiL (l.flatMap clsM) := asc_flat fun c _ => asc_app (by unfold asciiL; decide) (name_asc c)
theorem clsLine_asc {w : List UInt8} (hw : asciiL w) (l : List Int) : ∀ x ∈ clsLine w l, asciiL x := fun x hx => by
  unfold clsLine at hx
  split at hx
  · simp at hx
  · rw [List.mem_singleton.1 hx]; exact asc_app hw (cls_asc l)
theorem line_asc (t : R3) : asciiL (lineM t) := by
  unfold lineM
  refine asc_app (asc_app ?_ ?_) ?_
  · unfold partL
    split
    · exact fun b hb => absurd hb (by simp)
    · exact asc_app (print_asc _) (by unfold asciiL; decide)
  · unfold signM asciiL; split <;> decide
  · unfold partR
    split
    · exact fun b hb => absurd hb (by simp)
    · exact asc_app (by unfold asciiL; decide) (print_asc _)
theorem printT_asc {li lk : List Int} {ts : List R3} (h : rightT li lk ts = true) : asciiL (printT li lk ts) := by
  rw [print_lines h]
  unfold unlinesM
  refine asc_flat fun x hx => asc_app ?_ (by unfold asciiL; decide)
  unfold linesP at hx
  rcases List.mem_append.1 hx with hx | hx
  · rcases List.mem_append.1 hx with hx | hx
    · exact clsLine_asc (by unfold asciiL; decide) li x hx
    · exact clsLine_asc (by unfold asciiL; decide) lk x hx
  · obtain ⟨t, _, rfl⟩ := List.mem_map.1 hx; exact line_asc t
theorem printT_len {li lk : List Int} {ts : List R3} (h : rightT li lk ts = true) (hf : Few li lk ts) : (printT li lk ts).length ≤ 100000000 := by
  obtain ⟨f1, f2, f3, f4⟩ := hf
  have hc1 : (classesM [105, 103, 110, 111, 114, 101] li).length ≤ 2000000 := by
    have := flat_len (l := li) (m := 11) fun c _ => clsM_len c
    unfold classesM; split <;> simp at this ⊢ <;> omega
  have hc2 : (classesM [107, 101, 101, 112] lk).length ≤ 2000000 := by
    have := flat_len (l := lk) (m := 11) fun c _ => clsM_len c
    unfold classesM; split <;> simp at this ⊢ <;> omega
  rw [printT_acc h]
  have := accM_len (f := lineN) (a := classesM [105, 103, 110, 111, 114, 101] li ++ classesM [107, 101, 101, 112] lk) (l := ts) (k := ts.length) (m := 200010) fun t _ => lineN_len t
  rw [List.length_append] at this
  omega
theorem parse_printed {li lk : List Int} {ts : List R3} (h : rightT li lk ts = true) : parseS (printT li lk ts) ≠ .other := fun e => by
  by_cases hl : 4096 < (printT li lk ts).length
  · unfold parseS at e; rw [if_pos hl] at e; cases e
  · rcases parse_print h (by omega) with ⟨_, st, q, _⟩ | ⟨_, p, q⟩
    · rw [q] at e; cases e
    · rw [q] at e; cases e
theorem printed_shape {w : World} {v : Value} {li lk : List Int} {ts : List R3} (h : rightT li lk ts = true) (hP : PostS6 w v (parseS (printT li lk ts))) :
    ∃ a b c av ev, v = .tuple #[txtV a b c, .int .i64 av, .int .i64 ev] ∧ a.oneCell' = true ∧ b.oneCell' = true ∧ c.oneCell' = true ∧ ((4096 < (printT li lk ts).length ∨ 20 < brM (printT li lk ts)) → ev = 3 ∨ ev = 6) ∧ (¬ 4096 < (printT li lk ts).length → ¬ 20 < brM (printT li lk ts) → av = 0 ∧ ev = 0 ∧ Tx w (txtV a b c) li lk ts) := by
  by_cases hl : 4096 < (printT li lk ts).length
  · have e : parseS (printT li lk ts) = .bad 0 3 := by unfold parseS; rw [if_pos hl]
    rw [e] at hP
    obtain ⟨rfl, _⟩ := hP
    exact ⟨_, _, _, _, _, rfl, rfl, rfl, rfl, fun _ => .inl rfl, fun h1 => absurd hl h1⟩
  · have hb := brM_print h
    rcases parse_print h (by omega) with ⟨hd, st, q, q1, q2, q3⟩ | ⟨hd, p, q⟩
    · rw [q] at hP
      obtain ⟨tv, rfl, ht⟩ := hP
      rw [q1, q2, q3] at ht
      obtain ⟨a, b, c, rfl, o1, o2, o3⟩ := ht.shape
      exact ⟨a, b, c, 0, 0, rfl, o1, o2, o3, fun h1 => by rcases h1 with h1 | h1; exact absurd h1 hl; exact absurd (hb.1 h1) hd, fun _ _ => ⟨rfl, rfl, ht⟩⟩
    · rw [q] at hP
      obtain ⟨rfl, _⟩ := hP
      exact ⟨_, _, _, _, _, rfl, rfl, rfl, rfl, fun _ => .inr rfl, fun _ h2 => absurd (hb.2 hd) h2⟩
theorem rulePrintsLaw_ret (li lk : List Int) (ts : List R3) (va : Value) (w : World) (hA : Tx w va li lk ts) : Ret Tryz.prog 4 [va] w fun u w' => u = .bool true ∧ Ext w w' := by
  have hA0 := hA
  obtain ⟨ig, kp, ru, xs, rfl, h1, h2, h3, h4, h5⟩ := hA0
  have o1 := h1.one
  have o2 := h2.one
  have o3 := h3.one
  refine Ret.enter Tryz.func4 Tryz.ntmps4 rfl rfl ?_
  refine WC.seq ?_
  refine WC.region ?_
  refine WL.boxO (Rng.start w) 1 (by omega) rfl rfl ?_
  intro xb w1 O1 hx1 hU1 hR1 hE1
  have at0 : ∀ W, Ext w1 W → ∀ (j : Nat) (u : Value), [ig, kp, ru][j]? = some u → W.cell? ((⟨xb, 0, none⟩ : Addr).add j) = some u := fun W hE j u hu => hE.cell (hx1.cellsAdd j u hu)
  refine WL.v (RV.assign rfl) rfl ?_
  refine WL.nil ?_
  refine QF.seqNext ?_
  refine WC.seq ?_
  refine WC.seq ?_
  refine WC.region ?_
  refine WL.v (RV.loadAgg (us := [ig, kp, ru]) (at0 _ (Ext.refl _)) (Tryz.isAgg34 _) (Tryz.sizeOf34 _) rfl) rfl ?_
  refine WL.call Tryz.call9 rfl (great_ret li lk ts _ w1 (hA.ext hE1)) rfl ?_
  rintro u w3 ⟨ga, rfl, hE3, hfa⟩
  refine WL.v (RV.move rfl) rfl ?_
  cases ga with
  | true =>
    refine WL.know (d := 10) rfl (b' := true) (rfl) ?_
    refine WL.off rfl rfl rfl ?_
    refine WL.off rfl rfl rfl ?_
    refine WL.v (RV.pickT rfl rfl) rfl ?_
    refine WL.nil ?_
    refine QF.seqNext ?_
    refine WC.condT rfl rfl ?_
    refine WC.seq ?_
    refine WC.region ?_
    refine WL.call Tryz.call7 rfl (awake_ret w3) rfl ?_
    rintro u w4 ⟨rfl, hE4⟩
    refine WL.v (RV.assign rfl) rfl ?_
    refine WL.nil ?_
    refine QF.seqNext ?_
    refine WC.ret ?_
    refine QF.thenRet ?_
    refine QF.done1 rfl rfl (⟨rfl, (hE1.trans hE3).trans hE4⟩)
  | false =>
    replace hfa := hfa rfl
    refine WL.know (d := 10) rfl (b' := false) (rfl) ?_
    refine WL.on rfl ?_
    refine WL.call Tryz.call7 rfl (awake_ret w3) rfl ?_
    rintro u w4 ⟨rfl, hE4⟩
    have hE14 := hE3.trans hE4
    have hE04 := hE1.trans hE14
    refine WL.on rfl ?_
    refine WL.v (RV.not rfl) rfl ?_
    refine WL.v (RV.pickF rfl rfl) rfl ?_
    refine WL.nil ?_
    refine QF.seqNext ?_
    refine WC.condF rfl (rfl) ?_
    refine WC.skip ?_
    refine QF.seqNext ?_
    refine WC.seq ?_
    refine WC.region ?_
    refine WL.v (RV.loadAgg (us := [ig, kp, ru]) (at0 _ hE14) (Tryz.isAgg34 _) (Tryz.sizeOf34 _) rfl) rfl ?_
    refine WL.call Tryz.call10 rfl (to6_ret li lk ts xs ig kp ru _ (fun _ => 0) w4 (Rng.start w4) (h1.ext hE04) (h2.ext hE04) (h3.ext hE04) h4 (fun i hi => (h5 i hi).ext hE04) hfa) rfl ?_
    rintro u w5 ⟨rv, rfl, r1, hE5⟩
    have ro := r1.one
    refine WL.allocO (Rng.start w5) 1 (by omega) (Tryz.zeroValue26 _) rfl ?_
    intro bx w6 O6 hx6 hU6 hR6 hE6
    have r6 := RulesO.upd r1 hU6
    refine WL.storeAgg (us := #[ig, kp, rv]) hx6 rfl (Tryz.sizeOf26 _) (txt_one o1 o2 ro) rfl rfl rfl ?_
    have hUz : Upd (fun k => k = 1) O6 w6 O6 (w6.setRow bx #[ig, kp, rv]) := Upd.setRow (by decide) hx6.tag rfl
    have hx7 := hx6.setRow (us := #[ig, kp, rv])
    have r7 := RulesO.upd r6 hUz
    have hE57 := (hU6.trans hUz).ext
    generalize w6.setRow bx #[ig, kp, rv] = w7 at *
    have hE07 := (hE04.trans hE5).trans hE57
    have hE17 := (hE14.trans hE5).trans hE57
    have at' : ∀ W, Ext w7 W → ∀ (j : Nat) (u : Value), [ig, kp, ru][j]? = some u → W.cell? ((⟨xb, 0, none⟩ : Addr).add j) = some u := fun W hE j u hu => at0 W (hE17.trans hE) j u hu
    have ax : ∀ W, Ext w7 W → ∀ (j : Nat) (u : Value), [ig, kp, rv][j]? = some u → W.cell? ((⟨bx, 0, none⟩ : Addr).add j) = some u := fun W hE j u hu => hE.cell (hx7.cellsAdd j u hu)
    have hX : Tx w7 (txtV ig kp rv) li lk ts := by
      obtain ⟨zs, s1, s2, s3, s4⟩ := r7
      exact ⟨ig, kp, rv, zs, rfl, h1.ext hE07, h2.ext hE07, s1, s3, fun i hi => (s4 i hi).zero⟩
    have hXa : Tx w7 (txtV ig kp ru) li lk ts := hA.ext hE07
    have hw1 := Ext.refl w7
    refine WL.nil ?_
    refine QF.seqNext ?_
    refine WC.seq ?_
    refine WC.region ?_
    refine WL.v (RV.loadAgg (us := [ig, kp, rv]) (ax _ hw1) (Tryz.isAgg26 _) (Tryz.sizeOf26 _) rfl) rfl ?_
    refine WL.call Tryz.call11 rfl (tprint_ret li lk ts _ w7 hX hfa) rfl ?_
    rintro u w8 ⟨rfl, hE8⟩
    have hw1 := hE8
    refine WL.v (RV.assign rfl) rfl ?_
    refine WL.nil ?_
    refine QF.seqNext ?_
    refine WC.seq ?_
    refine WC.seq ?_
    refine WC.region ?_
    refine WL.v (RV.loadAgg (us := [ig, kp, ru]) (at' _ hw1) (Tryz.isAgg34 _) (Tryz.sizeOf34 _) rfl) rfl ?_
    refine WL.call Tryz.call12 rfl (ref6Right_ret li lk ts _ w8 (hXa.ext hE8) hfa) rfl ?_
    rintro u w9 ⟨rfl, hE9⟩
    have hE79 := hE8.trans hE9
    have hw1 := hE79
    refine WL.v (RV.not rfl) rfl ?_
    refine WL.nil ?_
    refine QF.seqNext ?_
    cases hrt : rightT li lk ts with
    | false =>
      have hp : printT li lk ts = [] := by unfold printT; rw [hrt]; rfl
      rw [hp]
      refine WC.condT rfl (rfl) ?_
      refine WC.seq ?_
      refine WC.region ?_
      refine WL.v (RV.loadAgg (us := [ig, kp, rv]) (ax _ hw1) (Tryz.isAgg26 _) (Tryz.sizeOf26 _) rfl) rfl ?_
      refine WL.call Tryz.call13 rfl (tright_ret li lk ts _ w9 (hX.ext hE79)) rfl ?_
      rintro u w10 ⟨rfl, hE10⟩
      rw [hrt]
      refine WL.v (RV.not rfl) rfl ?_
      refine WL.v (RV.move rfl) rfl ?_
      refine WL.know (d := 25) rfl (b' := true) (rfl) ?_
      refine WL.on rfl ?_
      refine WL.v (RV.move rfl) rfl ?_
      refine WL.on rfl ?_
      refine WL.v (RV.eqlS rfl rfl) rfl ?_
      refine WL.v (RV.pickT rfl rfl) rfl ?_
      refine WL.v (RV.assign rfl) rfl ?_
      refine WL.nil ?_
      refine QF.seqNext ?_
      refine WC.ret ?_
      refine QF.thenRet ?_
      refine QF.done1 rfl rfl (⟨rfl, (hE07.trans hE79).trans hE10⟩)
    | true =>
      have hpl := printT_len hrt hfa
      refine WC.condF rfl (rfl) ?_
      refine WC.skip ?_
      refine QF.seqNext ?_
      refine WC.seq ?_
      refine WC.seq ?_
      refine WC.draw (Ext w9) 16 rfl (by kernel_rfl) ?_
      have hXd : ∀ W, Ext w9 W → Tx W (txtV ig kp rv) li lk ts := fun W hE => hX.ext (hE79.trans hE)
      have hXad : ∀ W, Ext w9 W → Tx W (txtV ig kp ru) li lk ts := fun W hE => hXa.ext (hE79.trans hE)
      have ax' : ∀ W, Ext w9 W → ∀ (j : Nat) (u : Value), [ig, kp, rv][j]? = some u → W.cell? ((⟨bx, 0, none⟩ : Addr).add j) = some u := fun W hE => ax W (hE79.trans hE)
      have at1 : ∀ W, Ext w9 W → ∀ (j : Nat) (u : Value), [ig, kp, ru][j]? = some u → W.cell? ((⟨xb, 0, none⟩ : Addr).add j) = some u := fun W hE => at' W (hE79.trans hE)
      refine WH.take 0 rfl (by kernel_rfl) (by kernel_rfl) (by kernel_rfl) (Ext.refl w9).drew (fun w1 hw1 => RV.loadAgg (us := [ig, kp, rv]) (ax' _ hw1) (Tryz.isAgg26 _) (Tryz.sizeOf26 _) rfl) rfl ?_
      refine WH.one 1 (by kernel_rfl) rfl ?_
      refine WL.call Tryz.call13 rfl (tright_ret li lk ts _ _ (hXd _ (Ext.refl w9).drew)) rfl ?_
      rintro u w10 ⟨rfl, hE10⟩
      rw [hrt]
      have hE910 : Ext w9 w10 := (Ext.refl w9).drew.trans hE10
      refine WL.nil ?_
      refine QF.after (hE910) ?_
      refine WH.take 2 rfl (by kernel_rfl) (by kernel_rfl) (by kernel_rfl) (hE910) (fun w1 hw1 => RV.not rfl) rfl ?_
      refine WH.take 3 rfl (by kernel_rfl) (by kernel_rfl) (by kernel_rfl) (hE910) (fun w1 hw1 => RV.move rfl) rfl ?_
      refine WH.know (d := 32) rfl (b' := false) (rfl) ?_
      refine WH.takeOn 4 rfl rfl (by kernel_rfl) (by kernel_rfl) (by kernel_rfl) (hE910) (fun w1 hw1 => RV.move rfl) rfl ?_
      refine WH.takeOn 5 rfl rfl (by kernel_rfl) (by kernel_rfl) (by kernel_rfl) (hE910) (fun w1 hw1 => RV.loadAgg (us := [ig, kp, ru]) (at1 _ hw1) (Tryz.isAgg34 _) (Tryz.sizeOf34 _) rfl) rfl ?_
      refine WH.one 6 (by kernel_rfl) rfl ?_
      refine WL.on rfl ?_
      refine WL.call Tryz.call14 rfl (ref6Print_ret li lk ts _ w10 (hXad _ hE910) hfa hrt) rfl ?_
      rintro u w11 ⟨rfl, hE11⟩
      have hE911 := hE910.trans hE11
      refine WL.nil ?_
      refine QF.after (hE911) ?_
      refine WH.takeOn 7 rfl rfl (by kernel_rfl) (by kernel_rfl) (by kernel_rfl) (hE911) (fun w1 hw1 => RV.neqS rfl rfl) rfl ?_
      refine WH.take 8 rfl (by kernel_rfl) (by kernel_rfl) (by kernel_rfl) (hE911) (fun w1 hw1 => RV.pickF rfl rfl) rfl ?_
      refine WH.take 9 rfl (by kernel_rfl) (by kernel_rfl) (by kernel_rfl) (hE911) (fun w1 hw1 => RV.move rfl) rfl ?_
      refine WH.know (d := 38) rfl (b' := false) ((by simp)) ?_
      refine WH.takeOn 10 rfl rfl (by kernel_rfl) (by kernel_rfl) (by kernel_rfl) (hE911) (fun w1 hw1 => RV.loadAgg (us := [ig, kp, rv]) (ax' _ hw1) (Tryz.isAgg26 _) (Tryz.sizeOf26 _) rfl) rfl ?_
      refine WH.takeOn 11 rfl rfl (by kernel_rfl) (by kernel_rfl) (by kernel_rfl) (hE911) (fun w1 hw1 => RV.loadAgg (us := [ig, kp, ru]) (at1 _ hw1) (Tryz.isAgg34 _) (Tryz.sizeOf34 _) rfl) rfl ?_
      have hE011 := (hE07.trans hE79).trans hE911
      refine WH.one 12 (by kernel_rfl) rfl ?_
      refine WL.on rfl ?_
      refine WL.call Tryz.call10 rfl (to6_ret li lk ts xs ig kp ru _ (fun _ => 0) w11 (Rng.start w11) (h1.ext hE011) (h2.ext hE011) (h3.ext hE011) h4 (fun i hi => (h5 i hi).ext hE011) hfa) rfl ?_
      rintro u w12 ⟨rv2, rfl, r2, hE12⟩
      have hE912 := hE911.trans hE12
      have hE012 := hE011.trans hE12
      have hX2 : Tx w12 (txtV ig kp rv2) li lk ts := by
        obtain ⟨zs, s1, s2, s3, s4⟩ := r2
        exact ⟨ig, kp, rv2, zs, rfl, h1.ext hE012, h2.ext hE012, s1, s3, fun i hi => (s4 i hi).zero⟩
      refine WL.nil ?_
      refine QF.after (hE912) ?_
      refine WH.one 13 (by kernel_rfl) rfl ?_
      refine WL.on rfl ?_
      refine WL.call Tryz.call15 rfl (ruleSame_ret li lk li lk ts ts _ _ w12 (hXd _ hE912) hX2) rfl ?_
      rintro u w13 ⟨rfl, hE13⟩
      have hE913 := hE912.trans hE13
      refine WL.nil ?_
      refine QF.after (hE913) ?_
      rw [sameT_iff.2 ⟨⟨rfl, rfl⟩, rfl⟩]
      refine WH.takeOn 14 rfl rfl (by kernel_rfl) (by kernel_rfl) (by kernel_rfl) (hE913) (fun w1 hw1 => RV.not rfl) rfl ?_
      refine WH.take 15 rfl (by kernel_rfl) (by kernel_rfl) (by kernel_rfl) (hE913) (fun w1 hw1 => RV.pickF rfl rfl) rfl ?_
      refine WH.done (by kernel_rfl) ?_
      refine QF.seqNext ?_
      refine WC.condF rfl (rfl) ?_
      have hE013 := hE012.trans hE13
      refine WC.skip ?_
      refine QF.seqNext ?_
      refine WC.seq ?_
      refine WC.region ?_
      refine WL.v (RV.move rfl) rfl ?_
      refine WL.call Tryz.call8 rfl (rparse2_ret (printT li lk ts) w13.heap.size (fun _ => 0) w13 (Rng.start w13) (by omega) (printT_asc hrt) (parse_printed hrt)) rfl ?_
      rintro v w14 ⟨hE14', hP14⟩
      obtain ⟨ta, tb, tc, av, ev, rfl, oa, ob, oc, hbad, hgood⟩ := printed_shape hrt hP14
      refine WL.v (RV.move rfl) rfl ?_
      refine WL.v (RV.extract rfl rfl) rfl ?_
      refine WL.v (RV.extract rfl rfl) rfl ?_
      refine WL.v (RV.extract rfl rfl) rfl ?_
      refine WL.allocO (Rng.start w14) 1 (by omega) (Tryz.zeroValue26 _) rfl ?_
      intro by15 w15 O15 hx15 hU15 hR15 hE15
      refine WL.storeAgg (us := #[ta, tb, tc]) hx15 rfl (Tryz.sizeOf26 _) (txt_one oa ob oc) rfl rfl rfl ?_
      have hUy : Upd (fun k => k = 1) O15 w15 O15 (w15.setRow by15 #[ta, tb, tc]) := Upd.setRow (by decide) hx15.tag rfl
      have hx16 := hx15.setRow (us := #[ta, tb, tc])
      have hE1416 := (hU15.trans hUy).ext
      generalize w15.setRow by15 #[ta, tb, tc] = w16 at *
      have hE016 := (hE013.trans hE14').trans hE1416
      have hE916 := (hE913.trans hE14').trans hE1416
      refine WL.v (RV.assign rfl) rfl ?_
      refine WL.v (RV.assign rfl) rfl ?_
      refine WL.nil ?_
      refine QF.seqNext ?_
      refine WC.seq ?_
      refine WC.seq ?_
      refine WC.region ?_
      refine WL.v (RV.move rfl) rfl ?_
      refine WL.v (RV.lenS Tryz.underlying9 rfl) rfl ?_
      refine WL.v (RV.gtr rfl rfl) rfl ?_
      refine WL.v (RV.move rfl) rfl ?_
      by_cases hlong : 4096 < (printT li lk ts).length
      · obtain he := hbad (.inl hlong)
        refine WL.know (d := 54) rfl (b' := true) ((decide_eq_true (by omega))) ?_
        refine WL.off rfl rfl rfl ?_
        refine WL.off rfl rfl rfl ?_
        refine WL.off rfl rfl rfl ?_
        refine WL.v (RV.pickT rfl rfl) rfl ?_
        refine WL.nil ?_
        refine QF.seqNext ?_
        refine WC.condT rfl rfl ?_
        refine WC.seq ?_
        refine WC.region ?_
        refine WL.v (RV.move rfl) rfl ?_
        refine WL.v (RV.eql rfl rfl) rfl ?_
        refine WL.v (RV.move rfl) rfl ?_
        rcases he with rfl | rfl
        · skip
          refine WL.know (d := 61) rfl (b' := true) (rfl) ?_
          refine WL.off rfl rfl rfl ?_
          refine WL.off rfl rfl rfl ?_
          refine WL.v (RV.pickT rfl rfl) rfl ?_
          refine WL.v (RV.assign rfl) rfl ?_
          refine WL.nil ?_
          refine QF.seqNext ?_
          refine WC.ret ?_
          refine QF.thenRet ?_
          refine QF.done1 rfl rfl (⟨rfl, hE016⟩)
        · skip
          refine WL.know (d := 61) rfl (b' := false) (rfl) ?_
          refine WL.on rfl ?_
          refine WL.v (RV.move rfl) rfl ?_
          refine WL.on rfl ?_
          refine WL.v (RV.eql rfl rfl) rfl ?_
          refine WL.v (RV.pickF rfl rfl) rfl ?_
          refine WL.v (RV.assign rfl) rfl ?_
          refine WL.nil ?_
          refine QF.seqNext ?_
          refine WC.ret ?_
          refine QF.thenRet ?_
          refine QF.done1 rfl rfl (⟨rfl, hE016⟩)
      · skip
        refine WL.know (d := 54) rfl (b' := false) ((decide_eq_false (by omega))) ?_
        refine WL.on rfl ?_
        refine WL.v (RV.move rfl) rfl ?_
        refine WL.on rfl ?_
        refine WL.call Tryz.call16 rfl (lawBrackets_ret (printT li lk ts) w16 (by omega)) rfl ?_
        rintro v w17 ⟨rfl, hw17⟩
        rw [hw17]
        clear hw17 w17
        refine WL.on rfl ?_
        refine WL.v (RV.gtr rfl rfl) rfl ?_
        refine WL.v (RV.pickF rfl rfl) rfl ?_
        refine WL.nil ?_
        refine QF.seqNext ?_
        by_cases hbr : 20 < brM (printT li lk ts)
        · obtain he := hbad (.inr hbr)
          refine WC.condT rfl ((decide_eq_true hbr)) ?_
          refine WC.seq ?_
          refine WC.region ?_
          refine WL.v (RV.move rfl) rfl ?_
          refine WL.v (RV.eql rfl rfl) rfl ?_
          refine WL.v (RV.move rfl) rfl ?_
          rcases he with rfl | rfl
          · skip
            refine WL.know (d := 61) rfl (b' := true) (rfl) ?_
            refine WL.off rfl rfl rfl ?_
            refine WL.off rfl rfl rfl ?_
            refine WL.v (RV.pickT rfl rfl) rfl ?_
            refine WL.v (RV.assign rfl) rfl ?_
            refine WL.nil ?_
            refine QF.seqNext ?_
            refine WC.ret ?_
            refine QF.thenRet ?_
            refine QF.done1 rfl rfl (⟨rfl, hE016⟩)
          · skip
            refine WL.know (d := 61) rfl (b' := false) (rfl) ?_
            refine WL.on rfl ?_
            refine WL.v (RV.move rfl) rfl ?_
            refine WL.on rfl ?_
            refine WL.v (RV.eql rfl rfl) rfl ?_
            refine WL.v (RV.pickF rfl rfl) rfl ?_
            refine WL.v (RV.assign rfl) rfl ?_
            refine WL.nil ?_
            refine QF.seqNext ?_
            refine WC.ret ?_
            refine QF.thenRet ?_
            refine QF.done1 rfl rfl (⟨rfl, hE016⟩)
        · obtain ⟨rfl, rfl, hY⟩ := hgood hlong hbr
          refine WC.condF rfl ((decide_eq_false hbr)) ?_
          refine WC.skip ?_
          refine QF.seqNext ?_
          refine WC.seq ?_
          refine WC.region ?_
          refine WL.v (RV.move rfl) rfl ?_
          refine WL.v (RV.eql rfl rfl) rfl ?_
          refine WL.v (RV.move rfl) rfl ?_
          refine WL.know (d := 67) rfl (b' := true) (rfl) ?_
          refine WL.on rfl ?_
          refine WL.v (RV.move rfl) rfl ?_
          refine WL.on rfl ?_
          refine WL.v (RV.eql rfl rfl) rfl ?_
          refine WL.v (RV.pickT rfl rfl) rfl ?_
          refine WL.v (RV.move rfl) rfl ?_
          refine WL.know (d := 71) rfl (b' := true) (rfl) ?_
          have bY : ∀ (j : Nat) (u : Value), [ta, tb, tc][j]? = some u → w16.cell? ((⟨by15, 0, none⟩ : Addr).add j) = some u := hx16.cellsAdd
          refine WL.on rfl ?_
          refine WL.v (RV.loadAgg (us := [ig, kp, rv]) (ax' _ hE916) (Tryz.isAgg26 _) (Tryz.sizeOf26 _) rfl) rfl ?_
          refine WL.on rfl ?_
          refine WL.v (RV.loadAgg (us := [ta, tb, tc]) bY (Tryz.isAgg26 _) (Tryz.sizeOf26 _) rfl) rfl ?_
          refine WL.on rfl ?_
          refine WL.call Tryz.call15 rfl (ruleSame_ret li lk li lk ts ts _ _ w16 (hXd _ hE916) (hY.ext hE1416)) rfl ?_
          rintro u w18 ⟨rfl, hE18⟩
          rw [sameT_iff.2 ⟨⟨rfl, rfl⟩, rfl⟩]
          refine WL.v (RV.pickT rfl rfl) rfl ?_
          refine WL.v (RV.assign rfl) rfl ?_
          refine WL.nil ?_
          refine QF.seqNext ?_
          refine WC.ret ?_
          refine QF.done1 rfl rfl (⟨rfl, hE016.trans hE18⟩)
end Go.Proofs.YtmohcfjopaccdaaGreatDoor
end
