import Derived.Test.YtmohcfjopaccdaaGreatDoorRsR
import Derived.Shelf.Sort.Plain
import Derived.Shelf.Slices.In.SortNone
import Derived.Ground.Names2Prog
import Derived.Shelf.Slices.CompactI
import Derived.Test.YtmohcfjopaccdaaGreatDoorProg
import Derived.Sort.OwnSortedInts
section
/- Packages virguleref05 and virguleref06, walked: rises, Longest, Has, Right, Wrong. -/
namespace Go.Proofs.YtmohcfjopaccdaaGreatDoor
open Go.VL Go.Proofs
set_option maxRecDepth 10000

theorem refRises_ret (l : List Int) (sv : Value) (w : World) (h : Sl encI 1 w sv l) : Ret Tryz.prog 24 [sv] w fun v w' => v = .bool (risesM l) ∧ Ext w w' := by
  have hlen := h.len_le
  refine Ret.enter Tryz.func24 Tryz.ntmps24 rfl rfl ?_
  refine WC.seq ?_
  refine WC.region ?_
  refine WL.v (RV.assign rfl) rfl ?_
  refine WL.nil ?_
  refine QF.seqNext ?_
  refine WC.seq ?_
  refine WC.seq ?_
  refine WC.region ?_
  refine WL.v (RV.assign rfl) rfl ?_
  refine WL.nil ?_
  refine QF.seqNext ?_
  refine WC.block ?_
  refine WC.loop (fun y : Nat × World => [(0, sv), (3, .int .i64 y.1)]) (fun y : Nat × World => y.2) (fun y : Nat × World => y.1 ≤ l.length ∧ Ext w y.2 ∧ ∀ i, i < y.1 → badAt l i = false) (fun y : Nat × World => l.length - y.1) (0, w) (⟨Nat.zero_le _, Ext.refl _, fun i hi => absurd hi (Nat.not_lt_zero i)⟩) ⟨rfl, rfl, trivial⟩ rfl ?_
  rintro ⟨k, w1⟩ ⟨hk, hE, hno⟩
  dsimp only at hk hE hno ⊢
  have h1 := h.ext hE
  refine WC.seq ?_
  refine WC.seq ?_
  refine WC.region ?_
  refine WL.v (RV.move rfl) rfl ?_
  refine WL.v (RV.move rfl) rfl ?_
  refine WL.v (RV.len (by first | exact h1) Tryz.underlying23 rfl) rfl ?_
  refine WL.v (RV.lss rfl rfl) rfl ?_
  refine WL.nil ?_
  refine QF.seqNext ?_
  refine WC.cond rfl ?_ ?_
  · intro hlt
    replace hlt : k < l.length := by have := of_decide_eq_true hlt; omega
    have m1 := h1.ld hlt
    refine WC.skip ?_
    refine QF.seqNext ?_
    refine WC.seq ?_
    refine WC.block ?_
    refine WC.seq ?_
    refine WC.still (by kernel_rfl) (by kernel_rfl) ?_
    refine WS.v (RV.move rfl) rfl ?_
    refine WS.v (RV.move rfl) rfl ?_
    refine WS.v (RV.indexAddr (by first | exact (h1).drew) Tryz.underlying23 (Tryz.sizeOf3 _) rfl rfl _ rfl (by omega)) rfl ?_
    refine WS.v (RV.load (by first | exact m1) (Tryz.isAgg3 _) rfl) rfl ?_
    refine WS.v (RV.lss rfl rfl) rfl ?_
    refine WS.v (RV.move rfl) rfl ?_
    cases b1 : decide (nth l k < 0) with
    | true =>
      have hbad : badAt l k = true := by unfold badAt; rw [b1]; rfl
      refine WS.know (d := 15) rfl (b' := true) (rfl) ?_
      refine WS.off rfl rfl rfl ?_
      refine WS.off rfl rfl rfl ?_
      refine WS.off rfl rfl rfl ?_
      refine WS.off rfl rfl rfl ?_
      refine WS.off rfl rfl rfl ?_
      refine WS.v (RV.pickT rfl rfl) rfl ?_
      refine WS.v (RV.move rfl) rfl ?_
      refine WS.off rfl rfl rfl ?_
      refine WS.off rfl rfl rfl ?_
      refine WS.off rfl rfl rfl ?_
      refine WS.offU rfl rfl ?_
      refine WS.offU rfl rfl ?_
      refine WS.offU rfl rfl ?_
      refine WS.offU rfl rfl ?_
      refine WS.offU rfl rfl ?_
      refine WS.offU rfl rfl ?_
      refine WS.offU rfl rfl ?_
      refine WS.offU rfl rfl ?_
      refine WS.offU rfl rfl ?_
      refine WS.offU rfl rfl ?_
      refine WS.off rfl rfl rfl ?_
      refine WS.v (RV.pickT rfl rfl) rfl ?_
      refine WS.nil ?_
      refine QF.seqNext ?_
      refine WC.condT rfl rfl ?_
      refine WC.seq ?_
      refine WC.region ?_
      refine WL.v (RV.assign rfl) rfl ?_
      refine WL.nil ?_
      refine QF.seqNext ?_
      refine WC.ret ?_
      refine QF.blockRet ?_
      refine QF.thenRet ?_
      refine QF.thenRet ?_
      refine QF.blockRet ?_
      refine QF.thenRet ?_
      refine QF.done1 rfl rfl (⟨by unfold risesM; rw [anyN_true.2 ⟨k, hlt, hbad⟩]; rfl, hE.drew⟩)
    | false =>
      refine WS.know (d := 15) rfl (b' := false) (rfl) ?_
      refine WS.on rfl ?_
      refine WS.v (RV.move rfl) rfl ?_
      refine WS.on rfl ?_
      refine WS.v (RV.move rfl) rfl ?_
      refine WS.on rfl ?_
      refine WS.v (RV.indexAddr (by first | exact (h1).drew) Tryz.underlying23 (Tryz.sizeOf3 _) rfl rfl _ rfl (by omega)) rfl ?_
      refine WS.on rfl ?_
      refine WS.v (RV.load (by first | exact m1) (Tryz.isAgg3 _) rfl) rfl ?_
      refine WS.on rfl ?_
      refine WS.v (RV.gtr rfl rfl) rfl ?_
      refine WS.v (RV.pickF rfl rfl) rfl ?_
      refine WS.v (RV.move rfl) rfl ?_
      cases b2 : decide ((35 : Int) < nth l k) with
      | true =>
        have hbad : badAt l k = true := by unfold badAt; rw [decide_eq_true (show (36 : Int) ≤ nth l k by have := of_decide_eq_true b2; omega)]; simp
        refine WS.know (d := 22) rfl (b' := true) (rfl) ?_
        refine WS.off rfl rfl rfl ?_
        refine WS.off rfl rfl rfl ?_
        refine WS.off rfl rfl rfl ?_
        refine WS.offU rfl rfl ?_
        refine WS.offU rfl rfl ?_
        refine WS.offU rfl rfl ?_
        refine WS.offU rfl rfl ?_
        refine WS.offU rfl rfl ?_
        refine WS.offU rfl rfl ?_
        refine WS.offU rfl rfl ?_
        refine WS.offU rfl rfl ?_
        refine WS.offU rfl rfl ?_
        refine WS.offU rfl rfl ?_
        refine WS.off rfl rfl rfl ?_
        refine WS.v (RV.pickT rfl rfl) rfl ?_
        refine WS.nil ?_
        refine QF.seqNext ?_
        refine WC.condT rfl rfl ?_
        refine WC.seq ?_
        refine WC.region ?_
        refine WL.v (RV.assign rfl) rfl ?_
        refine WL.nil ?_
        refine QF.seqNext ?_
        refine WC.ret ?_
        refine QF.blockRet ?_
        refine QF.thenRet ?_
        refine QF.thenRet ?_
        refine QF.blockRet ?_
        refine QF.thenRet ?_
        refine QF.done1 rfl rfl (⟨by unfold risesM; rw [anyN_true.2 ⟨k, hlt, hbad⟩]; rfl, hE.drew⟩)
      | false =>
        have b36 : decide ((36 : Int) ≤ nth l k) = false := decide_eq_false (by have := of_decide_eq_false b2; omega)
        refine WS.know (d := 22) rfl (b' := false) (rfl) ?_
        refine WS.on rfl ?_
        refine WS.v (RV.move rfl) rfl ?_
        refine WS.on rfl ?_
        refine WS.v (RV.gtr rfl rfl) rfl ?_
        refine WS.on rfl ?_
        refine WS.v (RV.move rfl) rfl ?_
        cases b3 : decide ((0 : Int) < (k : Int)) with
        | false =>
          have hgood : badAt l k = false := by unfold badAt; rw [b1, b36, b3]; rfl
          refine WS.know (d := 25) rfl (b' := false) (rfl) ?_
          refine WS.off rfl rfl rfl ?_
          refine WS.off rfl rfl rfl ?_
          refine WS.off rfl rfl rfl ?_
          refine WS.off rfl rfl rfl ?_
          refine WS.off rfl rfl rfl ?_
          refine WS.off rfl rfl rfl ?_
          refine WS.off rfl rfl rfl ?_
          refine WS.off rfl rfl rfl ?_
          refine WS.off rfl rfl rfl ?_
          refine WS.off rfl rfl rfl ?_
          refine WS.on rfl ?_
          refine WS.v (RV.pickF rfl rfl) rfl ?_
          refine WS.v (RV.pickF rfl rfl) rfl ?_
          refine WS.nil ?_
          refine QF.seqNext ?_
          refine WC.condF rfl rfl ?_
          refine WC.skip ?_
          refine QF.blockNormal ?_
          refine QF.seqNext ?_
          refine WC.region ?_
          refine WL.v (RV.move rfl) rfl ?_
          refine WL.v (RV.add rfl rfl (Fit.i64 (by omega))) rfl ?_
          refine WL.v (RV.assign rfl) rfl ?_
          refine WL.nil ?_
          refine QF.next ((k + 1, w1.drew)) (⟨hlt, hE.drew, fun i hi => (Nat.lt_succ_iff_lt_or_eq.1 hi).elim (hno i) (fun e => by rw [e]; exact hgood)⟩) (by dsimp only; omega) ⟨rfl, rfl, trivial⟩ rfl
        | true =>
          have hkp := of_decide_eq_true b3
          have m2 := h1.ld (i := k - 1) (by omega)
          refine WS.know (d := 25) rfl (b' := true) (rfl) ?_
          refine WS.on rfl ?_
          refine WS.v (RV.move rfl) rfl ?_
          refine WS.on rfl ?_
          refine WS.v (RV.move rfl) rfl ?_
          refine WS.on rfl ?_
          refine WS.v (RV.indexAddr (by first | exact (h1).drew) Tryz.underlying23 (Tryz.sizeOf3 _) rfl rfl _ rfl (by omega)) rfl ?_
          refine WS.on rfl ?_
          refine WS.v (RV.load (by first | exact m1 | exact m2) (Tryz.isAgg3 _) rfl) rfl ?_
          refine WS.on rfl ?_
          refine WS.v (RV.move rfl) rfl ?_
          refine WS.on rfl ?_
          refine WS.v (RV.move rfl) rfl ?_
          refine WS.on rfl ?_
          refine WS.v (RV.sub rfl rfl (Fit.i64 (by omega))) rfl ?_
          rw [show (k : Int) - 1 = ((k - 1 : Nat) : Int) from by omega]
          refine WS.on rfl ?_
          refine WS.v (RV.indexAddr (by first | exact (h1).drew) Tryz.underlying23 (Tryz.sizeOf3 _) rfl rfl _ rfl (by omega)) rfl ?_
          refine WS.on rfl ?_
          refine WS.v (RV.load (by first | exact m1 | exact m2) (Tryz.isAgg3 _) rfl) rfl ?_
          refine WS.on rfl ?_
          refine WS.v (RV.leq rfl rfl) rfl ?_
          refine WS.on rfl ?_
          refine WS.v (RV.pickT rfl rfl) rfl ?_
          refine WS.v (RV.pickF rfl rfl) rfl ?_
          refine WS.nil ?_
          refine QF.seqNext ?_
          refine WC.cond rfl ?_ ?_
          · intro hy
            have hbad : badAt l k = true := by unfold badAt; rw [b1, b36, b3]; exact hy
            refine WC.seq ?_
            refine WC.region ?_
            refine WL.v (RV.assign rfl) rfl ?_
            refine WL.nil ?_
            refine QF.seqNext ?_
            refine WC.ret ?_
            refine QF.blockRet ?_
            refine QF.thenRet ?_
            refine QF.thenRet ?_
            refine QF.blockRet ?_
            refine QF.thenRet ?_
            refine QF.done1 rfl rfl (⟨by unfold risesM; rw [anyN_true.2 ⟨k, hlt, hbad⟩]; rfl, hE.drew⟩)
          · intro hy
            have hgood : badAt l k = false := by unfold badAt; rw [b1, b36, b3]; exact hy
            refine WC.skip ?_
            refine QF.blockNormal ?_
            refine QF.seqNext ?_
            refine WC.region ?_
            refine WL.v (RV.move rfl) rfl ?_
            refine WL.v (RV.add rfl rfl (Fit.i64 (by omega))) rfl ?_
            refine WL.v (RV.assign rfl) rfl ?_
            refine WL.nil ?_
            refine QF.next ((k + 1, w1.drew)) (⟨hlt, hE.drew, fun i hi => (Nat.lt_succ_iff_lt_or_eq.1 hi).elim (hno i) (fun e => by rw [e]; exact hgood)⟩) (by dsimp only; omega) ⟨rfl, rfl, trivial⟩ rfl
  · intro hge
    replace hge : l.length ≤ k := by have := of_decide_eq_false hge; omega
    refine WC.exit ?_
    refine QF.thenExit ?_
    refine QF.thenExit ?_
    refine QF.blockHit ?_
    refine QF.seqNext ?_
    refine WC.seq ?_
    refine WC.region ?_
    refine WL.v (RV.assign rfl) rfl ?_
    refine WL.nil ?_
    refine QF.seqNext ?_
    refine WC.ret ?_
    refine QF.done1 rfl rfl (⟨by unfold risesM; rw [anyN_false.2 fun i hi => hno i (by omega)]; rfl, hE⟩)
theorem refHas_ret (q : Int) : ∀ (n : Nat) (t : Nd), nsz t ≤ n → ∀ (x : N3) (w : World), Nt (fun _ => 0) w t x → Ret Tryz.prog 47 [nv x, .int .i64 q] w fun v w' => v = .bool (hasM q t) ∧ Ext w w'
  | 0, t, hn => by have := nsz_pos t; omega
  | n + 1, .mk k c kids, hn => by
    intro x w h
    have hx0 := h.ones
    obtain ⟨xs, hs, hf, hl, hk⟩ := h.kids
    simp only [Nd.kids] at hl hk
    simp only [nsz] at hn
    have hM : hasM q (.mk k c kids) = ((k == q) || hasL q kids) := rfl
    rw [hM]
    generalize x.2.2 = sv at *
    subst hx0
    simp only [Nd.kind, Nd.cls]
    have hlen := hs.len_le
    refine Ret.enter Tryz.func47 Tryz.ntmps47 rfl rfl ?_
    refine WC.seq ?_
    refine WC.region ?_
    refine WL.boxO (Rng.start w) 1 (by omega) rfl rfl ?_
    intro xb w1 O1 hx1 hU1 hR1 hE1
    have c0 : w1.cell? ((⟨xb, 0, none⟩ : Addr).add 0) = some (.int .i64 k) := hx1.cell 0 rfl
    have c2 : w1.cell? ((⟨xb, 0, none⟩ : Addr).add 2) = some sv := hx1.cell 2 rfl
    have hs1 := hs.ext hE1
    refine WL.v (RV.assign rfl) rfl ?_
    refine WL.nil ?_
    refine QF.seqNext ?_
    refine WC.seq ?_
    refine WC.seq ?_
    refine WC.region ?_
    refine WL.v (RV.assign rfl) rfl ?_
    refine WL.nil ?_
    refine QF.seqNext ?_
    refine WC.block ?_
    refine WC.loop (fun y : Nat × World => [(1, .int .i64 q), (2, .pointer (some ⟨xb, 0, none⟩)), (5, .int .i64 y.1)]) (fun y : Nat × World => y.2) (fun y : Nat × World => y.1 ≤ xs.length ∧ Ext w1 y.2 ∧ ∀ i, i < y.1 → hasM q (nth kids i) = false) (fun y : Nat × World => xs.length - y.1) (0, w1) (⟨Nat.zero_le _, Ext.refl _, fun i hi => absurd hi (Nat.not_lt_zero i)⟩) ⟨rfl, rfl, rfl, trivial⟩ rfl ?_
    rintro ⟨i, w2⟩ ⟨hi, hE2, hno⟩
    dsimp only at hi hE2 hno ⊢
    have hs2 := hs1.ext hE2
    have d0 := hE2.cell c0
    have d2 := hE2.cell c2
    refine WC.seq ?_
    refine WC.seq ?_
    refine WC.region ?_
    refine WL.v (RV.move rfl) rfl ?_
    refine WL.v (RV.fieldAddr 2 Tryz.underlying62 rfl rfl (Tryz.sizeOf60 _) (by decide) rfl) rfl ?_
    refine WL.v (RV.load (by first | exact d2) (Tryz.isAgg60 _) rfl) rfl ?_
    refine WL.v (RV.len (by first | exact hs2) Tryz.underlying60 rfl) rfl ?_
    refine WL.v (RV.lss rfl rfl) rfl ?_
    refine WL.nil ?_
    refine QF.seqNext ?_
    refine WC.cond rfl ?_ ?_
    · intro hlt
      replace hlt : i < xs.length := by have := of_decide_eq_true hlt; omega
      have hkz := nszL_nth kids i (by omega)
      refine WC.skip ?_
      refine QF.seqNext ?_
      refine WC.seq ?_
      refine WC.block ?_
      refine WC.seq ?_
      refine WC.region ?_
      refine WL.v (RV.fieldAddr 2 Tryz.underlying62 rfl rfl (Tryz.sizeOf60 _) (by decide) rfl) rfl ?_
      refine WL.v (RV.load (by first | exact d2) (Tryz.isAgg60 _) rfl) rfl ?_
      refine WL.v (RV.move rfl) rfl ?_
      refine WL.v (RV.indexAddr (by first | exact hs2) Tryz.underlying60 (Tryz.sizeOf62 _) rfl rfl _ rfl (by omega)) rfl ?_
      refine WL.v (RV.loadAgg (us := encN (nth xs i)) (fun j u hu => hs2.cell hlt hu) (Tryz.isAgg62 _) (Tryz.sizeOf62 _) rfl) rfl ?_
      refine WL.v (RV.move rfl) rfl ?_
      refine WL.call Tryz.call47 rfl (refHas_ret q n (nth kids i) (by omega) (nth xs i) w2 ((hk i hlt).ext (hE1.trans hE2))) rfl ?_
      rintro v w3 ⟨rfl, hE3⟩
      refine WL.nil ?_
      refine QF.seqNext ?_
      refine WC.cond rfl ?_ ?_
      · intro hy
        have hL : hasL q kids = true := by rw [← hasL_any]; exact anyN_true.2 ⟨i, by omega, hy⟩
        refine WC.seq ?_
        refine WC.region ?_
        refine WL.v (RV.assign rfl) rfl ?_
        refine WL.nil ?_
        refine QF.seqNext ?_
        refine WC.ret ?_
        refine QF.blockRet ?_
        refine QF.thenRet ?_
        refine QF.thenRet ?_
        refine QF.blockRet ?_
        refine QF.thenRet ?_
        refine QF.done1 rfl rfl (⟨by rw [hL, Bool.or_true], (hE1.trans hE2).trans hE3⟩)
      · intro hy
        refine WC.skip ?_
        refine QF.blockNormal ?_
        refine QF.seqNext ?_
        refine WC.region ?_
        refine WL.v (RV.move rfl) rfl ?_
        refine WL.v (RV.add rfl rfl (Fit.i64 (by omega))) rfl ?_
        refine WL.v (RV.assign rfl) rfl ?_
        refine WL.nil ?_
        refine QF.next ((i + 1, w3)) (⟨hlt, hE2.trans hE3, fun j hj => (Nat.lt_succ_iff_lt_or_eq.1 hj).elim (hno j) (fun e => by rw [e]; exact hy)⟩) (by dsimp only; omega) ⟨rfl, rfl, rfl, trivial⟩ rfl
    · intro hge
      replace hge : xs.length ≤ i := by have := of_decide_eq_false hge; omega
      have hL : hasL q kids = false := by rw [← hasL_any]; exact anyN_false.2 fun j hj => hno j (by omega)
      refine WC.exit ?_
      refine QF.thenExit ?_
      refine QF.thenExit ?_
      refine QF.blockHit ?_
      refine QF.seqNext ?_
      refine WC.seq ?_
      refine WC.region ?_
      refine WL.v (RV.fieldAddr 0 Tryz.underlying62 rfl rfl (Tryz.sizeOf3 _) (by decide) rfl) rfl ?_
      refine WL.v (RV.load (by first | exact d0) (Tryz.isAgg3 _) rfl) rfl ?_
      refine WL.v (RV.move rfl) rfl ?_
      refine WL.v (RV.eql rfl rfl) rfl ?_
      refine WL.v (RV.assign rfl) rfl ?_
      refine WL.nil ?_
      refine QF.seqNext ?_
      refine WC.ret ?_
      refine QF.done1 rfl rfl (⟨by rw [hL, Bool.or_false], hE1.trans hE2⟩)
theorem refLongest_ret : ∀ (n : Nat), n ≤ 1000000 → ∀ (t : Nd), nsz t ≤ n → (∃ wi, fitsM t wi = true) → ∀ (x : N3) (w : World), Nt (fun _ => 0) w t x → Ret Tryz.prog 46 [nv x] w fun v w' => v = .int .i64 (longM t) ∧ Ext w w'
  | 0, _, t, hn, _ => by have := nsz_pos t; omega
  | n + 1, hn6, .mk k c kids, hn, ⟨wi, hfit⟩ => by
    intro x w h
    have hx0 := h.ones
    obtain ⟨xs, hs, hf, hl, hk⟩ := h.kids
    simp only [Nd.kids] at hl hk
    simp only [nsz] at hn
    simp only [fitsM, Bool.and_eq_true] at hfit
    obtain ⟨hhead, hkids⟩ := hfit
    have hcs := head_cases hhead
    have hM : longM (.mk k c kids) = if k = 6 ∨ k = 7 then -1 else if k = 9 then 0 else if k = 4 ∨ k = 5 ∨ k = 8 then longL (k == 4) 0 kids else 1 := rfl
    generalize x.2.2 = sv at *
    subst hx0
    simp only [Nd.kind, Nd.cls]
    have hlen := hs.len_le
    have hkl := nszL_len kids
    refine Ret.enter Tryz.func46 Tryz.ntmps46 rfl rfl ?_
    refine WC.seq ?_
    refine WC.region ?_
    refine WL.boxO (Rng.start w) 1 (by omega) rfl rfl ?_
    intro xb w1 O1 hx1 hU1 hR1 hE1
    have c0 : w1.cell? ((⟨xb, 0, none⟩ : Addr).add 0) = some (.int .i64 k) := hx1.cell 0 rfl
    have c2 : w1.cell? ((⟨xb, 0, none⟩ : Addr).add 2) = some sv := hx1.cell 2 rfl
    have hs1 := hs.ext hE1
    refine WL.v (RV.assign rfl) rfl ?_
    refine WL.nil ?_
    refine QF.seqNext ?_
    refine WC.seq ?_
    refine WC.seq ?_
    refine WC.region ?_
    refine WL.v (RV.fieldAddr 0 Tryz.underlying62 rfl rfl (Tryz.sizeOf3 _) (by decide) rfl) rfl ?_
    refine WL.v (RV.load (by first | exact c0) (Tryz.isAgg3 _) rfl) rfl ?_
    refine WL.v (RV.eql rfl rfl) rfl ?_
    refine WL.v (RV.move rfl) rfl ?_
    refine WL.orBS (fun w1 => _ = w1) ((k == 7)) 3 (rfl) rfl rfl rfl rfl rfl ?_ ?_
    · skip
      intro a1
      refine WL.on rfl ?_
      refine WL.v (RV.fieldAddr 0 Tryz.underlying62 rfl rfl (Tryz.sizeOf3 _) (by decide) rfl) rfl ?_
      refine WL.on rfl ?_
      refine WL.v (RV.load (by first | exact c0) (Tryz.isAgg3 _) rfl) rfl ?_
      refine WL.on rfl ?_
      refine WL.v (RV.eql rfl rfl) rfl ?_
      refine WL.nil ?_
      refine QF.andEnd (tA := 10) 4 (rfl) rfl rfl rfl (fun v hv => (Option.some.inj hv).symm.trans (congrArg Value.bool a1)) rfl
    rintro _ rfl
    refine WL.nil ?_
    refine QF.seqNext ?_
    refine WC.cond rfl ?_ ?_
    · intro hc
      simp only [Bool.or_eq_true, beq_iff_eq] at hc
      refine WC.seq ?_
      refine WC.region ?_
      refine WL.v (RV.assign rfl) rfl ?_
      refine WL.nil ?_
      refine QF.seqNext ?_
      refine WC.ret ?_
      refine QF.thenRet ?_
      refine QF.done1 rfl rfl (⟨by rw [hM, if_pos hc], hE1⟩)
    · intro hc
      simp only [Bool.or_eq_false_iff, beq_eq_false_iff_ne] at hc
      refine WC.skip ?_
      refine QF.seqNext ?_
      refine WC.seq ?_
      refine WC.seq ?_
      refine WC.region ?_
      refine WL.v (RV.fieldAddr 0 Tryz.underlying62 rfl rfl (Tryz.sizeOf3 _) (by decide) rfl) rfl ?_
      refine WL.v (RV.load (by first | exact c0) (Tryz.isAgg3 _) rfl) rfl ?_
      refine WL.v (RV.lss rfl rfl) rfl ?_
      refine WL.nil ?_
      refine QF.seqNext ?_
      refine WC.cond rfl ?_ ?_
      · intro hc4
        replace hc4 := of_decide_eq_true hc4
        refine WC.seq ?_
        refine WC.region ?_
        refine WL.v (RV.assign rfl) rfl ?_
        refine WL.nil ?_
        refine QF.seqNext ?_
        refine WC.ret ?_
        refine QF.thenRet ?_
        refine QF.done1 rfl rfl (⟨by rw [hM, if_neg (by omega), if_neg (by omega), if_neg (by omega)], hE1⟩)
      · intro hc4
        replace hc4 := of_decide_eq_false hc4
        have hM2 : longM (.mk k c kids) = longL (k == 4) 0 kids := by
          rw [hM, if_neg (by omega)]
          by_cases h9 : k = 9
          · obtain rfl : kids = [] := List.eq_nil_of_length_eq_zero (by omega)
            rw [if_pos h9]; rfl
          · rw [if_neg h9, if_pos (by omega)]
        rw [hM2]
        refine WC.skip ?_
        refine QF.seqNext ?_
        refine WC.seq ?_
        refine WC.region ?_
        refine WL.v (RV.assign rfl) rfl ?_
        refine WL.v (RV.assign rfl) rfl ?_
        refine WL.nil ?_
        refine QF.seqNext ?_
        refine WC.seq ?_
        refine WC.seq ?_
        refine WC.region ?_
        refine WL.v (RV.assign rfl) rfl ?_
        refine WL.nil ?_
        refine QF.seqNext ?_
        refine WC.block ?_
        refine WC.loop (fun y : Nat × Int × Int × World => [(1, .pointer (some ⟨xb, 0, none⟩)), (3, .int .i64 y.2.1), (4, .int .i64 y.2.2.1), (5, .int .i64 y.1)]) (fun y : Nat × Int × Int × World => y.2.2.2) (fun y : Nat × Int × Int × World => y.1 ≤ xs.length ∧ 0 ≤ y.2.1 ∧ y.2.1 ≤ nszL (kids.take y.1) ∧ 0 ≤ y.2.2.1 ∧ y.2.2.1 ≤ nszL (kids.take y.1) ∧ longL true y.2.1 (kids.drop y.1) = longL true 0 kids ∧ longL false y.2.2.1 (kids.drop y.1) = longL false 0 kids ∧ Ext w1 y.2.2.2) (fun y : Nat × Int × Int × World => xs.length - y.1) (0, 0, 0, w1) (⟨Nat.zero_le _, Int.le_refl _, by simp [nszL], Int.le_refl _, by simp [nszL], rfl, rfl, Ext.refl _⟩) ⟨rfl, rfl, rfl, rfl, trivial⟩ rfl ?_
        rintro ⟨i, su, mo, w2⟩ ⟨hi, hs0, hsn, hm0, hmn, hLs, hLm, hE2⟩
        dsimp only at hi hs0 hsn hm0 hmn hLs hLm hE2 ⊢
        have hs2 := hs1.ext hE2
        have d0 := hE2.cell c0
        have d2 := hE2.cell c2
        refine WC.seq ?_
        refine WC.seq ?_
        refine WC.region ?_
        refine WL.v (RV.move rfl) rfl ?_
        refine WL.v (RV.fieldAddr 2 Tryz.underlying62 rfl rfl (Tryz.sizeOf60 _) (by decide) rfl) rfl ?_
        refine WL.v (RV.load (by first | exact d2) (Tryz.isAgg60 _) rfl) rfl ?_
        refine WL.v (RV.len (by first | exact hs2) Tryz.underlying60 rfl) rfl ?_
        refine WL.v (RV.lss rfl rfl) rfl ?_
        refine WL.nil ?_
        refine QF.seqNext ?_
        refine WC.cond rfl ?_ ?_
        · intro hlt
          replace hlt : i < xs.length := by have := of_decide_eq_true hlt; omega
          have hkz := nszL_nth kids i (by omega)
          have hsu := nszL_succ kids i (by omega)
          have htk := nszL_take kids (i + 1)
          have hml := longM_le (nth kids i)
          have hkf : fitsM (nth kids i) true = true := fitsL_mem kids hkids _ (by rw [nth_eq (by omega)]; exact List.getElem_mem _)
          rw [drop_nd (by omega)] at hLs hLm
          have hu : ∀ s acc, longL s acc (nth kids i :: kids.drop (i + 1)) = if longM (nth kids i) < 0 then -1 else longL s (if s = true then acc + longM (nth kids i) else max acc (longM (nth kids i))) (kids.drop (i + 1)) := fun s acc => rfl
          rw [hu] at hLs hLm
          refine WC.skip ?_
          refine QF.seqNext ?_
          refine WC.seq ?_
          refine WC.block ?_
          refine WC.seq ?_
          refine WC.region ?_
          refine WL.v (RV.fieldAddr 2 Tryz.underlying62 rfl rfl (Tryz.sizeOf60 _) (by decide) rfl) rfl ?_
          refine WL.v (RV.load (by first | exact d2) (Tryz.isAgg60 _) rfl) rfl ?_
          refine WL.v (RV.move rfl) rfl ?_
          refine WL.v (RV.indexAddr (by first | exact hs2) Tryz.underlying60 (Tryz.sizeOf62 _) rfl rfl _ rfl (by omega)) rfl ?_
          refine WL.v (RV.loadAgg (us := encN (nth xs i)) (fun j u hu => hs2.cell hlt hu) (Tryz.isAgg62 _) (Tryz.sizeOf62 _) rfl) rfl ?_
          refine WL.call Tryz.call46 rfl (refLongest_ret n (by omega) (nth kids i) (by omega) ⟨true, hkf⟩ (nth xs i) w2 ((hk i hlt).ext (hE1.trans hE2))) rfl ?_
          rintro v w3 ⟨rfl, hE3⟩
          refine WL.v (RV.assign rfl) rfl ?_
          refine WL.nil ?_
          refine QF.seqNext ?_
          refine WC.seq ?_
          refine WC.seq ?_
          refine WC.region ?_
          refine WL.v (RV.move rfl) rfl ?_
          refine WL.v (RV.lss rfl rfl) rfl ?_
          refine WL.nil ?_
          refine QF.seqNext ?_
          refine WC.cond rfl ?_ ?_
          · intro hy
            replace hy := of_decide_eq_true hy
            rw [if_pos hy] at hLs hLm
            have hres : longL (k == 4) 0 kids = -1 := by
              cases hk4 : (k == 4) with
              | false => exact hLm.symm
              | true => exact hLs.symm
            refine WC.seq ?_
            refine WC.region ?_
            refine WL.v (RV.assign rfl) rfl ?_
            refine WL.nil ?_
            refine QF.seqNext ?_
            refine WC.ret ?_
            refine QF.thenRet ?_
            refine QF.blockRet ?_
            refine QF.thenRet ?_
            refine QF.thenRet ?_
            refine QF.blockRet ?_
            refine QF.thenRet ?_
            refine QF.done1 rfl rfl (⟨by rw [hres], (hE1.trans hE2).trans hE3⟩)
          · intro hy
            replace hy := of_decide_eq_false hy
            rw [if_neg hy] at hLs hLm
            refine WC.skip ?_
            refine QF.seqNext ?_
            refine WC.seq ?_
            refine WC.region ?_
            refine WL.v (RV.move rfl) rfl ?_
            refine WL.v (RV.move rfl) rfl ?_
            refine WL.v (RV.add rfl rfl (Fit.i64 (by omega))) rfl ?_
            refine WL.v (RV.assign rfl) rfl ?_
            refine WL.nil ?_
            refine QF.seqNext ?_
            refine WC.region ?_
            refine WL.v (RV.move rfl) rfl ?_
            refine WL.v (RV.move rfl) rfl ?_
            refine WL.v (RV.max2 rfl rfl) rfl ?_
            refine WL.v (RV.assign rfl) rfl ?_
            refine WL.nil ?_
            refine QF.blockNormal ?_
            refine QF.seqNext ?_
            refine WC.region ?_
            refine WL.v (RV.move rfl) rfl ?_
            refine WL.v (RV.add rfl rfl (Fit.i64 (by omega))) rfl ?_
            refine WL.v (RV.assign rfl) rfl ?_
            refine WL.nil ?_
            refine QF.next ((i + 1, su + longM (nth kids i), max mo (longM (nth kids i)), w3)) (⟨hlt, by dsimp only; omega, by dsimp only; omega, by dsimp only; omega, by dsimp only; omega, hLs, hLm, hE2.trans hE3⟩) (by dsimp only; omega) ⟨rfl, rfl, rfl, rfl, trivial⟩ rfl
        · intro hge
          obtain rfl : i = xs.length := by have := of_decide_eq_false hge; omega
          rw [List.drop_of_length_le (by omega)] at hLs hLm
          refine WC.exit ?_
          refine QF.thenExit ?_
          refine QF.thenExit ?_
          refine QF.blockHit ?_
          refine QF.seqNext ?_
          refine WC.seq ?_
          refine WC.seq ?_
          refine WC.region ?_
          refine WL.v (RV.fieldAddr 0 Tryz.underlying62 rfl rfl (Tryz.sizeOf3 _) (by decide) rfl) rfl ?_
          refine WL.v (RV.load (by first | exact d0) (Tryz.isAgg3 _) rfl) rfl ?_
          refine WL.v (RV.eql rfl rfl) rfl ?_
          refine WL.nil ?_
          refine QF.seqNext ?_
          refine WC.cond rfl ?_ ?_
          · intro h4
            refine WC.seq ?_
            refine WC.region ?_
            refine WL.v (RV.move rfl) rfl ?_
            refine WL.v (RV.assign rfl) rfl ?_
            refine WL.nil ?_
            refine QF.seqNext ?_
            refine WC.ret ?_
            refine QF.thenRet ?_
            refine QF.done1 rfl rfl (⟨by rw [h4, ← hLs]; rfl, hE1.trans hE2⟩)
          · intro h4
            refine WC.skip ?_
            refine QF.seqNext ?_
            refine WC.seq ?_
            refine WC.region ?_
            refine WL.v (RV.move rfl) rfl ?_
            refine WL.v (RV.assign rfl) rfl ?_
            refine WL.nil ?_
            refine QF.seqNext ?_
            refine WC.ret ?_
            refine QF.done1 rfl rfl (⟨by rw [h4, ← hLm]; rfl, hE1.trans hE2⟩)
theorem refWrong_ret (t : Nd) (x : N3) (w : World) (h : Nt (fun _ => 0) w t x) (hr : rightM t = true) : Ret Tryz.prog 26 [nv x] w fun v w' => v = .int .i64 (looksM t) ∧ Ext w w' := by
  have hx := h.ones
  have hr0 := hr
  simp only [rightM, Bool.and_eq_true, decide_eq_true_eq] at hr
  refine Ret.enter Tryz.func26 Tryz.ntmps26 rfl rfl ?_
  refine WC.seq ?_
  refine WC.region ?_
  refine WL.boxO (Rng.start w) 1 (by omega) rfl rfl ?_
  intro xb w1 O1 hx1 hU1 hR1 hE1
  have hc1 : ∀ W, Ext w1 W → ∀ (j : Nat) (u : Value), (encN x)[j]? = some u → W.cell? ((⟨xb, 0, none⟩ : Addr).add j) = some u := fun W hE j u hu => hE.cell (hx1.cellsAdd j u hu)
  refine WL.v (RV.assign rfl) rfl ?_
  refine WL.nil ?_
  refine QF.seqNext ?_
  refine WC.seq ?_
  refine WC.region ?_
  refine WL.v (RV.loadAgg (us := encN x) (hc1 w1 (Ext.refl _)) (Tryz.isAgg62 _) (Tryz.sizeOf62 _) rfl) rfl ?_
  refine WL.call Tryz.call46 rfl (refLongest_ret 2000 (by decide) t hr.1 ⟨false, hr.2⟩ x w1 (h.ext hE1)) rfl ?_
  rintro v w2 ⟨rfl, hE2⟩
  refine WL.v (RV.assign rfl) rfl ?_
  refine WL.nil ?_
  refine QF.seqNext ?_
  refine WC.seq ?_
  refine WC.block ?_
  refine WC.seq ?_
  refine WC.region ?_
  refine WL.v (RV.loadAgg (us := encN x) (hc1 w2 hE2) (Tryz.isAgg62 _) (Tryz.sizeOf62 _) rfl) rfl ?_
  refine WL.call Tryz.call47 rfl (refHas_ret 3 (nsz t) t (Nat.le_refl _) x w2 (h.ext (hE1.trans hE2))) rfl ?_
  rintro v w3 ⟨rfl, hE3⟩
  have hE13 := (hE1.trans hE2).trans hE3
  refine WL.v (RV.assign rfl) rfl ?_
  refine WL.nil ?_
  refine QF.seqNext ?_
  refine WC.cond rfl ?_ ?_
  · intro h1
    refine WC.seq ?_
    refine WC.region ?_
    refine WL.v (RV.assign rfl) rfl ?_
    refine WL.nil ?_
    refine QF.seqNext ?_
    refine WC.ret ?_
    refine QF.blockRet ?_
    refine QF.thenRet ?_
    refine QF.done1 rfl rfl (⟨by unfold looksM; rw [hr0, h1]; rfl, hE13⟩)
  · intro h1
    have hlk : looksM t = if (decide (longM t < 0) || decide (4 < longM t)) = true then 8 else 0 := by
      unfold looksM longB longV
      rw [hr0, h1, if_neg (by decide), if_pos rfl]
      by_cases h0 : longM t < 0
      · rw [decide_eq_true h0, decide_eq_false (show ¬ (0 : Int) ≤ longM t by omega)]; rfl
      · rw [decide_eq_false h0, decide_eq_true (show (0 : Int) ≤ longM t by omega), show max (longM t) 0 = longM t by omega]; rfl
    rw [hlk]
    refine WC.seq ?_
    refine WC.region ?_
    refine WL.v (RV.move rfl) rfl ?_
    refine WL.v (RV.lss rfl rfl) rfl ?_
    refine WL.v (RV.move rfl) rfl ?_
    refine WL.orBS (fun w1 => _ = w1) (decide (4 < longM t)) 2 (rfl) rfl rfl rfl rfl rfl ?_ ?_
    · skip
      intro a1
      refine WL.on rfl ?_
      refine WL.v (RV.move rfl) rfl ?_
      refine WL.on rfl ?_
      refine WL.v (RV.gtr rfl rfl) rfl ?_
      refine WL.nil ?_
      refine QF.andEnd (tA := 12) 3 (rfl) rfl rfl rfl (fun v hv => (Option.some.inj hv).symm.trans (congrArg Value.bool a1)) rfl
    rintro _ rfl
    refine WL.v (RV.assign rfl) rfl ?_
    refine WL.nil ?_
    refine QF.seqNext ?_
    refine WC.cond rfl ?_ ?_
    · intro h2
      refine WC.seq ?_
      refine WC.region ?_
      refine WL.v (RV.assign rfl) rfl ?_
      refine WL.nil ?_
      refine QF.seqNext ?_
      refine WC.ret ?_
      refine QF.blockRet ?_
      refine QF.thenRet ?_
      refine QF.done1 rfl rfl (⟨by rw [if_pos h2], hE13⟩)
    · intro h2
      refine WC.skip ?_
      refine QF.blockNormal ?_
      refine QF.seqNext ?_
      refine WC.seq ?_
      refine WC.region ?_
      refine WL.v (RV.assign rfl) rfl ?_
      refine WL.nil ?_
      refine QF.seqNext ?_
      refine WC.ret ?_
      refine QF.done1 rfl rfl (⟨by rw [if_neg (by rw [h2]; decide)], hE13⟩)
end Go.Proofs.YtmohcfjopaccdaaGreatDoor
end
section
/- Packages virguleref05 and virguleref06, walked: Right. -/
namespace Go.Proofs.YtmohcfjopaccdaaGreatDoor
open Go.VL Go.Proofs
set_option maxRecDepth 10000

theorem fit_x {k c : Int} {kids : List Nd} {wi : Bool} (h : (k < 0 ∨ 9 < k) ∨ (k = 9 ∧ wi = true)) : fitsM (.mk k c kids) wi = false := by
  cases hq : fitsM (.mk k c kids) wi with
  | false => rfl
  | true =>
    simp only [fitsM, Bool.and_eq_true] at hq
    have hc := head_cases hq.1
    rcases h with h | ⟨rfl, rfl⟩
    · omega
    · simp at hc
theorem fit_0 {k c : Int} {kids : List Nd} {wi : Bool} (hk : k = 0 ∨ k = 2) : fitsM (.mk k c kids) wi = (((((kids.length : Nat) : Int) == 0) && decide (0 ≤ c)) && decide (c ≤ 35)) := by
  rw [Bool.eq_iff_iff]
  cases kids with
  | nil => rcases hk with rfl | rfl <;> simp [fitsM, fitsL, headOK, least, most, named] <;> omega
  | cons a r =>
    constructor
    · intro h
      simp only [fitsM, Bool.and_eq_true] at h
      have hc := head_cases h.1
      simp only [List.length_cons] at hc
      omega
    · intro h
      simp at h
      omega
theorem fit_1 {k c : Int} {kids : List Nd} {wi : Bool} (hk : (k = 1 ∨ k = 3) ∨ (k = 9 ∧ wi = false)) : fitsM (.mk k c kids) wi = ((((kids.length : Nat) : Int) == 0) && (c == 0)) := by
  rw [Bool.eq_iff_iff]
  cases kids with
  | nil => rcases hk with (rfl | rfl) | ⟨rfl, rfl⟩ <;> simp [fitsM, fitsL, headOK, least, most, named]
  | cons a r =>
    constructor
    · intro h
      simp only [fitsM, Bool.and_eq_true] at h
      have hc := head_cases h.1
      simp only [List.length_cons] at hc
      omega
    · intro h
      simp at h
      omega
theorem fit_2 {k c : Int} {kids : List Nd} {wi : Bool} (hk : k = 4 ∨ k = 5) (h : kids.length < 2) : fitsM (.mk k c kids) wi = false := by
  cases hq : fitsM (.mk k c kids) wi with
  | false => rfl
  | true =>
    simp only [fitsM, Bool.and_eq_true] at hq
    have hc := head_cases hq.1
    omega
theorem fit_3 {k c : Int} {kids : List Nd} {wi : Bool} (hk : k = 6 ∨ k = 7 ∨ k = 8) (h : kids.length ≠ 1) : fitsM (.mk k c kids) wi = false := by
  cases hq : fitsM (.mk k c kids) wi with
  | false => rfl
  | true =>
    simp only [fitsM, Bool.and_eq_true] at hq
    have hc := head_cases hq.1
    omega
theorem fit_4 {k c : Int} {kids : List Nd} {wi : Bool} (hk : ((k = 4 ∨ k = 5) ∧ 2 ≤ kids.length) ∨ ((k = 6 ∨ k = 7 ∨ k = 8) ∧ kids.length = 1)) (hn : kids.length ≤ 2000) (hf : fitsL kids = true) : fitsM (.mk k c kids) wi = (c == 0) := by
  have hF : fitsM (.mk k c kids) wi = (headOK k c kids.length wi && fitsL kids) := rfl
  rw [hF, hf, Bool.and_true, Bool.eq_iff_iff]
  generalize kids.length = m at *
  rcases hk with ⟨rfl | rfl, h⟩ | ⟨rfl | rfl | rfl, rfl⟩ <;> simp [headOK, least, most, named] <;> omega
theorem fit_5 {k c : Int} {kids : List Nd} {wi : Bool} {i : Nat} (hi : i < kids.length) (hy : fitsM (nth kids i) true = false) : fitsM (.mk k c kids) wi = false := by
  have hfl : fitsL kids = false := by
    cases hq : fitsL kids with
    | false => rfl
    | true => exact absurd (fitsL_mem kids hq (nth kids i) (by rw [nth_eq hi]; exact List.getElem_mem _)) (by rw [hy]; decide)
  have hF : fitsM (.mk k c kids) wi = (headOK k c kids.length wi && fitsL kids) := rfl
  rw [hF, hfl, Bool.and_false]
theorem ref5Right_ret : ∀ (n : Nat), n ≤ 2000 → ∀ (t : Nd), nsz t ≤ n → ∀ (x : N3) (w : World) (wi : Bool), Nt (fun _ => 0) w t x → Ret Tryz.prog 25 [nv x, .bool wi] w fun v w' => v = .bool (fitsM t wi) ∧ Ext w w'
  | 0, _, t, hn => by have := nsz_pos t; omega
  | n + 1, hn2, .mk k c kids, hn => by
    intro x w wi h
    have hx0 := h.ones
    have hnt := h
    obtain ⟨xs, hs, hf, hl, hk⟩ := h.kids
    simp only [Nd.kids] at hl hk
    have hnz : nsz (.mk k c kids) ≤ 2000 := by omega
    simp only [nsz] at hn
    have hkl := nszL_len kids
    have hxl2 : kids.length ≤ 2000 := by omega
    generalize hsv : x.2.2 = sv at *
    subst hx0
    simp only [Nd.kind, Nd.cls]
    simp only [Nd.kind, Nd.cls] at hnt
    have hlen := hs.len_le
    refine Ret.enter Tryz.func25 Tryz.ntmps25 rfl rfl ?_
    refine WC.seq ?_
    refine WC.region ?_
    refine WL.boxO (Rng.start w) 1 (by omega) rfl rfl ?_
    intro xb w1 O1 hx1 hU1 hR1 hE1
    have hc1 : ∀ W, Ext w1 W → ∀ (j : Nat) (u : Value), (encN (k, c, sv))[j]? = some u → W.cell? ((⟨xb, 0, none⟩ : Addr).add j) = some u := fun W hE j u hu => hE.cell (hx1.cellsAdd j u hu)
    have c0 : ∀ W, Ext w1 W → W.cell? ((⟨xb, 0, none⟩ : Addr).add 0) = some (.int .i64 k) := fun W hE => hE.cell (hx1.cell 0 rfl)
    have c1 : ∀ W, Ext w1 W → W.cell? ((⟨xb, 0, none⟩ : Addr).add 1) = some (.int .i64 c) := fun W hE => hE.cell (hx1.cell 1 rfl)
    have c2 : ∀ W, Ext w1 W → W.cell? ((⟨xb, 0, none⟩ : Addr).add 2) = some sv := fun W hE => hE.cell (hx1.cell 2 rfl)
    refine WL.v (RV.assign rfl) rfl ?_
    refine WL.nil ?_
    refine QF.seqNext ?_
    refine WC.seq ?_
    refine WC.seq ?_
    refine WC.region ?_
    refine WL.v (RV.move rfl) rfl ?_
    refine WL.v (RV.not rfl) rfl ?_
    refine WL.v (RV.move rfl) rfl ?_
    refine WL.andBS (Ext w1) (false) 3 (Ext.refl w1) rfl rfl rfl rfl rfl ?_ ?_
    · skip
      intro a1
      refine WL.on rfl ?_
      refine WL.v (RV.loadAgg (us := encN (k, c, sv)) (hc1 _ (Ext.refl _)) (Tryz.isAgg62 _) (Tryz.sizeOf62 _) rfl) rfl ?_
      refine WL.on rfl ?_
      refine WL.call Tryz.call20 rfl (rsize_ret (nsz (.mk k c kids)) (.mk k c kids) (Nat.le_refl _) (k, c, sv) w1 2000 (hnt.ext hE1) (by decide)) rfl ?_
      rintro v w2 ⟨rfl, hE2⟩
      rw [show min (nsz (.mk k c kids)) (2000 + 1) = nsz (.mk k c kids) from by omega]
      refine WL.on rfl ?_
      refine WL.v (RV.gtr rfl rfl) rfl ?_
      rw [decide_eq_false (show ¬ ((2000 : Int) < ((nsz (.mk k c kids) : Nat) : Int)) from by omega)]
      refine WL.nil ?_
      refine QF.andEnd (tA := 9) 4 (hE2) rfl rfl rfl (fun v hv => (Option.some.inj hv).symm.trans (congrArg Value.bool a1)) rfl
    intro w2 hE2
    refine WL.v (RV.move rfl) rfl ?_
    refine WL.orBS (fun w1 => _ = w1) (decide (k < 0)) 3 (rfl) rfl rfl rfl rfl rfl ?_ ?_
    · skip
      intro a2
      refine WL.on rfl ?_
      refine WL.v (RV.fieldAddr 0 Tryz.underlying62 rfl rfl (Tryz.sizeOf3 _) (by decide) rfl) rfl ?_
      refine WL.on rfl ?_
      refine WL.v (RV.load (by first | exact c0 _ hE2) (Tryz.isAgg3 _) rfl) rfl ?_
      refine WL.on rfl ?_
      refine WL.v (RV.lss rfl rfl) rfl ?_
      refine WL.nil ?_
      refine QF.andEnd (tA := 14) 4 (rfl) rfl rfl rfl (fun v hv => (Option.some.inj hv).symm.trans (congrArg Value.bool a2)) rfl
    rintro _ rfl
    refine WL.v (RV.move rfl) rfl ?_
    refine WL.orBS (fun w1 => _ = w1) (decide (9 < k)) 3 (rfl) rfl rfl rfl rfl rfl ?_ ?_
    · skip
      intro a3
      refine WL.on rfl ?_
      refine WL.v (RV.fieldAddr 0 Tryz.underlying62 rfl rfl (Tryz.sizeOf3 _) (by decide) rfl) rfl ?_
      refine WL.on rfl ?_
      refine WL.v (RV.load (by first | exact c0 _ hE2) (Tryz.isAgg3 _) rfl) rfl ?_
      refine WL.on rfl ?_
      refine WL.v (RV.gtr rfl rfl) rfl ?_
      refine WL.nil ?_
      refine QF.andEnd (tA := 19) 4 (rfl) rfl rfl rfl (fun v hv => (Option.some.inj hv).symm.trans (congrArg Value.bool a3)) rfl
    rintro _ rfl
    refine WL.v (RV.move rfl) rfl ?_
    refine WL.orBS (fun w1 => _ = w1) (((k == 9) && wi)) 6 (rfl) rfl rfl rfl rfl rfl ?_ ?_
    · skip
      intro a4
      refine WL.on rfl ?_
      refine WL.v (RV.fieldAddr 0 Tryz.underlying62 rfl rfl (Tryz.sizeOf3 _) (by decide) rfl) rfl ?_
      refine WL.on rfl ?_
      refine WL.v (RV.load (by first | exact c0 _ hE2) (Tryz.isAgg3 _) rfl) rfl ?_
      refine WL.on rfl ?_
      refine WL.v (RV.eql rfl rfl) rfl ?_
      refine WL.on rfl ?_
      refine WL.v (RV.move rfl) rfl ?_
      cases hk9 : (k == 9) with
      | true =>
        refine WL.know (d := 28) rfl (b' := true) (rfl) ?_
        refine WL.on rfl ?_
        refine WL.v (RV.move rfl) rfl ?_
        refine WL.on rfl ?_
        refine WL.v (RV.pickT rfl rfl) rfl ?_
        refine WL.nil ?_
        refine QF.andEnd (tA := 24) 8 (rfl) rfl rfl rfl (fun v hv => (Option.some.inj hv).symm.trans (congrArg Value.bool a4)) rfl
      | false =>
        refine WL.know (d := 28) rfl (b' := false) (rfl) ?_
        refine WL.off rfl rfl rfl ?_
        refine WL.on rfl ?_
        refine WL.v (RV.pickF rfl rfl) rfl ?_
        refine WL.nil ?_
        refine QF.andEnd (tA := 24) 8 (rfl) rfl rfl rfl (fun v hv => (Option.some.inj hv).symm.trans (congrArg Value.bool a4)) rfl
    rintro _ rfl
    have hE := hE1.trans hE2
    refine WL.nil ?_
    refine QF.seqNext ?_
    refine WC.cond rfl ?_ ?_
    · intro hc
      have hz : fitsM (.mk k c kids) wi = false := fit_x (by
        simp only [Bool.and_false, Bool.false_or, Bool.or_eq_true, Bool.and_eq_true, decide_eq_true_eq, beq_iff_eq] at hc
        exact hc)
      refine WC.seq ?_
      refine WC.region ?_
      refine WL.v (RV.assign rfl) rfl ?_
      refine WL.nil ?_
      refine QF.seqNext ?_
      refine WC.ret ?_
      refine QF.thenRet ?_
      refine QF.done1 rfl rfl (⟨by rw [hz], hE⟩)
    · intro hc
      simp only [Bool.and_false, Bool.false_or, Bool.or_eq_false_iff, decide_eq_false_iff_not] at hc
      obtain ⟨⟨hk0, hk9⟩, h9⟩ := hc
      have hs2 := hs.ext hE
      refine WC.skip ?_
      refine QF.seqNext ?_
      refine WC.seq ?_
      refine WC.region ?_
      refine WL.v (RV.fieldAddr 2 Tryz.underlying62 rfl rfl (Tryz.sizeOf60 _) (by decide) rfl) rfl ?_
      refine WL.v (RV.load (by first | exact c0 _ hE2 | exact c1 _ hE2 | exact c2 _ hE2) (Tryz.isAgg60 _) rfl) rfl ?_
      refine WL.v (RV.len (by first | exact hs2) Tryz.underlying60 rfl) rfl ?_
      refine WL.v (RV.assign rfl) rfl ?_
      refine WL.nil ?_
      refine QF.seqNext ?_
      refine WC.seq ?_
      refine WC.seq ?_
      refine WC.region ?_
      refine WL.v (RV.fieldAddr 0 Tryz.underlying62 rfl rfl (Tryz.sizeOf3 _) (by decide) rfl) rfl ?_
      refine WL.v (RV.load (by first | exact c0 _ hE2 | exact c1 _ hE2 | exact c2 _ hE2) (Tryz.isAgg3 _) rfl) rfl ?_
      refine WL.nil ?_
      refine QF.seqNext ?_
      refine WC.block ?_
      refine WC.seq ?_
      refine WC.seq ?_
      refine WC.region ?_
      refine WL.v (RV.eql rfl rfl) rfl ?_
      refine WL.v (RV.assign rfl) rfl ?_
      refine WL.nil ?_
      refine QF.seqNext ?_
      have hkk : k = 0 ∨ k = 1 ∨ k = 2 ∨ k = 3 ∨ k = 4 ∨ k = 5 ∨ k = 6 ∨ k = 7 ∨ k = 8 ∨ k = 9 := by omega
      rcases hkk with rfl | rfl | rfl | rfl | rfl | rfl | rfl | rfl | rfl | rfl
      · skip
        refine WC.condT rfl (rfl) ?_
        refine WC.skip ?_
        refine QF.seqNext ?_
        refine WC.condT rfl (rfl) ?_
        refine WC.seq ?_
        refine WC.region ?_
        refine WL.v (RV.move rfl) rfl ?_
        refine WL.v (RV.eql rfl rfl) rfl ?_
        refine WL.v (RV.move rfl) rfl ?_
        refine WL.andBS (fun w1 => _ = w1) (decide (0 ≤ c)) 3 (rfl) rfl rfl rfl rfl rfl ?_ ?_
        · skip
          intro b1
          refine WL.on rfl ?_
          refine WL.v (RV.fieldAddr 1 Tryz.underlying62 rfl rfl (Tryz.sizeOf3 _) (by decide) rfl) rfl ?_
          refine WL.on rfl ?_
          refine WL.v (RV.load (by first | exact c1 _ hE2) (Tryz.isAgg3 _) rfl) rfl ?_
          refine WL.on rfl ?_
          refine WL.v (RV.geq rfl rfl) rfl ?_
          refine WL.nil ?_
          refine QF.andEnd (tA := 44) 4 (rfl) rfl rfl rfl (fun v hv => (Option.some.inj hv).symm.trans (congrArg Value.bool b1)) rfl
        rintro _ rfl
        refine WL.v (RV.move rfl) rfl ?_
        refine WL.andBS (fun w1 => _ = w1) (decide (c ≤ 35)) 3 (rfl) rfl rfl rfl rfl rfl ?_ ?_
        · skip
          intro b2
          refine WL.on rfl ?_
          refine WL.v (RV.fieldAddr 1 Tryz.underlying62 rfl rfl (Tryz.sizeOf3 _) (by decide) rfl) rfl ?_
          refine WL.on rfl ?_
          refine WL.v (RV.load (by first | exact c1 _ hE2) (Tryz.isAgg3 _) rfl) rfl ?_
          refine WL.on rfl ?_
          refine WL.v (RV.leq rfl rfl) rfl ?_
          refine WL.nil ?_
          refine QF.andEnd (tA := 49) 4 (rfl) rfl rfl rfl (fun v hv => (Option.some.inj hv).symm.trans (congrArg Value.bool b2)) rfl
        rintro _ rfl
        have hz := fit_0 (k := 0) (c := c) (kids := kids) (wi := wi) (by decide)
        rw [hl] at hz
        refine WL.v (RV.assign rfl) rfl ?_
        refine WL.nil ?_
        refine QF.seqNext ?_
        refine WC.ret ?_
        refine QF.blockRet ?_
        refine QF.thenRet ?_
        refine QF.done1 rfl rfl (⟨by rw [hz], hE⟩)
      · skip
        refine WC.condF rfl (rfl) ?_
        refine WC.region ?_
        refine WL.v (RV.eql rfl rfl) rfl ?_
        refine WL.v (RV.assign rfl) rfl ?_
        refine WL.nil ?_
        refine QF.seqNext ?_
        refine WC.condF rfl (rfl) ?_
        refine WC.seq ?_
        refine WC.seq ?_
        refine WC.region ?_
        refine WL.v (RV.eql rfl rfl) rfl ?_
        refine WL.v (RV.assign rfl) rfl ?_
        refine WL.nil ?_
        refine QF.seqNext ?_
        refine WC.condT rfl (rfl) ?_
        refine WC.skip ?_
        refine QF.seqNext ?_
        refine WC.condT rfl (rfl) ?_
        refine WC.seq ?_
        refine WC.region ?_
        refine WL.v (RV.move rfl) rfl ?_
        refine WL.v (RV.eql rfl rfl) rfl ?_
        refine WL.v (RV.move rfl) rfl ?_
        refine WL.andBS (fun w1 => _ = w1) ((c == 0)) 3 (rfl) rfl rfl rfl rfl rfl ?_ ?_
        · skip
          intro b1
          refine WL.on rfl ?_
          refine WL.v (RV.fieldAddr 1 Tryz.underlying62 rfl rfl (Tryz.sizeOf3 _) (by decide) rfl) rfl ?_
          refine WL.on rfl ?_
          refine WL.v (RV.load (by first | exact c1 _ hE2) (Tryz.isAgg3 _) rfl) rfl ?_
          refine WL.on rfl ?_
          refine WL.v (RV.eql rfl rfl) rfl ?_
          refine WL.nil ?_
          refine QF.andEnd (tA := 60) 4 (rfl) rfl rfl rfl (fun v hv => (Option.some.inj hv).symm.trans (congrArg Value.bool b1)) rfl
        rintro _ rfl
        have hz := fit_1 (k := 1) (c := c) (kids := kids) (wi := wi) (by first | exact .inl (by decide) | exact .inr ⟨rfl, hw⟩)
        rw [hl] at hz
        refine WL.v (RV.assign rfl) rfl ?_
        refine WL.nil ?_
        refine QF.seqNext ?_
        refine WC.ret ?_
        refine QF.blockRet ?_
        refine QF.thenRet ?_
        refine QF.done1 rfl rfl (⟨by rw [hz], hE⟩)
      · skip
        refine WC.condF rfl (rfl) ?_
        refine WC.region ?_
        refine WL.v (RV.eql rfl rfl) rfl ?_
        refine WL.v (RV.assign rfl) rfl ?_
        refine WL.nil ?_
        refine QF.seqNext ?_
        refine WC.condT rfl (rfl) ?_
        refine WC.seq ?_
        refine WC.region ?_
        refine WL.v (RV.move rfl) rfl ?_
        refine WL.v (RV.eql rfl rfl) rfl ?_
        refine WL.v (RV.move rfl) rfl ?_
        refine WL.andBS (fun w1 => _ = w1) (decide (0 ≤ c)) 3 (rfl) rfl rfl rfl rfl rfl ?_ ?_
        · skip
          intro b1
          refine WL.on rfl ?_
          refine WL.v (RV.fieldAddr 1 Tryz.underlying62 rfl rfl (Tryz.sizeOf3 _) (by decide) rfl) rfl ?_
          refine WL.on rfl ?_
          refine WL.v (RV.load (by first | exact c1 _ hE2) (Tryz.isAgg3 _) rfl) rfl ?_
          refine WL.on rfl ?_
          refine WL.v (RV.geq rfl rfl) rfl ?_
          refine WL.nil ?_
          refine QF.andEnd (tA := 44) 4 (rfl) rfl rfl rfl (fun v hv => (Option.some.inj hv).symm.trans (congrArg Value.bool b1)) rfl
        rintro _ rfl
        refine WL.v (RV.move rfl) rfl ?_
        refine WL.andBS (fun w1 => _ = w1) (decide (c ≤ 35)) 3 (rfl) rfl rfl rfl rfl rfl ?_ ?_
        · skip
          intro b2
          refine WL.on rfl ?_
          refine WL.v (RV.fieldAddr 1 Tryz.underlying62 rfl rfl (Tryz.sizeOf3 _) (by decide) rfl) rfl ?_
          refine WL.on rfl ?_
          refine WL.v (RV.load (by first | exact c1 _ hE2) (Tryz.isAgg3 _) rfl) rfl ?_
          refine WL.on rfl ?_
          refine WL.v (RV.leq rfl rfl) rfl ?_
          refine WL.nil ?_
          refine QF.andEnd (tA := 49) 4 (rfl) rfl rfl rfl (fun v hv => (Option.some.inj hv).symm.trans (congrArg Value.bool b2)) rfl
        rintro _ rfl
        have hz := fit_0 (k := 2) (c := c) (kids := kids) (wi := wi) (by decide)
        rw [hl] at hz
        refine WL.v (RV.assign rfl) rfl ?_
        refine WL.nil ?_
        refine QF.seqNext ?_
        refine WC.ret ?_
        refine QF.blockRet ?_
        refine QF.thenRet ?_
        refine QF.done1 rfl rfl (⟨by rw [hz], hE⟩)
      · skip
        refine WC.condF rfl (rfl) ?_
        refine WC.region ?_
        refine WL.v (RV.eql rfl rfl) rfl ?_
        refine WL.v (RV.assign rfl) rfl ?_
        refine WL.nil ?_
        refine QF.seqNext ?_
        refine WC.condF rfl (rfl) ?_
        refine WC.seq ?_
        refine WC.seq ?_
        refine WC.region ?_
        refine WL.v (RV.eql rfl rfl) rfl ?_
        refine WL.v (RV.assign rfl) rfl ?_
        refine WL.nil ?_
        refine QF.seqNext ?_
        refine WC.condF rfl (rfl) ?_
        refine WC.seq ?_
        refine WC.region ?_
        refine WL.v (RV.eql rfl rfl) rfl ?_
        refine WL.v (RV.assign rfl) rfl ?_
        refine WL.nil ?_
        refine QF.seqNext ?_
        refine WC.condT rfl (rfl) ?_
        refine WC.skip ?_
        refine QF.seqNext ?_
        refine WC.condT rfl (rfl) ?_
        refine WC.seq ?_
        refine WC.region ?_
        refine WL.v (RV.move rfl) rfl ?_
        refine WL.v (RV.eql rfl rfl) rfl ?_
        refine WL.v (RV.move rfl) rfl ?_
        refine WL.andBS (fun w1 => _ = w1) ((c == 0)) 3 (rfl) rfl rfl rfl rfl rfl ?_ ?_
        · skip
          intro b1
          refine WL.on rfl ?_
          refine WL.v (RV.fieldAddr 1 Tryz.underlying62 rfl rfl (Tryz.sizeOf3 _) (by decide) rfl) rfl ?_
          refine WL.on rfl ?_
          refine WL.v (RV.load (by first | exact c1 _ hE2) (Tryz.isAgg3 _) rfl) rfl ?_
          refine WL.on rfl ?_
          refine WL.v (RV.eql rfl rfl) rfl ?_
          refine WL.nil ?_
          refine QF.andEnd (tA := 60) 4 (rfl) rfl rfl rfl (fun v hv => (Option.some.inj hv).symm.trans (congrArg Value.bool b1)) rfl
        rintro _ rfl
        have hz := fit_1 (k := 3) (c := c) (kids := kids) (wi := wi) (by first | exact .inl (by decide) | exact .inr ⟨rfl, hw⟩)
        rw [hl] at hz
        refine WL.v (RV.assign rfl) rfl ?_
        refine WL.nil ?_
        refine QF.seqNext ?_
        refine WC.ret ?_
        refine QF.blockRet ?_
        refine QF.thenRet ?_
        refine QF.done1 rfl rfl (⟨by rw [hz], hE⟩)
      · skip
        refine WC.condF rfl (rfl) ?_
        refine WC.region ?_
        refine WL.v (RV.eql rfl rfl) rfl ?_
        refine WL.v (RV.assign rfl) rfl ?_
        refine WL.nil ?_
        refine QF.seqNext ?_
        refine WC.condF rfl (rfl) ?_
        refine WC.seq ?_
        refine WC.seq ?_
        refine WC.region ?_
        refine WL.v (RV.eql rfl rfl) rfl ?_
        refine WL.v (RV.assign rfl) rfl ?_
        refine WL.nil ?_
        refine QF.seqNext ?_
        refine WC.condF rfl (rfl) ?_
        refine WC.seq ?_
        refine WC.region ?_
        refine WL.v (RV.eql rfl rfl) rfl ?_
        refine WL.v (RV.assign rfl) rfl ?_
        refine WL.nil ?_
        refine QF.seqNext ?_
        refine WC.condF rfl (rfl) ?_
        refine WC.region ?_
        refine WL.v (RV.eql rfl rfl) rfl ?_
        refine WL.v (RV.assign rfl) rfl ?_
        refine WL.nil ?_
        refine QF.seqNext ?_
        refine WC.condF rfl (rfl) ?_
        refine WC.seq ?_
        refine WC.seq ?_
        refine WC.region ?_
        refine WL.v (RV.eql rfl rfl) rfl ?_
        refine WL.v (RV.assign rfl) rfl ?_
        refine WL.nil ?_
        refine QF.seqNext ?_
        refine WC.condT rfl (rfl) ?_
        refine WC.skip ?_
        refine QF.seqNext ?_
        refine WC.condT rfl (rfl) ?_
        refine WC.seq ?_
        refine WC.region ?_
        refine WL.v (RV.move rfl) rfl ?_
        refine WL.v (RV.lss rfl rfl) rfl ?_
        refine WL.nil ?_
        refine QF.seqNext ?_
        refine WC.cond rfl ?_ ?_
        · intro h2
          replace h2 := of_decide_eq_true h2
          have hz := fit_2 (k := 4) (c := c) (wi := wi) (kids := kids) (by decide) (by omega)
          refine WC.seq ?_
          refine WC.region ?_
          refine WL.v (RV.assign rfl) rfl ?_
          refine WL.nil ?_
          refine QF.seqNext ?_
          refine WC.ret ?_
          refine QF.blockRet ?_
          refine QF.thenRet ?_
          refine QF.done1 rfl rfl (⟨by rw [hz], hE⟩)
        · intro h2
          replace h2 := of_decide_eq_false h2
          have hKK : ((((4 : Int) = 4 ∨ (4 : Int) = 5) ∧ 2 ≤ kids.length) ∨ (((4 : Int) = 6 ∨ (4 : Int) = 7 ∨ (4 : Int) = 8) ∧ kids.length = 1)) := .inl ⟨by decide, by omega⟩
          refine WC.skip ?_
          refine QF.blockNormal ?_
          refine QF.seqNext ?_
          refine WC.seq ?_
          refine WC.seq ?_
          refine WC.region ?_
          refine WL.v (RV.assign rfl) rfl ?_
          refine WL.nil ?_
          refine QF.seqNext ?_
          refine WC.block ?_
          refine WC.loop (fun y : Nat × World => [(2, .pointer (some ⟨xb, 0, none⟩)), (5, .int .i64 xs.length), (6, .int .i64 y.1)]) (fun y : Nat × World => y.2) (fun y : Nat × World => y.1 ≤ xs.length ∧ Ext w1 y.2 ∧ ∀ i, i < y.1 → fitsM (nth kids i) true = true) (fun y : Nat × World => xs.length - y.1) (0, w2) (⟨Nat.zero_le _, hE2, fun i hi => absurd hi (Nat.not_lt_zero i)⟩) ⟨rfl, rfl, rfl, trivial⟩ rfl ?_
          rintro ⟨i, w3⟩ ⟨hi, hE3, hall⟩
          dsimp only at hi hE3 hall ⊢
          have hs3 := hs.ext (hE1.trans hE3)
          refine WC.seq ?_
          refine WC.seq ?_
          refine WC.region ?_
          refine WL.v (RV.move rfl) rfl ?_
          refine WL.v (RV.move rfl) rfl ?_
          refine WL.v (RV.lss rfl rfl) rfl ?_
          refine WL.nil ?_
          refine QF.seqNext ?_
          refine WC.cond rfl ?_ ?_
          · intro hlt
            replace hlt : i < xs.length := by have := of_decide_eq_true hlt; omega
            have hkz := nszL_nth kids i (by omega)
            refine WC.skip ?_
            refine QF.seqNext ?_
            refine WC.seq ?_
            refine WC.block ?_
            refine WC.seq ?_
            refine WC.region ?_
            refine WL.v (RV.fieldAddr 2 Tryz.underlying62 rfl rfl (Tryz.sizeOf60 _) (by decide) rfl) rfl ?_
            refine WL.v (RV.load (by first | exact c2 _ hE3) (Tryz.isAgg60 _) rfl) rfl ?_
            refine WL.v (RV.move rfl) rfl ?_
            refine WL.v (RV.indexAddr (by first | exact hs3) Tryz.underlying60 (Tryz.sizeOf62 _) rfl rfl _ rfl (by omega)) rfl ?_
            refine WL.v (RV.loadAgg (us := encN (nth xs i)) (fun j u hu => hs3.cell hlt hu) (Tryz.isAgg62 _) (Tryz.sizeOf62 _) rfl) rfl ?_
            refine WL.call Tryz.call25 rfl (ref5Right_ret n (by omega) (nth kids i) (by omega) (nth xs i) w3 true ((hk i hlt).ext (hE1.trans hE3))) rfl ?_
            rintro u w4 ⟨rfl, hE4⟩
            refine WL.v (RV.not rfl) rfl ?_
            refine WL.nil ?_
            refine QF.seqNext ?_
            refine WC.cond rfl ?_ ?_
            · intro hy
              replace hy : fitsM (nth kids i) true = false := by simpa using hy
              have hz := fit_5 (k := 4) (c := c) (wi := wi) (show i < kids.length by omega) hy
              refine WC.seq ?_
              refine WC.region ?_
              refine WL.v (RV.assign rfl) rfl ?_
              refine WL.nil ?_
              refine QF.seqNext ?_
              refine WC.ret ?_
              refine QF.blockRet ?_
              refine QF.thenRet ?_
              refine QF.thenRet ?_
              refine QF.blockRet ?_
              refine QF.thenRet ?_
              refine QF.done1 rfl rfl (⟨by rw [hz], (hE1.trans hE3).trans hE4⟩)
            · intro hy
              replace hy : fitsM (nth kids i) true = true := by simpa using hy
              refine WC.skip ?_
              refine QF.blockNormal ?_
              refine QF.seqNext ?_
              refine WC.region ?_
              refine WL.v (RV.move rfl) rfl ?_
              refine WL.v (RV.add rfl rfl (Fit.i64 (by omega))) rfl ?_
              refine WL.v (RV.assign rfl) rfl ?_
              refine WL.nil ?_
              refine QF.next ((i + 1, w4)) (⟨hlt, hE3.trans hE4, fun j hj => (Nat.lt_succ_iff_lt_or_eq.1 hj).elim (hall j) (fun e => by rw [e]; exact hy)⟩) (by dsimp only; omega) ⟨rfl, rfl, rfl, trivial⟩ rfl
          · intro hge
            replace hge : xs.length ≤ i := by have := of_decide_eq_false hge; omega
            have hfl : fitsL kids = true := by
              rw [← fitsL_any, Bool.not_eq_true']
              exact anyN_false.2 fun j hj => by rw [hall j (by omega)]; rfl
            have hz := fit_4 (k := 4) (c := c) (wi := wi) hKK hxl2 hfl
            refine WC.exit ?_
            refine QF.thenExit ?_
            refine QF.thenExit ?_
            refine QF.blockHit ?_
            refine QF.seqNext ?_
            refine WC.seq ?_
            refine WC.region ?_
            refine WL.v (RV.fieldAddr 1 Tryz.underlying62 rfl rfl (Tryz.sizeOf3 _) (by decide) rfl) rfl ?_
            refine WL.v (RV.load (by first | exact c1 _ hE3) (Tryz.isAgg3 _) rfl) rfl ?_
            refine WL.v (RV.eql rfl rfl) rfl ?_
            refine WL.v (RV.assign rfl) rfl ?_
            refine WL.nil ?_
            refine QF.seqNext ?_
            refine WC.ret ?_
            refine QF.done1 rfl rfl (⟨by rw [hz], hE1.trans hE3⟩)
      · skip
        refine WC.condF rfl (rfl) ?_
        refine WC.region ?_
        refine WL.v (RV.eql rfl rfl) rfl ?_
        refine WL.v (RV.assign rfl) rfl ?_
        refine WL.nil ?_
        refine QF.seqNext ?_
        refine WC.condF rfl (rfl) ?_
        refine WC.seq ?_
        refine WC.seq ?_
        refine WC.region ?_
        refine WL.v (RV.eql rfl rfl) rfl ?_
        refine WL.v (RV.assign rfl) rfl ?_
        refine WL.nil ?_
        refine QF.seqNext ?_
        refine WC.condF rfl (rfl) ?_
        refine WC.seq ?_
        refine WC.region ?_
        refine WL.v (RV.eql rfl rfl) rfl ?_
        refine WL.v (RV.assign rfl) rfl ?_
        refine WL.nil ?_
        refine QF.seqNext ?_
        refine WC.condF rfl (rfl) ?_
        refine WC.region ?_
        refine WL.v (RV.eql rfl rfl) rfl ?_
        refine WL.v (RV.assign rfl) rfl ?_
        refine WL.nil ?_
        refine QF.seqNext ?_
        refine WC.condF rfl (rfl) ?_
        refine WC.seq ?_
        refine WC.seq ?_
        refine WC.region ?_
        refine WL.v (RV.eql rfl rfl) rfl ?_
        refine WL.v (RV.assign rfl) rfl ?_
        refine WL.nil ?_
        refine QF.seqNext ?_
        refine WC.condF rfl (rfl) ?_
        refine WC.region ?_
        refine WL.v (RV.eql rfl rfl) rfl ?_
        refine WL.v (RV.assign rfl) rfl ?_
        refine WL.nil ?_
        refine QF.seqNext ?_
        refine WC.condT rfl (rfl) ?_
        refine WC.seq ?_
        refine WC.region ?_
        refine WL.v (RV.move rfl) rfl ?_
        refine WL.v (RV.lss rfl rfl) rfl ?_
        refine WL.nil ?_
        refine QF.seqNext ?_
        refine WC.cond rfl ?_ ?_
        · intro h2
          replace h2 := of_decide_eq_true h2
          have hz := fit_2 (k := 5) (c := c) (wi := wi) (kids := kids) (by decide) (by omega)
          refine WC.seq ?_
          refine WC.region ?_
          refine WL.v (RV.assign rfl) rfl ?_
          refine WL.nil ?_
          refine QF.seqNext ?_
          refine WC.ret ?_
          refine QF.blockRet ?_
          refine QF.thenRet ?_
          refine QF.done1 rfl rfl (⟨by rw [hz], hE⟩)
        · intro h2
          replace h2 := of_decide_eq_false h2
          have hKK : ((((5 : Int) = 4 ∨ (5 : Int) = 5) ∧ 2 ≤ kids.length) ∨ (((5 : Int) = 6 ∨ (5 : Int) = 7 ∨ (5 : Int) = 8) ∧ kids.length = 1)) := .inl ⟨by decide, by omega⟩
          refine WC.skip ?_
          refine QF.blockNormal ?_
          refine QF.seqNext ?_
          refine WC.seq ?_
          refine WC.seq ?_
          refine WC.region ?_
          refine WL.v (RV.assign rfl) rfl ?_
          refine WL.nil ?_
          refine QF.seqNext ?_
          refine WC.block ?_
          refine WC.loop (fun y : Nat × World => [(2, .pointer (some ⟨xb, 0, none⟩)), (5, .int .i64 xs.length), (6, .int .i64 y.1)]) (fun y : Nat × World => y.2) (fun y : Nat × World => y.1 ≤ xs.length ∧ Ext w1 y.2 ∧ ∀ i, i < y.1 → fitsM (nth kids i) true = true) (fun y : Nat × World => xs.length - y.1) (0, w2) (⟨Nat.zero_le _, hE2, fun i hi => absurd hi (Nat.not_lt_zero i)⟩) ⟨rfl, rfl, rfl, trivial⟩ rfl ?_
          rintro ⟨i, w3⟩ ⟨hi, hE3, hall⟩
          dsimp only at hi hE3 hall ⊢
          have hs3 := hs.ext (hE1.trans hE3)
          refine WC.seq ?_
          refine WC.seq ?_
          refine WC.region ?_
          refine WL.v (RV.move rfl) rfl ?_
          refine WL.v (RV.move rfl) rfl ?_
          refine WL.v (RV.lss rfl rfl) rfl ?_
          refine WL.nil ?_
          refine QF.seqNext ?_
          refine WC.cond rfl ?_ ?_
          · intro hlt
            replace hlt : i < xs.length := by have := of_decide_eq_true hlt; omega
            have hkz := nszL_nth kids i (by omega)
            refine WC.skip ?_
            refine QF.seqNext ?_
            refine WC.seq ?_
            refine WC.block ?_
            refine WC.seq ?_
            refine WC.region ?_
            refine WL.v (RV.fieldAddr 2 Tryz.underlying62 rfl rfl (Tryz.sizeOf60 _) (by decide) rfl) rfl ?_
            refine WL.v (RV.load (by first | exact c2 _ hE3) (Tryz.isAgg60 _) rfl) rfl ?_
            refine WL.v (RV.move rfl) rfl ?_
            refine WL.v (RV.indexAddr (by first | exact hs3) Tryz.underlying60 (Tryz.sizeOf62 _) rfl rfl _ rfl (by omega)) rfl ?_
            refine WL.v (RV.loadAgg (us := encN (nth xs i)) (fun j u hu => hs3.cell hlt hu) (Tryz.isAgg62 _) (Tryz.sizeOf62 _) rfl) rfl ?_
            refine WL.call Tryz.call25 rfl (ref5Right_ret n (by omega) (nth kids i) (by omega) (nth xs i) w3 true ((hk i hlt).ext (hE1.trans hE3))) rfl ?_
            rintro u w4 ⟨rfl, hE4⟩
            refine WL.v (RV.not rfl) rfl ?_
            refine WL.nil ?_
            refine QF.seqNext ?_
            refine WC.cond rfl ?_ ?_
            · intro hy
              replace hy : fitsM (nth kids i) true = false := by simpa using hy
              have hz := fit_5 (k := 5) (c := c) (wi := wi) (show i < kids.length by omega) hy
              refine WC.seq ?_
              refine WC.region ?_
              refine WL.v (RV.assign rfl) rfl ?_
              refine WL.nil ?_
              refine QF.seqNext ?_
              refine WC.ret ?_
              refine QF.blockRet ?_
              refine QF.thenRet ?_
              refine QF.thenRet ?_
              refine QF.blockRet ?_
              refine QF.thenRet ?_
              refine QF.done1 rfl rfl (⟨by rw [hz], (hE1.trans hE3).trans hE4⟩)
            · intro hy
              replace hy : fitsM (nth kids i) true = true := by simpa using hy
              refine WC.skip ?_
              refine QF.blockNormal ?_
              refine QF.seqNext ?_
              refine WC.region ?_
              refine WL.v (RV.move rfl) rfl ?_
              refine WL.v (RV.add rfl rfl (Fit.i64 (by omega))) rfl ?_
              refine WL.v (RV.assign rfl) rfl ?_
              refine WL.nil ?_
              refine QF.next ((i + 1, w4)) (⟨hlt, hE3.trans hE4, fun j hj => (Nat.lt_succ_iff_lt_or_eq.1 hj).elim (hall j) (fun e => by rw [e]; exact hy)⟩) (by dsimp only; omega) ⟨rfl, rfl, rfl, trivial⟩ rfl
          · intro hge
            replace hge : xs.length ≤ i := by have := of_decide_eq_false hge; omega
            have hfl : fitsL kids = true := by
              rw [← fitsL_any, Bool.not_eq_true']
              exact anyN_false.2 fun j hj => by rw [hall j (by omega)]; rfl
            have hz := fit_4 (k := 5) (c := c) (wi := wi) hKK hxl2 hfl
            refine WC.exit ?_
            refine QF.thenExit ?_
            refine QF.thenExit ?_
            refine QF.blockHit ?_
            refine QF.seqNext ?_
            refine WC.seq ?_
            refine WC.region ?_
            refine WL.v (RV.fieldAddr 1 Tryz.underlying62 rfl rfl (Tryz.sizeOf3 _) (by decide) rfl) rfl ?_
            refine WL.v (RV.load (by first | exact c1 _ hE3) (Tryz.isAgg3 _) rfl) rfl ?_
            refine WL.v (RV.eql rfl rfl) rfl ?_
            refine WL.v (RV.assign rfl) rfl ?_
            refine WL.nil ?_
            refine QF.seqNext ?_
            refine WC.ret ?_
            refine QF.done1 rfl rfl (⟨by rw [hz], hE1.trans hE3⟩)
      · skip
        refine WC.condF rfl (rfl) ?_
        refine WC.region ?_
        refine WL.v (RV.eql rfl rfl) rfl ?_
        refine WL.v (RV.assign rfl) rfl ?_
        refine WL.nil ?_
        refine QF.seqNext ?_
        refine WC.condF rfl (rfl) ?_
        refine WC.seq ?_
        refine WC.seq ?_
        refine WC.region ?_
        refine WL.v (RV.eql rfl rfl) rfl ?_
        refine WL.v (RV.assign rfl) rfl ?_
        refine WL.nil ?_
        refine QF.seqNext ?_
        refine WC.condF rfl (rfl) ?_
        refine WC.seq ?_
        refine WC.region ?_
        refine WL.v (RV.eql rfl rfl) rfl ?_
        refine WL.v (RV.assign rfl) rfl ?_
        refine WL.nil ?_
        refine QF.seqNext ?_
        refine WC.condF rfl (rfl) ?_
        refine WC.region ?_
        refine WL.v (RV.eql rfl rfl) rfl ?_
        refine WL.v (RV.assign rfl) rfl ?_
        refine WL.nil ?_
        refine QF.seqNext ?_
        refine WC.condF rfl (rfl) ?_
        refine WC.seq ?_
        refine WC.seq ?_
        refine WC.region ?_
        refine WL.v (RV.eql rfl rfl) rfl ?_
        refine WL.v (RV.assign rfl) rfl ?_
        refine WL.nil ?_
        refine QF.seqNext ?_
        refine WC.condF rfl (rfl) ?_
        refine WC.region ?_
        refine WL.v (RV.eql rfl rfl) rfl ?_
        refine WL.v (RV.assign rfl) rfl ?_
        refine WL.nil ?_
        refine QF.seqNext ?_
        refine WC.condF rfl (rfl) ?_
        refine WC.seq ?_
        refine WC.region ?_
        refine WL.v (RV.move rfl) rfl ?_
        refine WL.v (RV.neq rfl rfl) rfl ?_
        refine WL.nil ?_
        refine QF.seqNext ?_
        refine WC.cond rfl ?_ ?_
        · intro h2
          have h2' : (xs.length : Int) ≠ 1 := by simpa using h2
          have hz := fit_3 (k := 6) (c := c) (wi := wi) (kids := kids) (by decide) (by omega)
          refine WC.seq ?_
          refine WC.region ?_
          refine WL.v (RV.assign rfl) rfl ?_
          refine WL.nil ?_
          refine QF.seqNext ?_
          refine WC.ret ?_
          refine QF.blockRet ?_
          refine QF.thenRet ?_
          refine QF.done1 rfl rfl (⟨by rw [hz], hE⟩)
        · intro h2
          have h2' : (xs.length : Int) = 1 := by simpa using h2
          have hKK : ((((6 : Int) = 4 ∨ (6 : Int) = 5) ∧ 2 ≤ kids.length) ∨ (((6 : Int) = 6 ∨ (6 : Int) = 7 ∨ (6 : Int) = 8) ∧ kids.length = 1)) := .inr ⟨by decide, by omega⟩
          refine WC.skip ?_
          refine QF.blockNormal ?_
          refine QF.seqNext ?_
          refine WC.seq ?_
          refine WC.seq ?_
          refine WC.region ?_
          refine WL.v (RV.assign rfl) rfl ?_
          refine WL.nil ?_
          refine QF.seqNext ?_
          refine WC.block ?_
          refine WC.loop (fun y : Nat × World => [(2, .pointer (some ⟨xb, 0, none⟩)), (5, .int .i64 xs.length), (6, .int .i64 y.1)]) (fun y : Nat × World => y.2) (fun y : Nat × World => y.1 ≤ xs.length ∧ Ext w1 y.2 ∧ ∀ i, i < y.1 → fitsM (nth kids i) true = true) (fun y : Nat × World => xs.length - y.1) (0, w2) (⟨Nat.zero_le _, hE2, fun i hi => absurd hi (Nat.not_lt_zero i)⟩) ⟨rfl, rfl, rfl, trivial⟩ rfl ?_
          rintro ⟨i, w3⟩ ⟨hi, hE3, hall⟩
          dsimp only at hi hE3 hall ⊢
          have hs3 := hs.ext (hE1.trans hE3)
          refine WC.seq ?_
          refine WC.seq ?_
          refine WC.region ?_
          refine WL.v (RV.move rfl) rfl ?_
          refine WL.v (RV.move rfl) rfl ?_
          refine WL.v (RV.lss rfl rfl) rfl ?_
          refine WL.nil ?_
          refine QF.seqNext ?_
          refine WC.cond rfl ?_ ?_
          · intro hlt
            replace hlt : i < xs.length := by have := of_decide_eq_true hlt; omega
            have hkz := nszL_nth kids i (by omega)
            refine WC.skip ?_
            refine QF.seqNext ?_
            refine WC.seq ?_
            refine WC.block ?_
            refine WC.seq ?_
            refine WC.region ?_
            refine WL.v (RV.fieldAddr 2 Tryz.underlying62 rfl rfl (Tryz.sizeOf60 _) (by decide) rfl) rfl ?_
            refine WL.v (RV.load (by first | exact c2 _ hE3) (Tryz.isAgg60 _) rfl) rfl ?_
            refine WL.v (RV.move rfl) rfl ?_
            refine WL.v (RV.indexAddr (by first | exact hs3) Tryz.underlying60 (Tryz.sizeOf62 _) rfl rfl _ rfl (by omega)) rfl ?_
            refine WL.v (RV.loadAgg (us := encN (nth xs i)) (fun j u hu => hs3.cell hlt hu) (Tryz.isAgg62 _) (Tryz.sizeOf62 _) rfl) rfl ?_
            refine WL.call Tryz.call25 rfl (ref5Right_ret n (by omega) (nth kids i) (by omega) (nth xs i) w3 true ((hk i hlt).ext (hE1.trans hE3))) rfl ?_
            rintro u w4 ⟨rfl, hE4⟩
            refine WL.v (RV.not rfl) rfl ?_
            refine WL.nil ?_
            refine QF.seqNext ?_
            refine WC.cond rfl ?_ ?_
            · intro hy
              replace hy : fitsM (nth kids i) true = false := by simpa using hy
              have hz := fit_5 (k := 6) (c := c) (wi := wi) (show i < kids.length by omega) hy
              refine WC.seq ?_
              refine WC.region ?_
              refine WL.v (RV.assign rfl) rfl ?_
              refine WL.nil ?_
              refine QF.seqNext ?_
              refine WC.ret ?_
              refine QF.blockRet ?_
              refine QF.thenRet ?_
              refine QF.thenRet ?_
              refine QF.blockRet ?_
              refine QF.thenRet ?_
              refine QF.done1 rfl rfl (⟨by rw [hz], (hE1.trans hE3).trans hE4⟩)
            · intro hy
              replace hy : fitsM (nth kids i) true = true := by simpa using hy
              refine WC.skip ?_
              refine QF.blockNormal ?_
              refine QF.seqNext ?_
              refine WC.region ?_
              refine WL.v (RV.move rfl) rfl ?_
              refine WL.v (RV.add rfl rfl (Fit.i64 (by omega))) rfl ?_
              refine WL.v (RV.assign rfl) rfl ?_
              refine WL.nil ?_
              refine QF.next ((i + 1, w4)) (⟨hlt, hE3.trans hE4, fun j hj => (Nat.lt_succ_iff_lt_or_eq.1 hj).elim (hall j) (fun e => by rw [e]; exact hy)⟩) (by dsimp only; omega) ⟨rfl, rfl, rfl, trivial⟩ rfl
          · intro hge
            replace hge : xs.length ≤ i := by have := of_decide_eq_false hge; omega
            have hfl : fitsL kids = true := by
              rw [← fitsL_any, Bool.not_eq_true']
              exact anyN_false.2 fun j hj => by rw [hall j (by omega)]; rfl
            have hz := fit_4 (k := 6) (c := c) (wi := wi) hKK hxl2 hfl
            refine WC.exit ?_
            refine QF.thenExit ?_
            refine QF.thenExit ?_
            refine QF.blockHit ?_
            refine QF.seqNext ?_
            refine WC.seq ?_
            refine WC.region ?_
            refine WL.v (RV.fieldAddr 1 Tryz.underlying62 rfl rfl (Tryz.sizeOf3 _) (by decide) rfl) rfl ?_
            refine WL.v (RV.load (by first | exact c1 _ hE3) (Tryz.isAgg3 _) rfl) rfl ?_
            refine WL.v (RV.eql rfl rfl) rfl ?_
            refine WL.v (RV.assign rfl) rfl ?_
            refine WL.nil ?_
            refine QF.seqNext ?_
            refine WC.ret ?_
            refine QF.done1 rfl rfl (⟨by rw [hz], hE1.trans hE3⟩)
      · skip
        refine WC.condF rfl (rfl) ?_
        refine WC.region ?_
        refine WL.v (RV.eql rfl rfl) rfl ?_
        refine WL.v (RV.assign rfl) rfl ?_
        refine WL.nil ?_
        refine QF.seqNext ?_
        refine WC.condF rfl (rfl) ?_
        refine WC.seq ?_
        refine WC.seq ?_
        refine WC.region ?_
        refine WL.v (RV.eql rfl rfl) rfl ?_
        refine WL.v (RV.assign rfl) rfl ?_
        refine WL.nil ?_
        refine QF.seqNext ?_
        refine WC.condF rfl (rfl) ?_
        refine WC.seq ?_
        refine WC.region ?_
        refine WL.v (RV.eql rfl rfl) rfl ?_
        refine WL.v (RV.assign rfl) rfl ?_
        refine WL.nil ?_
        refine QF.seqNext ?_
        refine WC.condF rfl (rfl) ?_
        refine WC.region ?_
        refine WL.v (RV.eql rfl rfl) rfl ?_
        refine WL.v (RV.assign rfl) rfl ?_
        refine WL.nil ?_
        refine QF.seqNext ?_
        refine WC.condF rfl (rfl) ?_
        refine WC.seq ?_
        refine WC.seq ?_
        refine WC.region ?_
        refine WL.v (RV.eql rfl rfl) rfl ?_
        refine WL.v (RV.assign rfl) rfl ?_
        refine WL.nil ?_
        refine QF.seqNext ?_
        refine WC.condF rfl (rfl) ?_
        refine WC.region ?_
        refine WL.v (RV.eql rfl rfl) rfl ?_
        refine WL.v (RV.assign rfl) rfl ?_
        refine WL.nil ?_
        refine QF.seqNext ?_
        refine WC.condF rfl (rfl) ?_
        refine WC.seq ?_
        refine WC.region ?_
        refine WL.v (RV.move rfl) rfl ?_
        refine WL.v (RV.neq rfl rfl) rfl ?_
        refine WL.nil ?_
        refine QF.seqNext ?_
        refine WC.cond rfl ?_ ?_
        · intro h2
          have h2' : (xs.length : Int) ≠ 1 := by simpa using h2
          have hz := fit_3 (k := 7) (c := c) (wi := wi) (kids := kids) (by decide) (by omega)
          refine WC.seq ?_
          refine WC.region ?_
          refine WL.v (RV.assign rfl) rfl ?_
          refine WL.nil ?_
          refine QF.seqNext ?_
          refine WC.ret ?_
          refine QF.blockRet ?_
          refine QF.thenRet ?_
          refine QF.done1 rfl rfl (⟨by rw [hz], hE⟩)
        · intro h2
          have h2' : (xs.length : Int) = 1 := by simpa using h2
          have hKK : ((((7 : Int) = 4 ∨ (7 : Int) = 5) ∧ 2 ≤ kids.length) ∨ (((7 : Int) = 6 ∨ (7 : Int) = 7 ∨ (7 : Int) = 8) ∧ kids.length = 1)) := .inr ⟨by decide, by omega⟩
          refine WC.skip ?_
          refine QF.blockNormal ?_
          refine QF.seqNext ?_
          refine WC.seq ?_
          refine WC.seq ?_
          refine WC.region ?_
          refine WL.v (RV.assign rfl) rfl ?_
          refine WL.nil ?_
          refine QF.seqNext ?_
          refine WC.block ?_
          refine WC.loop (fun y : Nat × World => [(2, .pointer (some ⟨xb, 0, none⟩)), (5, .int .i64 xs.length), (6, .int .i64 y.1)]) (fun y : Nat × World => y.2) (fun y : Nat × World => y.1 ≤ xs.length ∧ Ext w1 y.2 ∧ ∀ i, i < y.1 → fitsM (nth kids i) true = true) (fun y : Nat × World => xs.length - y.1) (0, w2) (⟨Nat.zero_le _, hE2, fun i hi => absurd hi (Nat.not_lt_zero i)⟩) ⟨rfl, rfl, rfl, trivial⟩ rfl ?_
          rintro ⟨i, w3⟩ ⟨hi, hE3, hall⟩
          dsimp only at hi hE3 hall ⊢
          have hs3 := hs.ext (hE1.trans hE3)
          refine WC.seq ?_
          refine WC.seq ?_
          refine WC.region ?_
          refine WL.v (RV.move rfl) rfl ?_
          refine WL.v (RV.move rfl) rfl ?_
          refine WL.v (RV.lss rfl rfl) rfl ?_
          refine WL.nil ?_
          refine QF.seqNext ?_
          refine WC.cond rfl ?_ ?_
          · intro hlt
            replace hlt : i < xs.length := by have := of_decide_eq_true hlt; omega
            have hkz := nszL_nth kids i (by omega)
            refine WC.skip ?_
            refine QF.seqNext ?_
            refine WC.seq ?_
            refine WC.block ?_
            refine WC.seq ?_
            refine WC.region ?_
            refine WL.v (RV.fieldAddr 2 Tryz.underlying62 rfl rfl (Tryz.sizeOf60 _) (by decide) rfl) rfl ?_
            refine WL.v (RV.load (by first | exact c2 _ hE3) (Tryz.isAgg60 _) rfl) rfl ?_
            refine WL.v (RV.move rfl) rfl ?_
            refine WL.v (RV.indexAddr (by first | exact hs3) Tryz.underlying60 (Tryz.sizeOf62 _) rfl rfl _ rfl (by omega)) rfl ?_
            refine WL.v (RV.loadAgg (us := encN (nth xs i)) (fun j u hu => hs3.cell hlt hu) (Tryz.isAgg62 _) (Tryz.sizeOf62 _) rfl) rfl ?_
            refine WL.call Tryz.call25 rfl (ref5Right_ret n (by omega) (nth kids i) (by omega) (nth xs i) w3 true ((hk i hlt).ext (hE1.trans hE3))) rfl ?_
            rintro u w4 ⟨rfl, hE4⟩
            refine WL.v (RV.not rfl) rfl ?_
            refine WL.nil ?_
            refine QF.seqNext ?_
            refine WC.cond rfl ?_ ?_
            · intro hy
              replace hy : fitsM (nth kids i) true = false := by simpa using hy
              have hz := fit_5 (k := 7) (c := c) (wi := wi) (show i < kids.length by omega) hy
              refine WC.seq ?_
              refine WC.region ?_
              refine WL.v (RV.assign rfl) rfl ?_
              refine WL.nil ?_
              refine QF.seqNext ?_
              refine WC.ret ?_
              refine QF.blockRet ?_
              refine QF.thenRet ?_
              refine QF.thenRet ?_
              refine QF.blockRet ?_
              refine QF.thenRet ?_
              refine QF.done1 rfl rfl (⟨by rw [hz], (hE1.trans hE3).trans hE4⟩)
            · intro hy
              replace hy : fitsM (nth kids i) true = true := by simpa using hy
              refine WC.skip ?_
              refine QF.blockNormal ?_
              refine QF.seqNext ?_
              refine WC.region ?_
              refine WL.v (RV.move rfl) rfl ?_
              refine WL.v (RV.add rfl rfl (Fit.i64 (by omega))) rfl ?_
              refine WL.v (RV.assign rfl) rfl ?_
              refine WL.nil ?_
              refine QF.next ((i + 1, w4)) (⟨hlt, hE3.trans hE4, fun j hj => (Nat.lt_succ_iff_lt_or_eq.1 hj).elim (hall j) (fun e => by rw [e]; exact hy)⟩) (by dsimp only; omega) ⟨rfl, rfl, rfl, trivial⟩ rfl
          · intro hge
            replace hge : xs.length ≤ i := by have := of_decide_eq_false hge; omega
            have hfl : fitsL kids = true := by
              rw [← fitsL_any, Bool.not_eq_true']
              exact anyN_false.2 fun j hj => by rw [hall j (by omega)]; rfl
            have hz := fit_4 (k := 7) (c := c) (wi := wi) hKK hxl2 hfl
            refine WC.exit ?_
            refine QF.thenExit ?_
            refine QF.thenExit ?_
            refine QF.blockHit ?_
            refine QF.seqNext ?_
            refine WC.seq ?_
            refine WC.region ?_
            refine WL.v (RV.fieldAddr 1 Tryz.underlying62 rfl rfl (Tryz.sizeOf3 _) (by decide) rfl) rfl ?_
            refine WL.v (RV.load (by first | exact c1 _ hE3) (Tryz.isAgg3 _) rfl) rfl ?_
            refine WL.v (RV.eql rfl rfl) rfl ?_
            refine WL.v (RV.assign rfl) rfl ?_
            refine WL.nil ?_
            refine QF.seqNext ?_
            refine WC.ret ?_
            refine QF.done1 rfl rfl (⟨by rw [hz], hE1.trans hE3⟩)
      · skip
        refine WC.condF rfl (rfl) ?_
        refine WC.region ?_
        refine WL.v (RV.eql rfl rfl) rfl ?_
        refine WL.v (RV.assign rfl) rfl ?_
        refine WL.nil ?_
        refine QF.seqNext ?_
        refine WC.condF rfl (rfl) ?_
        refine WC.seq ?_
        refine WC.seq ?_
        refine WC.region ?_
        refine WL.v (RV.eql rfl rfl) rfl ?_
        refine WL.v (RV.assign rfl) rfl ?_
        refine WL.nil ?_
        refine QF.seqNext ?_
        refine WC.condF rfl (rfl) ?_
        refine WC.seq ?_
        refine WC.region ?_
        refine WL.v (RV.eql rfl rfl) rfl ?_
        refine WL.v (RV.assign rfl) rfl ?_
        refine WL.nil ?_
        refine QF.seqNext ?_
        refine WC.condF rfl (rfl) ?_
        refine WC.region ?_
        refine WL.v (RV.eql rfl rfl) rfl ?_
        refine WL.v (RV.assign rfl) rfl ?_
        refine WL.nil ?_
        refine QF.seqNext ?_
        refine WC.condF rfl (rfl) ?_
        refine WC.seq ?_
        refine WC.seq ?_
        refine WC.region ?_
        refine WL.v (RV.eql rfl rfl) rfl ?_
        refine WL.v (RV.assign rfl) rfl ?_
        refine WL.nil ?_
        refine QF.seqNext ?_
        refine WC.condF rfl (rfl) ?_
        refine WC.region ?_
        refine WL.v (RV.eql rfl rfl) rfl ?_
        refine WL.v (RV.assign rfl) rfl ?_
        refine WL.nil ?_
        refine QF.seqNext ?_
        refine WC.condF rfl (rfl) ?_
        refine WC.seq ?_
        refine WC.region ?_
        refine WL.v (RV.move rfl) rfl ?_
        refine WL.v (RV.neq rfl rfl) rfl ?_
        refine WL.nil ?_
        refine QF.seqNext ?_
        refine WC.cond rfl ?_ ?_
        · intro h2
          have h2' : (xs.length : Int) ≠ 1 := by simpa using h2
          have hz := fit_3 (k := 8) (c := c) (wi := wi) (kids := kids) (by decide) (by omega)
          refine WC.seq ?_
          refine WC.region ?_
          refine WL.v (RV.assign rfl) rfl ?_
          refine WL.nil ?_
          refine QF.seqNext ?_
          refine WC.ret ?_
          refine QF.blockRet ?_
          refine QF.thenRet ?_
          refine QF.done1 rfl rfl (⟨by rw [hz], hE⟩)
        · intro h2
          have h2' : (xs.length : Int) = 1 := by simpa using h2
          have hKK : ((((8 : Int) = 4 ∨ (8 : Int) = 5) ∧ 2 ≤ kids.length) ∨ (((8 : Int) = 6 ∨ (8 : Int) = 7 ∨ (8 : Int) = 8) ∧ kids.length = 1)) := .inr ⟨by decide, by omega⟩
          refine WC.skip ?_
          refine QF.blockNormal ?_
          refine QF.seqNext ?_
          refine WC.seq ?_
          refine WC.seq ?_
          refine WC.region ?_
          refine WL.v (RV.assign rfl) rfl ?_
          refine WL.nil ?_
          refine QF.seqNext ?_
          refine WC.block ?_
          refine WC.loop (fun y : Nat × World => [(2, .pointer (some ⟨xb, 0, none⟩)), (5, .int .i64 xs.length), (6, .int .i64 y.1)]) (fun y : Nat × World => y.2) (fun y : Nat × World => y.1 ≤ xs.length ∧ Ext w1 y.2 ∧ ∀ i, i < y.1 → fitsM (nth kids i) true = true) (fun y : Nat × World => xs.length - y.1) (0, w2) (⟨Nat.zero_le _, hE2, fun i hi => absurd hi (Nat.not_lt_zero i)⟩) ⟨rfl, rfl, rfl, trivial⟩ rfl ?_
          rintro ⟨i, w3⟩ ⟨hi, hE3, hall⟩
          dsimp only at hi hE3 hall ⊢
          have hs3 := hs.ext (hE1.trans hE3)
          refine WC.seq ?_
          refine WC.seq ?_
          refine WC.region ?_
          refine WL.v (RV.move rfl) rfl ?_
          refine WL.v (RV.move rfl) rfl ?_
          refine WL.v (RV.lss rfl rfl) rfl ?_
          refine WL.nil ?_
          refine QF.seqNext ?_
          refine WC.cond rfl ?_ ?_
          · intro hlt
            replace hlt : i < xs.length := by have := of_decide_eq_true hlt; omega
            have hkz := nszL_nth kids i (by omega)
            refine WC.skip ?_
            refine QF.seqNext ?_
            refine WC.seq ?_
            refine WC.block ?_
            refine WC.seq ?_
            refine WC.region ?_
            refine WL.v (RV.fieldAddr 2 Tryz.underlying62 rfl rfl (Tryz.sizeOf60 _) (by decide) rfl) rfl ?_
            refine WL.v (RV.load (by first | exact c2 _ hE3) (Tryz.isAgg60 _) rfl) rfl ?_
            refine WL.v (RV.move rfl) rfl ?_
            refine WL.v (RV.indexAddr (by first | exact hs3) Tryz.underlying60 (Tryz.sizeOf62 _) rfl rfl _ rfl (by omega)) rfl ?_
            refine WL.v (RV.loadAgg (us := encN (nth xs i)) (fun j u hu => hs3.cell hlt hu) (Tryz.isAgg62 _) (Tryz.sizeOf62 _) rfl) rfl ?_
            refine WL.call Tryz.call25 rfl (ref5Right_ret n (by omega) (nth kids i) (by omega) (nth xs i) w3 true ((hk i hlt).ext (hE1.trans hE3))) rfl ?_
            rintro u w4 ⟨rfl, hE4⟩
            refine WL.v (RV.not rfl) rfl ?_
            refine WL.nil ?_
            refine QF.seqNext ?_
            refine WC.cond rfl ?_ ?_
            · intro hy
              replace hy : fitsM (nth kids i) true = false := by simpa using hy
              have hz := fit_5 (k := 8) (c := c) (wi := wi) (show i < kids.length by omega) hy
              refine WC.seq ?_
              refine WC.region ?_
              refine WL.v (RV.assign rfl) rfl ?_
              refine WL.nil ?_
              refine QF.seqNext ?_
              refine WC.ret ?_
              refine QF.blockRet ?_
              refine QF.thenRet ?_
              refine QF.thenRet ?_
              refine QF.blockRet ?_
              refine QF.thenRet ?_
              refine QF.done1 rfl rfl (⟨by rw [hz], (hE1.trans hE3).trans hE4⟩)
            · intro hy
              replace hy : fitsM (nth kids i) true = true := by simpa using hy
              refine WC.skip ?_
              refine QF.blockNormal ?_
              refine QF.seqNext ?_
              refine WC.region ?_
              refine WL.v (RV.move rfl) rfl ?_
              refine WL.v (RV.add rfl rfl (Fit.i64 (by omega))) rfl ?_
              refine WL.v (RV.assign rfl) rfl ?_
              refine WL.nil ?_
              refine QF.next ((i + 1, w4)) (⟨hlt, hE3.trans hE4, fun j hj => (Nat.lt_succ_iff_lt_or_eq.1 hj).elim (hall j) (fun e => by rw [e]; exact hy)⟩) (by dsimp only; omega) ⟨rfl, rfl, rfl, trivial⟩ rfl
          · intro hge
            replace hge : xs.length ≤ i := by have := of_decide_eq_false hge; omega
            have hfl : fitsL kids = true := by
              rw [← fitsL_any, Bool.not_eq_true']
              exact anyN_false.2 fun j hj => by rw [hall j (by omega)]; rfl
            have hz := fit_4 (k := 8) (c := c) (wi := wi) hKK hxl2 hfl
            refine WC.exit ?_
            refine QF.thenExit ?_
            refine QF.thenExit ?_
            refine QF.blockHit ?_
            refine QF.seqNext ?_
            refine WC.seq ?_
            refine WC.region ?_
            refine WL.v (RV.fieldAddr 1 Tryz.underlying62 rfl rfl (Tryz.sizeOf3 _) (by decide) rfl) rfl ?_
            refine WL.v (RV.load (by first | exact c1 _ hE3) (Tryz.isAgg3 _) rfl) rfl ?_
            refine WL.v (RV.eql rfl rfl) rfl ?_
            refine WL.v (RV.assign rfl) rfl ?_
            refine WL.nil ?_
            refine QF.seqNext ?_
            refine WC.ret ?_
            refine QF.done1 rfl rfl (⟨by rw [hz], hE1.trans hE3⟩)
      · have hw : wi = false := by simpa using h9
        refine WC.condF rfl (rfl) ?_
        refine WC.region ?_
        refine WL.v (RV.eql rfl rfl) rfl ?_
        refine WL.v (RV.assign rfl) rfl ?_
        refine WL.nil ?_
        refine QF.seqNext ?_
        refine WC.condF rfl (rfl) ?_
        refine WC.seq ?_
        refine WC.seq ?_
        refine WC.region ?_
        refine WL.v (RV.eql rfl rfl) rfl ?_
        refine WL.v (RV.assign rfl) rfl ?_
        refine WL.nil ?_
        refine QF.seqNext ?_
        refine WC.condF rfl (rfl) ?_
        refine WC.seq ?_
        refine WC.region ?_
        refine WL.v (RV.eql rfl rfl) rfl ?_
        refine WL.v (RV.assign rfl) rfl ?_
        refine WL.nil ?_
        refine QF.seqNext ?_
        refine WC.condF rfl (rfl) ?_
        refine WC.region ?_
        refine WL.v (RV.eql rfl rfl) rfl ?_
        refine WL.v (RV.assign rfl) rfl ?_
        refine WL.nil ?_
        refine QF.seqNext ?_
        refine WC.condT rfl (rfl) ?_
        refine WC.seq ?_
        refine WC.region ?_
        refine WL.v (RV.move rfl) rfl ?_
        refine WL.v (RV.eql rfl rfl) rfl ?_
        refine WL.v (RV.move rfl) rfl ?_
        refine WL.andBS (fun w1 => _ = w1) ((c == 0)) 3 (rfl) rfl rfl rfl rfl rfl ?_ ?_
        · skip
          intro b1
          refine WL.on rfl ?_
          refine WL.v (RV.fieldAddr 1 Tryz.underlying62 rfl rfl (Tryz.sizeOf3 _) (by decide) rfl) rfl ?_
          refine WL.on rfl ?_
          refine WL.v (RV.load (by first | exact c1 _ hE2) (Tryz.isAgg3 _) rfl) rfl ?_
          refine WL.on rfl ?_
          refine WL.v (RV.eql rfl rfl) rfl ?_
          refine WL.nil ?_
          refine QF.andEnd (tA := 60) 4 (rfl) rfl rfl rfl (fun v hv => (Option.some.inj hv).symm.trans (congrArg Value.bool b1)) rfl
        rintro _ rfl
        have hz := fit_1 (k := 9) (c := c) (kids := kids) (wi := wi) (by first | exact .inl (by decide) | exact .inr ⟨rfl, hw⟩)
        rw [hl] at hz
        refine WL.v (RV.assign rfl) rfl ?_
        refine WL.nil ?_
        refine QF.seqNext ?_
        refine WC.ret ?_
        refine QF.blockRet ?_
        refine QF.thenRet ?_
        refine QF.done1 rfl rfl (⟨by rw [hz], hE⟩)
theorem wrong_of {t : Nd} (h : nsz t ≤ 2000) : rightM t = fitsM t false := by
  unfold rightM
  rw [decide_eq_true h]; rfl
theorem ref6Right_ret (li lk : List Int) (ts : List R3) (v : Value) (w : World) (h : Tx w v li lk ts) (hf : Few li lk ts) : Ret Tryz.prog 12 [v] w fun u w' => u = .bool (rightT li lk ts) ∧ Ext w w' := by
  obtain ⟨ig, kp, ru, xs, rfl, h1, h2, h3, h4, h5⟩ := h
  have o1 := h1.one
  have o2 := h2.one
  have o3 := h3.one
  obtain ⟨f1, f2, f3, f4⟩ := hf
  have hR : rightT li lk ts = (((decide ((xs.length : Int) ≤ 40) && risesM li) && risesM lk) && allN (fun i => ruleR (nth ts i)) xs.length) := by
    unfold rightT allR allN; rw [h4]
  obtain ⟨A, hA⟩ : ∃ A, A = ((decide ((xs.length : Int) ≤ 40) && risesM li) && risesM lk) := ⟨_, rfl⟩
  rw [← hA] at hR
  refine Ret.enter Tryz.func12 Tryz.ntmps12 rfl rfl ?_
  refine WC.seq ?_
  refine WC.region ?_
  refine WL.boxO (Rng.start w) 1 (by omega) rfl rfl ?_
  intro xb w1 O1 hx1 hU1 hR1 hE1
  have c0 : ∀ W, Ext w1 W → W.cell? ((⟨xb, 0, none⟩ : Addr).add 0) = some ig := fun W hE => hE.cell (hx1.cell 0 rfl)
  have c1 : ∀ W, Ext w1 W → W.cell? ((⟨xb, 0, none⟩ : Addr).add 1) = some kp := fun W hE => hE.cell (hx1.cell 1 rfl)
  have c2 : ∀ W, Ext w1 W → W.cell? ((⟨xb, 0, none⟩ : Addr).add 2) = some ru := fun W hE => hE.cell (hx1.cell 2 rfl)
  have g3 := h3.ext hE1
  refine WL.v (RV.assign rfl) rfl ?_
  refine WL.nil ?_
  refine QF.seqNext ?_
  refine WC.seq ?_
  refine WC.region ?_
  refine WL.v (RV.fieldAddr 2 Tryz.underlying34 rfl rfl (Tryz.sizeOf32 _) (by decide) rfl) rfl ?_
  refine WL.v (RV.load (by first | exact c2 _ (Ext.refl _)) (Tryz.isAgg32 _) rfl) rfl ?_
  refine WL.v (RV.len (by first | exact g3) Tryz.underlying32 rfl) rfl ?_
  refine WL.v (RV.leq rfl rfl) rfl ?_
  refine WL.v (RV.move rfl) rfl ?_
  refine WL.andBS (Ext w1) (risesM li) 3 (Ext.refl w1) rfl rfl rfl rfl rfl ?_ ?_
  · skip
    intro a1
    refine WL.on rfl ?_
    refine WL.v (RV.fieldAddr 0 Tryz.underlying34 rfl rfl (Tryz.sizeOf23 _) (by decide) rfl) rfl ?_
    refine WL.on rfl ?_
    refine WL.v (RV.load (by first | exact c0 _ (Ext.refl _)) (Tryz.isAgg23 _) rfl) rfl ?_
    refine WL.on rfl ?_
    refine WL.call Tryz.call24 rfl (refRises_ret li ig w1 (h1.ext hE1)) rfl ?_
    rintro u w2 ⟨rfl, hE2⟩
    refine WL.nil ?_
    refine QF.andEnd (tA := 10) 4 (hE2) rfl rfl rfl (fun v hv => (Option.some.inj hv).symm.trans (congrArg Value.bool a1)) rfl
  intro w2 hE2
  refine WL.v (RV.move rfl) rfl ?_
  refine WL.andBS (Ext w1) (risesM lk) 3 (hE2) rfl rfl rfl rfl rfl ?_ ?_
  · skip
    intro a2
    refine WL.on rfl ?_
    refine WL.v (RV.fieldAddr 1 Tryz.underlying34 rfl rfl (Tryz.sizeOf23 _) (by decide) rfl) rfl ?_
    refine WL.on rfl ?_
    refine WL.v (RV.load (by first | exact c1 _ hE2) (Tryz.isAgg23 _) rfl) rfl ?_
    refine WL.on rfl ?_
    refine WL.call Tryz.call24 rfl (refRises_ret lk kp _ (h2.ext (hE1.trans hE2))) rfl ?_
    rintro u w3 ⟨rfl, hE3⟩
    refine WL.nil ?_
    refine QF.andEnd (tA := 15) 4 (hE2.trans hE3) rfl rfl rfl (fun v hv => (Option.some.inj hv).symm.trans (congrArg Value.bool a2)) rfl
  intro w3 hE3'
  refine WL.v (RV.assign rfl) rfl ?_
  refine WL.nil ?_
  refine QF.seqNext ?_
  refine WC.seq ?_
  refine WC.seq ?_
  refine WC.region ?_
  refine WL.v (RV.assign rfl) rfl ?_
  refine WL.nil ?_
  refine QF.seqNext ?_
  refine WC.block ?_
  rw [← hA]
  refine WC.loop (fun y : Nat × Bool × World => [(1, .pointer (some ⟨xb, 0, none⟩)), (3, .bool y.2.1), (4, .int .i64 y.1)]) (fun y : Nat × Bool × World => y.2.2) (fun y : Nat × Bool × World => y.1 ≤ xs.length ∧ Ext w1 y.2.2 ∧ (y.2.1 = true → A = true ∧ ∀ j, j < y.1 → ruleR (nth ts j) = true) ∧ (y.2.1 = false → rightT li lk ts = false)) (fun y : Nat × Bool × World => xs.length - y.1) (0, A, w3) (⟨Nat.zero_le _, hE3', fun e => ⟨e, fun j hj => absurd hj (Nat.not_lt_zero j)⟩, fun e => by dsimp only at e; rw [hR, e]; rfl⟩) ⟨rfl, rfl, rfl, trivial⟩ rfl ?_
  rintro ⟨i, ok, w4⟩ ⟨hi, hE4, hT, hF⟩
  dsimp only at hi hE4 hT hF ⊢
  have g34 := g3.ext hE4
  refine WC.seq ?_
  refine WC.seq ?_
  refine WC.region ?_
  refine WL.v (RV.move rfl) rfl ?_
  refine WL.v (RV.fieldAddr 2 Tryz.underlying34 rfl rfl (Tryz.sizeOf32 _) (by decide) rfl) rfl ?_
  refine WL.v (RV.load (by first | exact c2 _ hE4) (Tryz.isAgg32 _) rfl) rfl ?_
  refine WL.v (RV.len (by first | exact g34) Tryz.underlying32 rfl) rfl ?_
  refine WL.v (RV.lss rfl rfl) rfl ?_
  refine WL.v (RV.move rfl) rfl ?_
  refine WL.andBS (fun w1 => _ = w1) (ok) 1 (rfl) rfl rfl rfl rfl rfl ?_ ?_
  · skip
    intro b1
    refine WL.on rfl ?_
    refine WL.v (RV.move rfl) rfl ?_
    refine WL.nil ?_
    refine QF.andEnd (tA := 25) 2 (rfl) rfl rfl rfl (fun v hv => (Option.some.inj hv).symm.trans (congrArg Value.bool b1)) rfl
  rintro _ rfl
  refine WL.nil ?_
  refine QF.seqNext ?_
  refine WC.cond rfl ?_ ?_
  · intro hc
    simp only [Bool.and_eq_true, decide_eq_true_eq] at hc
    obtain ⟨hlt, rfl⟩ := hc
    replace hlt : i < xs.length := by omega
    obtain ⟨hA1, hall⟩ := hT rfl
    have hrt := h5 i hlt
    have ox := encR_ones (b := (nth xs i).2.2) hrt.1.one hrt.2.1.one
    obtain ⟨z1, z2⟩ := f4 i (by omega)
    refine WC.skip ?_
    refine QF.seqNext ?_
    refine WC.seq ?_
    refine WC.block ?_
    refine WC.seq ?_
    refine WC.region ?_
    refine WL.v (RV.fieldAddr 2 Tryz.underlying34 rfl rfl (Tryz.sizeOf32 _) (by decide) rfl) rfl ?_
    refine WL.v (RV.load (by first | exact c2 _ hE4) (Tryz.isAgg32 _) rfl) rfl ?_
    refine WL.v (RV.move rfl) rfl ?_
    refine WL.v (RV.indexAddr (by first | exact g34) Tryz.underlying32 (Tryz.sizeOf64 _) rfl rfl _ rfl (by omega)) rfl ?_
    refine WL.v (RV.loadAgg (us := encR (nth xs i)) (fun j u hu => g34.cell hlt hu) (Tryz.isAgg64 _) (Tryz.sizeOf64 _) rfl) rfl ?_
    refine WL.allocO (Rng.start w4) 1 (by omega) (Tryz.zeroValue64 _) rfl ?_
    intro kb w5 O5 hk5 hU5 hR5 hE5
    refine WL.storeAgg (us := (encR (nth xs i)).toArray) hk5 rfl (Tryz.sizeOf64 _) (List.all_eq_true.2 ox) rfl rfl rfl ?_
    have hk6 := hk5.setRow (us := (encR (nth xs i)).toArray)
    have hE46 : Ext w4 (w5.setRow kb (encR (nth xs i)).toArray) := (hU5.trans (Upd.setRow (by decide) hk5.tag rfl)).ext
    generalize w5.setRow kb (encR (nth xs i)).toArray = w6 at *
    obtain ⟨lx, rx, _, _⟩ := rt_cells hk6
    have hE6 := (hE1.trans hE4).trans hE46
    refine WL.nil ?_
    refine QF.seqNext ?_
    refine WC.region ?_
    refine WL.v (RV.fieldAddr 0 Tryz.underlying64 rfl rfl (Tryz.sizeOf62 _) (by decide) rfl) rfl ?_
    refine WL.v (RV.loadAgg (us := encN (nth xs i).1) (lx _ (Ext.refl _)) (Tryz.isAgg62 _) (Tryz.sizeOf62 _) rfl) rfl ?_
    refine WL.call Tryz.call25 rfl (ref5Right_ret 2000 (Nat.le_refl _) (nth ts i).1 (by omega) (nth xs i).1 w6 false (hrt.1.ext hE6)) rfl ?_
    rintro u w7 ⟨rfl, hE7⟩
    rw [← wrong_of (t := (nth ts i).1) (by omega)]
    refine WL.v (RV.move rfl) rfl ?_
    refine WL.andBS (Ext w6) (rightM (nth ts i).2.1) 3 (hE7) rfl rfl rfl rfl rfl ?_ ?_
    · skip
      intro d1
      refine WL.on rfl ?_
      refine WL.v (RV.fieldAddr 3 Tryz.underlying64 rfl rfl (Tryz.sizeOf62 _) (by decide) rfl) rfl ?_
      refine WL.on rfl ?_
      refine WL.v (RV.loadAgg (us := encN (nth xs i).2.1) (rx _ hE7) (Tryz.isAgg62 _) (Tryz.sizeOf62 _) rfl) rfl ?_
      refine WL.on rfl ?_
      refine WL.call Tryz.call25 rfl (ref5Right_ret 2000 (Nat.le_refl _) (nth ts i).2.1 (by omega) (nth xs i).2.1 _ false (hrt.2.1.ext (hE6.trans hE7))) rfl ?_
      rintro u w8 ⟨rfl, hE8⟩
      rw [← wrong_of (t := (nth ts i).2.1) (by omega)]
      refine WL.nil ?_
      refine QF.andEnd (tA := 38) 4 (hE7.trans hE8) rfl rfl rfl (fun v hv => (Option.some.inj hv).symm.trans (congrArg Value.bool d1)) rfl
    intro w8 hE8
    refine WL.v (RV.move rfl) rfl ?_
    refine WL.andBS (Ext w6) ((looksM (nth ts i).2.1 == 0)) 4 (hE8) rfl rfl rfl rfl rfl ?_ ?_
    · skip
      intro d2
      have hr2 : rightM (nth ts i).2.1 = true := by simp only [Bool.and_eq_true] at d2; exact d2.2
      refine WL.on rfl ?_
      refine WL.v (RV.fieldAddr 3 Tryz.underlying64 rfl rfl (Tryz.sizeOf62 _) (by decide) rfl) rfl ?_
      refine WL.on rfl ?_
      refine WL.v (RV.loadAgg (us := encN (nth xs i).2.1) (rx _ hE8) (Tryz.isAgg62 _) (Tryz.sizeOf62 _) rfl) rfl ?_
      refine WL.on rfl ?_
      refine WL.call Tryz.call26 rfl (refWrong_ret (nth ts i).2.1 (nth xs i).2.1 _ (hrt.2.1.ext (hE6.trans hE8)) hr2) rfl ?_
      rintro u w9 ⟨rfl, hE9⟩
      refine WL.on rfl ?_
      refine WL.v (RV.eql rfl rfl) rfl ?_
      refine WL.nil ?_
      refine QF.andEnd (tA := 43) 5 (hE8.trans hE9) rfl rfl rfl (fun v hv => (Option.some.inj hv).symm.trans (congrArg Value.bool d2)) rfl
    intro w9 hE9
    refine WL.v (RV.assign rfl) rfl ?_
    refine WL.nil ?_
    refine QF.blockNormal ?_
    refine QF.seqNext ?_
    refine WC.region ?_
    refine WL.v (RV.move rfl) rfl ?_
    refine WL.v (RV.add rfl rfl (Fit.i64 (by omega))) rfl ?_
    refine WL.v (RV.assign rfl) rfl ?_
    refine WL.nil ?_
    refine QF.next ((i + 1, ruleR (nth ts i), w9)) (⟨hlt, (hE4.trans hE46).trans hE9, fun e => ⟨hA1, fun j hj => (Nat.lt_succ_iff_lt_or_eq.1 hj).elim (hall j) (fun q => by rw [q]; exact e)⟩, fun e => by rw [hR, allN_no hlt e, Bool.and_false]⟩) (by dsimp only; omega) ⟨rfl, rfl, rfl, trivial⟩ rfl
  · intro hc
    simp only [Bool.and_eq_false_iff, decide_eq_false_iff_not] at hc
    have hv : ok = rightT li lk ts := by
      cases ok with
      | false => exact (hF rfl).symm
      | true =>
        obtain ⟨hA1, hall⟩ := hT rfl
        have hge : xs.length ≤ i := by
          rcases hc with hc | hc
          · omega
          · cases hc
        rw [hR, hA1, allN_all fun j hj => hall j (by omega)]; rfl
    refine WC.exit ?_
    refine QF.thenExit ?_
    refine QF.thenExit ?_
    refine QF.blockHit ?_
    refine QF.seqNext ?_
    refine WC.seq ?_
    refine WC.region ?_
    refine WL.v (RV.move rfl) rfl ?_
    refine WL.v (RV.assign rfl) rfl ?_
    refine WL.nil ?_
    refine QF.seqNext ?_
    refine WC.ret ?_
    refine QF.done1 rfl rfl (⟨by rw [hv], hE1.trans hE4⟩)
end Go.Proofs.YtmohcfjopaccdaaGreatDoor
end
section
/- Packages virguleref04, virguleref05 and virguleref06, walked: Name, Print; brackets of a text. -/
namespace Go.Proofs.YtmohcfjopaccdaaGreatDoor
open Go.VL Go.Proofs
set_option maxRecDepth 10000

theorem refName_ret (c : Int) (w : World) : Ret Tryz.prog 51 [.int .i64 c] w fun v w' => v = .string (bs (nameM c)) ∧ Ext w w' := by
  refine Ret.enter Tryz.func51 Tryz.ntmps51 rfl rfl ?_
  refine WC.seq ?_
  refine WC.region ?_
  refine WL.v (RV.assign rfl) rfl ?_
  refine WL.nil ?_
  refine QF.seqNext ?_
  refine WC.seq ?_
  refine WC.seq ?_
  refine WC.region ?_
  refine WL.v (RV.move rfl) rfl ?_
  refine WL.v (RV.lss rfl rfl) rfl ?_
  refine WL.v (RV.move rfl) rfl ?_
  refine WL.orBS (fun w1 => _ = w1) (decide ((35 : Int) < c)) 2 (rfl) rfl rfl rfl rfl rfl ?_ ?_
  · skip
    intro a1
    refine WL.on rfl ?_
    refine WL.v (RV.move rfl) rfl ?_
    refine WL.on rfl ?_
    refine WL.v (RV.gtr rfl rfl) rfl ?_
    refine WL.nil ?_
    refine QF.andEnd (tA := 5) 3 (rfl) rfl rfl rfl (fun v hv => (Option.some.inj hv).symm.trans (congrArg Value.bool a1)) rfl
  rintro _ rfl
  refine WL.nil ?_
  refine QF.seqNext ?_
  refine WC.cond rfl ?_ ?_
  · intro hc
    simp only [Bool.or_eq_true, decide_eq_true_eq] at hc
    have hn : nameM c = [] := by unfold nameM; rw [if_neg (by omega)]
    refine WC.seq ?_
    refine WC.region ?_
    refine WL.v (RV.assign rfl) rfl ?_
    refine WL.nil ?_
    refine QF.seqNext ?_
    refine WC.ret ?_
    refine QF.thenRet ?_
    refine QF.done1 rfl rfl (⟨by rw [hn]; rfl, Ext.refl _⟩)
  · intro hc
    simp only [Bool.or_eq_false_iff, decide_eq_false_iff_not] at hc
    have hlt : c.toNat < namesL.length := by rw [namesL_len]; omega
    have hn : nameM c = nth namesL c.toNat := by unfold nameM; rw [if_pos (by omega)]
    refine WC.skip ?_
    refine QF.seqNext ?_
    refine WC.seq ?_
    refine WC.region ?_
    refine WL.buildSl Tryz.underlying44 (Tryz.sizeOf9 _) (Tryz.zeroValue9 _) encS1 namesL rfl rfl rfl rfl (by kernel_rfl) (by simp) rfl ?_
    intro sv w1 hsl hE1
    have m1 := hsl.ld hlt
    refine WL.v (RV.move rfl) rfl ?_
    refine WL.v (RV.indexAddr hsl Tryz.underlying44 (Tryz.sizeOf9 _) rfl rfl c.toNat (by omega) hlt) rfl ?_
    refine WL.v (RV.load (by first | exact m1) (Tryz.isAgg9 _) rfl) rfl ?_
    refine WL.v (RV.assign rfl) rfl ?_
    refine WL.nil ?_
    refine QF.seqNext ?_
    refine WC.ret ?_
    refine QF.done1 rfl rfl (⟨by rw [hn], hE1⟩)
theorem refClasses_ret (word : List UInt8) (l : List Int) (sv : Value) (w : World) (h : Sl encI 1 w sv l) (hw : word.length ≤ 100) (hl : l.length ≤ 1000000) : Ret Tryz.prog 31 [.string (bs word), sv] w fun v w' => v = .string (bs (classesM word l)) ∧ Ext w w' := by
  refine Ret.enter Tryz.func31 Tryz.ntmps31 rfl rfl ?_
  refine WC.seq ?_
  refine WC.region ?_
  refine WL.v (RV.assign rfl) rfl ?_
  refine WL.nil ?_
  refine QF.seqNext ?_
  refine WC.seq ?_
  refine WC.seq ?_
  refine WC.region ?_
  refine WL.v (RV.move rfl) rfl ?_
  refine WL.v (RV.len (by first | exact h) Tryz.underlying23 rfl) rfl ?_
  refine WL.v (RV.eql rfl rfl) rfl ?_
  refine WL.nil ?_
  refine QF.seqNext ?_
  by_cases h0 : l = []
  · skip
    refine WC.condT rfl ((by subst h0; rfl)) ?_
    refine WC.seq ?_
    refine WC.region ?_
    refine WL.v (RV.assign rfl) rfl ?_
    refine WL.nil ?_
    refine QF.seqNext ?_
    refine WC.ret ?_
    refine QF.thenRet ?_
    refine QF.done1 rfl rfl (⟨by unfold classesM; rw [if_pos h0]; rfl, Ext.refl _⟩)
  · skip
    refine WC.condF rfl ((by simpa using h0)) ?_
    refine WC.skip ?_
    refine QF.seqNext ?_
    refine WC.seq ?_
    refine WC.seq ?_
    refine WC.region ?_
    refine WL.v (RV.assign rfl) rfl ?_
    refine WL.nil ?_
    refine QF.seqNext ?_
    refine WC.block ?_
    refine WC.loop (fun x : Nat × World => [(0, .string (bs (accM clsM word l x.1))), (1, sv), (5, .int .i64 x.1)]) (fun x : Nat × World => x.2) (fun x : Nat × World => x.1 ≤ l.length ∧ Ext w x.2) (fun x : Nat × World => l.length - x.1) (0, w) (⟨Nat.zero_le _, Ext.refl _⟩) ⟨rfl, rfl, rfl, trivial⟩ rfl ?_
    rintro ⟨k, w1⟩ ⟨hk, hE⟩
    dsimp only at hk hE ⊢
    have h1 := h.ext hE
    have hal : (accM clsM word l k).length ≤ word.length + 11 * l.length := accM_len fun c _ => clsM_len c
    refine WC.seq ?_
    refine WC.seq ?_
    refine WC.region ?_
    refine WL.v (RV.move rfl) rfl ?_
    refine WL.v (RV.move rfl) rfl ?_
    refine WL.v (RV.len (by first | exact h1) Tryz.underlying23 rfl) rfl ?_
    refine WL.v (RV.lss rfl rfl) rfl ?_
    refine WL.nil ?_
    refine QF.seqNext ?_
    refine WC.cond rfl ?_ ?_
    · intro hlt
      replace hlt : k < l.length := by have := of_decide_eq_true hlt; omega
      have hnl := nameM_le (nth l k)
      refine WC.skip ?_
      refine QF.seqNext ?_
      refine WC.seq ?_
      refine WC.block ?_
      refine WC.region ?_
      refine WL.v (RV.move rfl) rfl ?_
      refine WL.v (RV.addS rfl rfl (by simp; omega)) rfl ?_
      refine WL.v (RV.move rfl) rfl ?_
      refine WL.v (RV.move rfl) rfl ?_
      refine WL.v (RV.indexAddr (by first | exact h1) Tryz.underlying23 (Tryz.sizeOf3 _) rfl rfl _ rfl (by omega)) rfl ?_
      refine WL.v (RV.load (by first | exact h1.ld hlt) (Tryz.isAgg3 _) rfl) rfl ?_
      refine WL.call Tryz.call51 rfl (refName_ret (nth l k) w1) rfl ?_
      rintro v w2 ⟨rfl, hE2⟩
      refine WL.v (RV.addS rfl rfl (by simp; omega)) rfl ?_
      refine WL.v (RV.assign rfl) rfl ?_
      refine WL.nil ?_
      refine QF.blockNormal ?_
      refine QF.seqNext ?_
      refine WC.region ?_
      refine WL.v (RV.move rfl) rfl ?_
      refine WL.v (RV.add rfl rfl (Fit.i64 (by omega))) rfl ?_
      refine WL.v (RV.assign rfl) rfl ?_
      refine WL.nil ?_
      rw [List.append_assoc, show accM clsM word l k ++ ([32] ++ nameM (nth l k)) = accM clsM word l (k + 1) from (accM_succ hlt).symm]
      refine QF.next ((k + 1, w2)) (⟨hlt, hE.trans hE2⟩) (by dsimp only; omega) ⟨rfl, rfl, rfl, trivial⟩ rfl
    · intro hge
      obtain rfl : k = l.length := by have := of_decide_eq_false hge; omega
      refine WC.exit ?_
      refine QF.thenExit ?_
      refine QF.thenExit ?_
      refine QF.blockHit ?_
      refine QF.seqNext ?_
      refine WC.seq ?_
      refine WC.region ?_
      refine WL.v (RV.move rfl) rfl ?_
      refine WL.v (RV.addS rfl rfl (by simp; omega)) rfl ?_
      refine WL.v (RV.assign rfl) rfl ?_
      refine WL.nil ?_
      refine QF.seqNext ?_
      refine WC.ret ?_
      refine QF.done1 rfl rfl (⟨by unfold classesM; rw [if_neg h0, accM_all], hE⟩)
/-! A tree's text, part by part. -/
def sepM (k : Int) : List UInt8 := if k = 4 then [32] else if k = 5 then [124] else []
def ksM (k : Int) : List Int := if k = 4 then [4, 5] else if k = 5 then [5] else [4, 5, 6, 7, 8]
def joinS (sep : List UInt8) : List (List UInt8) → List UInt8
  | [] => []
  | a :: r => a ++ r.flatMap fun x => sep ++ x
theorem joinS_snoc (sep : List UInt8) (l : List (List UInt8)) (x : List UInt8) (h : l ≠ []) : joinS sep (l ++ [x]) = joinS sep l ++ sep ++ x := by
  cases l with
  | nil => exact absurd rfl h
  | cons a r => simp [joinS]
def partM (k : Int) (kids : List Nd) (i : Nat) : List UInt8 := joinS (sepM k) ((kids.take i).map (toldM (ksM k)))
theorem partM_succ {k : Int} {kids : List Nd} {i : Nat} (h : i < kids.length) : partM k kids (i + 1) = (if 0 < i then partM k kids i ++ sepM k else []) ++ toldM (ksM k) (nth kids i) := by
  unfold partM
  rw [List.take_succ_eq_append_getElem h, List.map_append, List.map_singleton, nth_eq h]
  by_cases h0 : 0 < i
  · rw [if_pos h0, joinS_snoc _ _ _ (fun e => by have := congrArg List.length e; simp only [List.length_map, List.length_take, List.length_nil] at this; omega)]
  · obtain rfl : i = 0 := by omega
    rw [if_neg h0]; simp [joinS]
theorem textM_part {k c : Int} {kids : List Nd} (hk : (k = 4 ∨ k = 5) ∨ ((k = 6 ∨ k = 7 ∨ k = 8) ∧ kids.length = 1)) : textM (.mk k c kids) = partM k kids kids.length ++ (if 6 ≤ k then [nth [42, 43, 63] (k - 6).toNat] else []) := by
  unfold partM
  rw [List.take_length]
  rcases hk with (rfl | rfl) | ⟨hk, hl⟩
  · have e : textM (.mk 4 c kids) = joinM [32] (toldL [4, 5] kids) := rfl
    rw [e, toldL_map]
    cases kids <;> simp [joinM, joinS, sepM, ksM]
  · have e : textM (.mk 5 c kids) = joinM [124] (toldL [5] kids) := rfl
    rw [e, toldL_map]
    cases kids <;> simp [joinM, joinS, sepM, ksM]
  · obtain ⟨a, rfl⟩ := List.length_eq_one_iff.1 hl
    simp only [textM, toldL_map]
    rw [if_neg (by omega), if_neg (by omega), if_neg (by omega), if_neg (by omega), if_neg (by omega), if_neg (by omega), if_pos hk, if_pos (by omega)]
    rcases hk with rfl | rfl | rfl <;> simp [joinS, ksM, sepM]
theorem partM_len (k : Int) (kids : List Nd) (i : Nat) : (partM k kids i).length ≤ 14 * nszL kids + kids.length := by
  have h1 : ∀ (l : List Nd), (joinS (sepM k) (l.map (toldM (ksM k)))).length ≤ 14 * nszL l + l.length := fun l => by
    have h2 : ∀ (l : List Nd), ((l.map (toldM (ksM k))).flatMap fun x => sepM k ++ x).length ≤ 14 * nszL l + l.length := fun l => by
      induction l with
      | nil => simp
      | cons t r ih =>
        have h3 := toldM_len (ksM k) t
        have h4 : (sepM k).length ≤ 1 := by unfold sepM; (repeat' split) <;> simp
        simp only [List.map_cons, List.flatMap_cons, List.length_append, nszL, List.length_cons] at ih ⊢
        omega
    cases l with
    | nil => simp [joinS]
    | cons t r =>
      have h3 := toldM_len (ksM k) t
      have h4 := h2 r
      simp only [List.map_cons, joinS, List.length_append, nszL, List.length_cons] at h4 ⊢
      omega
  have h5 := h1 (kids.take i)
  have h6 := nszL_take kids i
  have h7 : (kids.take i).length ≤ kids.length := by simp; omega
  unfold partM
  omega
/-- Does a part stand in brackets? -/
def brkM (k kk : Int) : Bool := ((kk == 5) || ((kk == 4) && (k != 5))) || (decide (6 ≤ kk) && decide (6 ≤ k))
theorem brkM_told {k : Int} {t : Nd} (hk : 4 ≤ k ∧ k ≤ 8) (ht : t.kind ≤ 8) : toldM (ksM k) t = if brkM k t.kind = true then [40] ++ textM t ++ [41] else textM t := by
  have hiff : t.kind ∈ ksM k ↔ brkM k t.kind = true := by
    unfold brkM ksM
    simp only [Bool.or_eq_true, Bool.and_eq_true, beq_iff_eq, bne_iff_ne, decide_eq_true_eq]
    split
    · simp; omega
    · split
      · simp; omega
      · simp; omega
  unfold toldM
  by_cases h : t.kind ∈ ksM k
  · rw [if_pos h, if_pos (hiff.1 h)]; rfl
  · rw [if_neg h, if_neg (fun e => h (hiff.2 e))]
end Go.Proofs.YtmohcfjopaccdaaGreatDoor
end
section
/- Package virguleref05, walked: Print. -/
namespace Go.Proofs.YtmohcfjopaccdaaGreatDoor
open Go.VL Go.Proofs
set_option maxRecDepth 10000

theorem opS (k : Int) (h : k = 6 ∨ k = 7 ∨ k = 8) : (([42, 43, 63] : List UInt8).take ((k - 6).toNat + 1)).drop (k - 6).toNat = [nth [42, 43, 63] (k - 6).toNat] := by
  rcases h with rfl | rfl | rfl
  · simp [nth_cons0]
  · simp [nth1_3]
  · simp [nth2_3]
theorem refPrint_ret : ∀ (n : Nat), n ≤ 2000 → ∀ (t : Nd), nsz t ≤ n → (∃ wi, fitsM t wi = true) → ∀ (x : N3) (w : World), Nt (fun _ => 0) w t x → Ret Tryz.prog 32 [nv x] w fun v w' => v = .string (bs (textM t)) ∧ Ext w w'
  | 0, _, t, hn, _ => by have := nsz_pos t; omega
  | n + 1, hn2, .mk k c kids, hn, ⟨wi, hfit⟩ => by
    intro x w h
    have hx0 := h.ones
    obtain ⟨xs, hs, hf, hl, hk⟩ := h.kids
    simp only [Nd.kids] at hl hk
    simp only [nsz] at hn
    simp only [fitsM, Bool.and_eq_true] at hfit
    obtain ⟨hhead, hkids⟩ := hfit
    have hcs := head_cases hhead
    have hkl := nszL_len kids
    have hlen := hs.len_le
    generalize x.2.2 = sv at *
    subst hx0
    simp only [Nd.kind, Nd.cls]
    have hn1 := nameM_le c
    refine Ret.enter Tryz.func32 Tryz.ntmps32 rfl rfl ?_
    refine WC.seq ?_
    refine WC.region ?_
    refine WL.boxO (Rng.start w) 1 (by omega) rfl rfl ?_
    intro xb w1 O1 hx1 hU1 hR1 hE1
    have c0 : w1.cell? ((⟨xb, 0, none⟩ : Addr).add 0) = some (.int .i64 k) := hx1.cell 0 rfl
    have c1 : w1.cell? ((⟨xb, 0, none⟩ : Addr).add 1) = some (.int .i64 c) := hx1.cell 1 rfl
    have c2 : w1.cell? ((⟨xb, 0, none⟩ : Addr).add 2) = some sv := hx1.cell 2 rfl
    have hs1 := hs.ext hE1
    refine WL.v (RV.assign rfl) rfl ?_
    refine WL.nil ?_
    refine QF.seqNext ?_
    refine WC.seq ?_
    refine WC.seq ?_
    refine WC.region ?_
    refine WL.v (RV.fieldAddr 0 Tryz.underlying62 rfl rfl (Tryz.sizeOf3 _) (by decide) rfl) rfl ?_
    refine WL.v (RV.load (by first | exact c0 | exact c1 | exact c2) (Tryz.isAgg3 _) rfl) rfl ?_
    refine WL.nil ?_
    refine QF.seqNext ?_
    refine WC.block ?_
    refine WC.seq ?_
    refine WC.region ?_
    refine WL.v (RV.eql rfl rfl) rfl ?_
    refine WL.v (RV.assign rfl) rfl ?_
    refine WL.nil ?_
    refine QF.seqNext ?_
    by_cases hbig : k = 4 ∨ k = 5 ∨ k = 6 ∨ k = 7 ∨ k = 8
    · have hk48 : 4 ≤ k ∧ k ≤ 8 := by omega
      have hcase : (k = 4 ∨ k = 5) ∨ ((k = 6 ∨ k = 7 ∨ k = 8) ∧ kids.length = 1) := by omega
      refine WC.condF rfl ((beq_eq_false_iff_ne.2 (by omega))) ?_
      refine WC.seq ?_
      refine WC.region ?_
      refine WL.v (RV.eql rfl rfl) rfl ?_
      refine WL.v (RV.assign rfl) rfl ?_
      refine WL.nil ?_
      refine QF.seqNext ?_
      refine WC.condF rfl ((beq_eq_false_iff_ne.2 (by omega))) ?_
      refine WC.seq ?_
      refine WC.region ?_
      refine WL.v (RV.eql rfl rfl) rfl ?_
      refine WL.v (RV.assign rfl) rfl ?_
      refine WL.nil ?_
      refine QF.seqNext ?_
      refine WC.condF rfl ((beq_eq_false_iff_ne.2 (by omega))) ?_
      refine WC.seq ?_
      refine WC.region ?_
      refine WL.v (RV.eql rfl rfl) rfl ?_
      refine WL.v (RV.assign rfl) rfl ?_
      refine WL.nil ?_
      refine QF.seqNext ?_
      refine WC.condF rfl ((beq_eq_false_iff_ne.2 (by omega))) ?_
      refine WC.seq ?_
      refine WC.region ?_
      refine WL.v (RV.eql rfl rfl) rfl ?_
      refine WL.v (RV.assign rfl) rfl ?_
      refine WL.nil ?_
      refine QF.seqNext ?_
      refine WC.condF rfl ((beq_eq_false_iff_ne.2 (by omega))) ?_
      refine WC.skip ?_
      refine QF.blockNormal ?_
      refine QF.seqNext ?_
      refine WC.seq ?_
      refine WC.region ?_
      refine WL.v (RV.assign rfl) rfl ?_
      refine WL.nil ?_
      refine QF.seqNext ?_
      refine WC.seq ?_
      refine WC.seq ?_
      refine WC.region ?_
      refine WL.v (RV.assign rfl) rfl ?_
      refine WL.nil ?_
      refine QF.seqNext ?_
      refine WC.block ?_
      refine WC.loop (fun y : Nat × World => [(1, .pointer (some ⟨xb, 0, none⟩)), (3, .string (bs (partM k kids y.1))), (4, .int .i64 y.1)]) (fun y : Nat × World => y.2) (fun y : Nat × World => y.1 ≤ xs.length ∧ Ext w1 y.2) (fun y : Nat × World => xs.length - y.1) (0, w1) (⟨Nat.zero_le _, Ext.refl _⟩) ⟨rfl, rfl, rfl, trivial⟩ rfl ?_
      rintro ⟨i, w2⟩ ⟨hi, hE2⟩
      dsimp only at hi hE2 ⊢
      have hs2 := hs1.ext hE2
      have d0 := hE2.cell c0
      have d2 := hE2.cell c2
      have hpl := partM_len k kids i
      refine WC.seq ?_
      refine WC.seq ?_
      refine WC.region ?_
      refine WL.v (RV.move rfl) rfl ?_
      refine WL.v (RV.fieldAddr 2 Tryz.underlying62 rfl rfl (Tryz.sizeOf60 _) (by decide) rfl) rfl ?_
      refine WL.v (RV.load (by first | exact d2) (Tryz.isAgg60 _) rfl) rfl ?_
      refine WL.v (RV.len (by first | exact hs2) Tryz.underlying60 rfl) rfl ?_
      refine WL.v (RV.lss rfl rfl) rfl ?_
      refine WL.nil ?_
      refine QF.seqNext ?_
      refine WC.cond rfl ?_ ?_
      · intro hlt
        replace hlt : i < xs.length := by have := of_decide_eq_true hlt; omega
        have hkz := nszL_nth kids i (by omega)
        have hkn := (hk i hlt).ext (hE1.trans hE2)
        have hmem : nth kids i ∈ kids := by rw [nth_eq (show i < kids.length by omega)]; exact List.getElem_mem _
        have hkf := fitsL_mem kids hkids (nth kids i) hmem
        have hk8 : (nth kids i).kind ≤ 8 := by
          have hq := hkf
          generalize nth kids i = t at hq ⊢
          obtain ⟨tk, tc, tl⟩ := t
          simp only [fitsM, Bool.and_eq_true] at hq
          have := head_cases hq.1
          simp only [Bool.true_eq_false, and_false, or_false] at this
          simp only [Nd.kind]
          omega
        have hbt := brkM_told (t := nth kids i) hk48 hk8
        have hpl2 := partM_len k kids (i + 1)
        have hps := partM_succ (k := k) (show i < kids.length by omega)
        have htx := textM_len (nth kids i)
        obtain ⟨kk, hkk⟩ : ∃ kk, kk = (nth kids i).kind := ⟨_, rfl⟩
        rw [← hkk] at hbt
        have mk : w2.cell? ((adr sv 3 i).add 0) = some (.int .i64 kk) := by
          have := hs2.cell (i := i) (j := 0) hlt rfl
          rw [hkn.kind, ← hkk] at this
          exact this
        refine WC.skip ?_
        refine QF.seqNext ?_
        refine WC.seq ?_
        refine WC.block ?_
        refine WC.seq ?_
        refine WC.region ?_
        refine WL.v (RV.fieldAddr 2 Tryz.underlying62 rfl rfl (Tryz.sizeOf60 _) (by decide) rfl) rfl ?_
        refine WL.v (RV.load (by first | exact d2 | exact mk | exact d0) (Tryz.isAgg60 _) rfl) rfl ?_
        refine WL.v (RV.move rfl) rfl ?_
        refine WL.v (RV.indexAddr (by first | exact hs2) Tryz.underlying60 (Tryz.sizeOf62 _) rfl rfl _ rfl (by omega)) rfl ?_
        refine WL.v (RV.fieldAddr 0 Tryz.underlying62 rfl rfl (Tryz.sizeOf3 _) (by decide) rfl) rfl ?_
        refine WL.v (RV.load (by first | exact d2 | exact mk | exact d0) (Tryz.isAgg3 _) rfl) rfl ?_
        refine WL.v (RV.assign rfl) rfl ?_
        refine WL.nil ?_
        refine QF.seqNext ?_
        refine WC.seq ?_
        refine WC.region ?_
        refine WL.v (RV.fieldAddr 2 Tryz.underlying62 rfl rfl (Tryz.sizeOf60 _) (by decide) rfl) rfl ?_
        refine WL.v (RV.load (by first | exact d2 | exact mk | exact d0) (Tryz.isAgg60 _) rfl) rfl ?_
        refine WL.v (RV.move rfl) rfl ?_
        refine WL.v (RV.indexAddr (by first | exact hs2) Tryz.underlying60 (Tryz.sizeOf62 _) rfl rfl _ rfl (by omega)) rfl ?_
        refine WL.v (RV.loadAgg (us := encN (nth xs i)) (fun j u hu => hs2.cell hlt hu) (Tryz.isAgg62 _) (Tryz.sizeOf62 _) rfl) rfl ?_
        refine WL.call Tryz.call32 rfl (refPrint_ret n (by omega) (nth kids i) (by omega) ⟨true, hkf⟩ (nth xs i) w2 hkn) rfl ?_
        rintro v w3 ⟨rfl, hE3⟩
        have e0 := hE3.cell d0
        refine WL.v (RV.assign rfl) rfl ?_
        refine WL.nil ?_
        refine QF.seqNext ?_
        refine WC.seq ?_
        refine WC.seq ?_
        refine WC.region ?_
        refine WL.v (RV.move rfl) rfl ?_
        refine WL.v (RV.eql rfl rfl) rfl ?_
        refine WL.v (RV.move rfl) rfl ?_
        refine WL.orBS (fun w1 => _ = w1) (((kk == 4) && (k != 5))) 7 (rfl) rfl rfl rfl rfl rfl ?_ ?_
        · skip
          intro a1
          refine WL.on rfl ?_
          refine WL.v (RV.move rfl) rfl ?_
          refine WL.on rfl ?_
          refine WL.v (RV.eql rfl rfl) rfl ?_
          refine WL.on rfl ?_
          refine WL.v (RV.move rfl) rfl ?_
          cases h4 : (kk == 4) with
          | true =>
            refine WL.know (d := 50) rfl (b' := true) (rfl) ?_
            refine WL.on rfl ?_
            refine WL.v (RV.fieldAddr 0 Tryz.underlying62 rfl rfl (Tryz.sizeOf3 _) (by decide) rfl) rfl ?_
            refine WL.on rfl ?_
            refine WL.v (RV.load (by first | exact e0) (Tryz.isAgg3 _) rfl) rfl ?_
            refine WL.on rfl ?_
            refine WL.v (RV.neq rfl rfl) rfl ?_
            refine WL.on rfl ?_
            refine WL.v (RV.pickT rfl rfl) rfl ?_
            refine WL.nil ?_
            refine QF.andEnd (tA := 47) 9 (rfl) rfl rfl rfl (fun v hv => (Option.some.inj hv).symm.trans (congrArg Value.bool a1)) rfl
          | false =>
            refine WL.know (d := 50) rfl (b' := false) (rfl) ?_
            refine WL.off rfl rfl rfl ?_
            refine WL.off rfl rfl rfl ?_
            refine WL.off rfl rfl rfl ?_
            refine WL.on rfl ?_
            refine WL.v (RV.pickF rfl rfl) rfl ?_
            refine WL.nil ?_
            refine QF.andEnd (tA := 47) 9 (rfl) rfl rfl rfl (fun v hv => (Option.some.inj hv).symm.trans (congrArg Value.bool a1)) rfl
        rintro _ rfl
        refine WL.v (RV.move rfl) rfl ?_
        refine WL.orBS (fun w1 => _ = w1) ((decide (6 ≤ kk) && decide (6 ≤ k))) 7 (rfl) rfl rfl rfl rfl rfl ?_ ?_
        · skip
          intro a2
          refine WL.on rfl ?_
          refine WL.v (RV.move rfl) rfl ?_
          refine WL.on rfl ?_
          refine WL.v (RV.geq rfl rfl) rfl ?_
          refine WL.on rfl ?_
          refine WL.v (RV.move rfl) rfl ?_
          cases h6 : decide (6 ≤ kk) with
          | true =>
            refine WL.know (d := 59) rfl (b' := true) (rfl) ?_
            refine WL.on rfl ?_
            refine WL.v (RV.fieldAddr 0 Tryz.underlying62 rfl rfl (Tryz.sizeOf3 _) (by decide) rfl) rfl ?_
            refine WL.on rfl ?_
            refine WL.v (RV.load (by first | exact e0) (Tryz.isAgg3 _) rfl) rfl ?_
            refine WL.on rfl ?_
            refine WL.v (RV.geq rfl rfl) rfl ?_
            refine WL.on rfl ?_
            refine WL.v (RV.pickT rfl rfl) rfl ?_
            refine WL.nil ?_
            refine QF.andEnd (tA := 56) 9 (rfl) rfl rfl rfl (fun v hv => (Option.some.inj hv).symm.trans (congrArg Value.bool a2)) rfl
          | false =>
            refine WL.know (d := 59) rfl (b' := false) (rfl) ?_
            refine WL.off rfl rfl rfl ?_
            refine WL.off rfl rfl rfl ?_
            refine WL.off rfl rfl rfl ?_
            refine WL.on rfl ?_
            refine WL.v (RV.pickF rfl rfl) rfl ?_
            refine WL.nil ?_
            refine QF.andEnd (tA := 56) 9 (rfl) rfl rfl rfl (fun v hv => (Option.some.inj hv).symm.trans (congrArg Value.bool a2)) rfl
        rintro _ rfl
        refine WL.nil ?_
        refine QF.seqNext ?_
        refine WC.mid (fun z : Unit => [(1, .pointer (some ⟨xb, 0, none⟩)), (3, .string (bs (partM k kids i))), (4, .int .i64 i), (6, .string (bs (toldM (ksM k) (nth kids i))))]) (fun z : Unit => w3) (fun z : Unit => z = ()) ?_ ?_
        · intro hN
          refine WC.cond rfl ?_ ?_
          · intro hb
            have e : toldM (ksM k) (nth kids i) = [40] ++ textM (nth kids i) ++ [41] := by rw [hbt, if_pos (show brkM k kk = true from hb)]
            refine WC.region ?_
            refine WL.v (RV.move rfl) rfl ?_
            refine WL.v (RV.addS rfl rfl (by simp; omega)) rfl ?_
            refine WL.v (RV.addS rfl rfl (by simp; omega)) rfl ?_
            refine WL.v (RV.assign rfl) rfl ?_
            refine WL.nil ?_
            rw [← e]
            exact QF.of (hN (()) (rfl)) ⟨rfl, rfl, rfl, rfl, trivial⟩ rfl
          · intro hb
            have e : toldM (ksM k) (nth kids i) = textM (nth kids i) := by rw [hbt, if_neg (by rw [show brkM k kk = false from hb]; decide)]
            refine WC.skip ?_
            rw [← e]
            exact QF.of (hN (()) (rfl)) ⟨rfl, rfl, rfl, rfl, trivial⟩ rfl
        · rintro ⟨⟩ _
          refine QF.seqNext ?_
          have htl : (toldM (ksM k) (nth kids i)).length ≤ 14 * nsz (nth kids i) := toldM_len _ _
          generalize toldM (ksM k) (nth kids i) = tm at *
          generalize hpa : partM k kids i = pa at *
          obtain ⟨s1, hs1d⟩ : ∃ s1, s1 = if (decide ((0 : Int) < (i : Int)) && (k == 4)) = true then pa ++ [32] else pa := ⟨_, rfl⟩
          obtain ⟨s2, hs2d⟩ : ∃ s2, s2 = if (decide ((0 : Int) < (i : Int)) && (k == 5)) = true then s1 ++ [124] else s1 := ⟨_, rfl⟩
          have hl1 : s1.length ≤ pa.length + 1 := by rw [hs1d]; split <;> (try simp only [List.length_append, List.length_singleton]) <;> omega
          have hl2 : s2.length ≤ pa.length + 2 := by rw [hs2d]; split <;> (try simp only [List.length_append, List.length_singleton]) <;> omega
          have hs2e : s2 = if 0 < i then pa ++ sepM k else [] := by
            by_cases h0 : 0 < i
            · rw [hs2d, hs1d, if_pos h0, decide_eq_true (show (0 : Int) < (i : Int) by omega)]
              unfold sepM
              by_cases h4 : k = 4
              · subst h4; rfl
              · rw [beq_eq_false_iff_ne.2 h4, if_neg h4]
                by_cases h5 : k = 5
                · subst h5; rfl
                · rw [beq_eq_false_iff_ne.2 h5, if_neg h5]; simp
            · obtain rfl : i = 0 := by omega
              rw [hs2d, hs1d]
              simp
              rw [← hpa]; simp [partM, joinS]
          refine WC.seq ?_
          refine WC.seq ?_
          refine WC.region ?_
          refine WL.v (RV.move rfl) rfl ?_
          refine WL.v (RV.gtr rfl rfl) rfl ?_
          refine WL.v (RV.move rfl) rfl ?_
          refine WL.andBS (fun w1 => _ = w1) ((k == 4)) 3 (rfl) rfl rfl rfl rfl rfl ?_ ?_
          · skip
            intro b1
            refine WL.on rfl ?_
            refine WL.v (RV.fieldAddr 0 Tryz.underlying62 rfl rfl (Tryz.sizeOf3 _) (by decide) rfl) rfl ?_
            refine WL.on rfl ?_
            refine WL.v (RV.load (by first | exact e0) (Tryz.isAgg3 _) rfl) rfl ?_
            refine WL.on rfl ?_
            refine WL.v (RV.eql rfl rfl) rfl ?_
            refine WL.nil ?_
            refine QF.andEnd (tA := 70) 4 (rfl) rfl rfl rfl (fun v hv => (Option.some.inj hv).symm.trans (congrArg Value.bool b1)) rfl
          rintro _ rfl
          refine WL.nil ?_
          refine QF.seqNext ?_
          refine WC.mid (fun z : Unit => [(1, .pointer (some ⟨xb, 0, none⟩)), (3, .string (bs s1)), (4, .int .i64 i), (6, .string (bs tm))]) (fun z : Unit => w3) (fun z : Unit => z = ()) ?_ ?_
          · intro hN
            refine WC.cond rfl ?_ ?_
            · intro hb
              rw [if_pos hb] at hs1d
              refine WC.region ?_
              refine WL.v (RV.move rfl) rfl ?_
              refine WL.v (RV.addS rfl rfl (by simp; omega)) rfl ?_
              refine WL.v (RV.assign rfl) rfl ?_
              refine WL.nil ?_
              rw [← hs1d]
              exact QF.of (hN (()) (rfl)) ⟨rfl, rfl, rfl, rfl, trivial⟩ rfl
            · intro hb
              rw [if_neg (by rw [hb]; decide)] at hs1d
              refine WC.skip ?_
              rw [← hs1d]
              exact QF.of (hN (()) (rfl)) ⟨rfl, rfl, rfl, rfl, trivial⟩ rfl
          · rintro ⟨⟩ _
            refine QF.seqNext ?_
            refine WC.seq ?_
            refine WC.seq ?_
            refine WC.region ?_
            refine WL.v (RV.move rfl) rfl ?_
            refine WL.v (RV.gtr rfl rfl) rfl ?_
            refine WL.v (RV.move rfl) rfl ?_
            refine WL.andBS (fun w1 => _ = w1) ((k == 5)) 3 (rfl) rfl rfl rfl rfl rfl ?_ ?_
            · skip
              intro b2
              refine WL.on rfl ?_
              refine WL.v (RV.fieldAddr 0 Tryz.underlying62 rfl rfl (Tryz.sizeOf3 _) (by decide) rfl) rfl ?_
              refine WL.on rfl ?_
              refine WL.v (RV.load (by first | exact e0) (Tryz.isAgg3 _) rfl) rfl ?_
              refine WL.on rfl ?_
              refine WL.v (RV.eql rfl rfl) rfl ?_
              refine WL.nil ?_
              refine QF.andEnd (tA := 79) 4 (rfl) rfl rfl rfl (fun v hv => (Option.some.inj hv).symm.trans (congrArg Value.bool b2)) rfl
            rintro _ rfl
            refine WL.nil ?_
            refine QF.seqNext ?_
            refine WC.mid (fun z : Unit => [(1, .pointer (some ⟨xb, 0, none⟩)), (3, .string (bs s2)), (4, .int .i64 i), (6, .string (bs tm))]) (fun z : Unit => w3) (fun z : Unit => z = ()) ?_ ?_
            · intro hN
              refine WC.cond rfl ?_ ?_
              · intro hb
                rw [if_pos hb] at hs2d
                refine WC.region ?_
                refine WL.v (RV.move rfl) rfl ?_
                refine WL.v (RV.addS rfl rfl (by simp; omega)) rfl ?_
                refine WL.v (RV.assign rfl) rfl ?_
                refine WL.nil ?_
                rw [← hs2d]
                exact QF.of (hN (()) (rfl)) ⟨rfl, rfl, rfl, rfl, trivial⟩ rfl
              · intro hb
                rw [if_neg (by rw [hb]; decide)] at hs2d
                refine WC.skip ?_
                rw [← hs2d]
                exact QF.of (hN (()) (rfl)) ⟨rfl, rfl, rfl, rfl, trivial⟩ rfl
            · rintro ⟨⟩ _
              refine QF.seqNext ?_
              rw [← hs2e] at hps
              refine WC.region ?_
              refine WL.v (RV.move rfl) rfl ?_
              refine WL.v (RV.move rfl) rfl ?_
              refine WL.v (RV.addS rfl rfl (by omega)) rfl ?_
              refine WL.v (RV.assign rfl) rfl ?_
              refine WL.nil ?_
              refine QF.blockNormal ?_
              refine QF.seqNext ?_
              refine WC.region ?_
              refine WL.v (RV.move rfl) rfl ?_
              refine WL.v (RV.add rfl rfl (Fit.i64 (by omega))) rfl ?_
              refine WL.v (RV.assign rfl) rfl ?_
              refine WL.nil ?_
              rw [← hps]
              refine QF.next ((i + 1, w3)) (⟨hlt, hE2.trans hE3⟩) (by dsimp only; omega) ⟨rfl, rfl, rfl, trivial⟩ rfl
      · intro hge
        obtain rfl : i = xs.length := by have := of_decide_eq_false hge; omega
        have hM := textM_part (c := c) hcase
        rw [hl] at hM
        refine WC.exit ?_
        refine QF.thenExit ?_
        refine QF.thenExit ?_
        refine QF.blockHit ?_
        refine QF.seqNext ?_
        refine WC.seq ?_
        refine WC.seq ?_
        refine WC.region ?_
        refine WL.v (RV.fieldAddr 0 Tryz.underlying62 rfl rfl (Tryz.sizeOf3 _) (by decide) rfl) rfl ?_
        refine WL.v (RV.load (by first | exact d0) (Tryz.isAgg3 _) rfl) rfl ?_
        refine WL.v (RV.geq rfl rfl) rfl ?_
        refine WL.nil ?_
        refine QF.seqNext ?_
        refine WC.cond rfl ?_ ?_
        · intro h6
          replace h6 := of_decide_eq_true h6
          have hk6 : k = 6 ∨ k = 7 ∨ k = 8 := by omega
          rw [if_pos h6, ← opS k hk6] at hM
          refine WC.region ?_
          refine WL.v (RV.move rfl) rfl ?_
          refine WL.v (RV.fieldAddr 0 Tryz.underlying62 rfl rfl (Tryz.sizeOf3 _) (by decide) rfl) rfl ?_
          refine WL.v (RV.load (by first | exact d0) (Tryz.isAgg3 _) rfl) rfl ?_
          refine WL.v (RV.sub rfl rfl (Fit.i64 (by omega))) rfl ?_
          refine WL.v (RV.fieldAddr 0 Tryz.underlying62 rfl rfl (Tryz.sizeOf3 _) (by decide) rfl) rfl ?_
          refine WL.v (RV.load (by first | exact d0) (Tryz.isAgg3 _) rfl) rfl ?_
          refine WL.v (RV.sub rfl rfl (Fit.i64 (by omega))) rfl ?_
          refine WL.v (RV.sliceS Tryz.underlying9 rfl rfl rfl (k - 6).toNat ((k - 6).toNat + 1) (by omega) (by omega) (by omega) (by simp; omega)) rfl ?_
          refine WL.v (RV.addS rfl rfl (by simp; omega)) rfl ?_
          refine WL.v (RV.assign rfl) rfl ?_
          refine WL.nil ?_
          refine QF.seqNext ?_
          refine WC.seq ?_
          refine WC.region ?_
          refine WL.v (RV.move rfl) rfl ?_
          refine WL.v (RV.assign rfl) rfl ?_
          refine WL.nil ?_
          refine QF.seqNext ?_
          refine WC.ret ?_
          refine QF.done1 rfl rfl (⟨by rw [hM], hE1.trans hE2⟩)
        · intro h6
          replace h6 := of_decide_eq_false h6
          rw [if_neg h6, List.append_nil] at hM
          refine WC.skip ?_
          refine QF.seqNext ?_
          refine WC.seq ?_
          refine WC.region ?_
          refine WL.v (RV.move rfl) rfl ?_
          refine WL.v (RV.assign rfl) rfl ?_
          refine WL.nil ?_
          refine QF.seqNext ?_
          refine WC.ret ?_
          refine QF.done1 rfl rfl (⟨by rw [hM], hE1.trans hE2⟩)
    · have hk5 : k = 0 ∨ k = 1 ∨ k = 2 ∨ k = 3 ∨ k = 9 := by omega
      rcases hk5 with rfl | rfl | rfl | rfl | rfl
      · skip
        refine WC.condT rfl (rfl) ?_
        refine WC.seq ?_
        refine WC.region ?_
        refine WL.v (RV.fieldAddr 1 Tryz.underlying62 rfl rfl (Tryz.sizeOf3 _) (by decide) rfl) rfl ?_
        refine WL.v (RV.load (by first | exact c1) (Tryz.isAgg3 _) rfl) rfl ?_
        refine WL.call Tryz.call51 rfl (refName_ret c w1) rfl ?_
        rintro v w2 ⟨rfl, hE2⟩
        refine WL.v (RV.assign rfl) rfl ?_
        refine WL.nil ?_
        refine QF.seqNext ?_
        refine WC.ret ?_
        refine QF.blockRet ?_
        refine QF.thenRet ?_
        refine QF.done1 rfl rfl (⟨rfl, hE1.trans hE2⟩)
      · skip
        refine WC.condF rfl (rfl) ?_
        refine WC.seq ?_
        refine WC.region ?_
        refine WL.v (RV.eql rfl rfl) rfl ?_
        refine WL.v (RV.assign rfl) rfl ?_
        refine WL.nil ?_
        refine QF.seqNext ?_
        refine WC.condT rfl (rfl) ?_
        refine WC.seq ?_
        refine WC.region ?_
        refine WL.v (RV.assign rfl) rfl ?_
        refine WL.nil ?_
        refine QF.seqNext ?_
        refine WC.ret ?_
        refine QF.blockRet ?_
        refine QF.thenRet ?_
        refine QF.done1 rfl rfl (⟨rfl, hE1⟩)
      · skip
        refine WC.condF rfl (rfl) ?_
        refine WC.seq ?_
        refine WC.region ?_
        refine WL.v (RV.eql rfl rfl) rfl ?_
        refine WL.v (RV.assign rfl) rfl ?_
        refine WL.nil ?_
        refine QF.seqNext ?_
        refine WC.condF rfl (rfl) ?_
        refine WC.seq ?_
        refine WC.region ?_
        refine WL.v (RV.eql rfl rfl) rfl ?_
        refine WL.v (RV.assign rfl) rfl ?_
        refine WL.nil ?_
        refine QF.seqNext ?_
        refine WC.condT rfl (rfl) ?_
        refine WC.seq ?_
        refine WC.region ?_
        refine WL.v (RV.fieldAddr 1 Tryz.underlying62 rfl rfl (Tryz.sizeOf3 _) (by decide) rfl) rfl ?_
        refine WL.v (RV.load (by first | exact c1) (Tryz.isAgg3 _) rfl) rfl ?_
        refine WL.call Tryz.call51 rfl (refName_ret c w1) rfl ?_
        rintro v w2 ⟨rfl, hE2⟩
        refine WL.v (RV.addS rfl rfl (by simp; omega)) rfl ?_
        refine WL.v (RV.assign rfl) rfl ?_
        refine WL.nil ?_
        refine QF.seqNext ?_
        refine WC.ret ?_
        refine QF.blockRet ?_
        refine QF.thenRet ?_
        refine QF.done1 rfl rfl (⟨rfl, hE1.trans hE2⟩)
      · skip
        refine WC.condF rfl (rfl) ?_
        refine WC.seq ?_
        refine WC.region ?_
        refine WL.v (RV.eql rfl rfl) rfl ?_
        refine WL.v (RV.assign rfl) rfl ?_
        refine WL.nil ?_
        refine QF.seqNext ?_
        refine WC.condF rfl (rfl) ?_
        refine WC.seq ?_
        refine WC.region ?_
        refine WL.v (RV.eql rfl rfl) rfl ?_
        refine WL.v (RV.assign rfl) rfl ?_
        refine WL.nil ?_
        refine QF.seqNext ?_
        refine WC.condF rfl (rfl) ?_
        refine WC.seq ?_
        refine WC.region ?_
        refine WL.v (RV.eql rfl rfl) rfl ?_
        refine WL.v (RV.assign rfl) rfl ?_
        refine WL.nil ?_
        refine QF.seqNext ?_
        refine WC.condT rfl (rfl) ?_
        refine WC.seq ?_
        refine WC.region ?_
        refine WL.v (RV.assign rfl) rfl ?_
        refine WL.nil ?_
        refine QF.seqNext ?_
        refine WC.ret ?_
        refine QF.blockRet ?_
        refine QF.thenRet ?_
        refine QF.done1 rfl rfl (⟨rfl, hE1⟩)
      · skip
        refine WC.condF rfl (rfl) ?_
        refine WC.seq ?_
        refine WC.region ?_
        refine WL.v (RV.eql rfl rfl) rfl ?_
        refine WL.v (RV.assign rfl) rfl ?_
        refine WL.nil ?_
        refine QF.seqNext ?_
        refine WC.condF rfl (rfl) ?_
        refine WC.seq ?_
        refine WC.region ?_
        refine WL.v (RV.eql rfl rfl) rfl ?_
        refine WL.v (RV.assign rfl) rfl ?_
        refine WL.nil ?_
        refine QF.seqNext ?_
        refine WC.condF rfl (rfl) ?_
        refine WC.seq ?_
        refine WC.region ?_
        refine WL.v (RV.eql rfl rfl) rfl ?_
        refine WL.v (RV.assign rfl) rfl ?_
        refine WL.nil ?_
        refine QF.seqNext ?_
        refine WC.condF rfl (rfl) ?_
        refine WC.seq ?_
        refine WC.region ?_
        refine WL.v (RV.eql rfl rfl) rfl ?_
        refine WL.v (RV.assign rfl) rfl ?_
        refine WL.nil ?_
        refine QF.seqNext ?_
        refine WC.condT rfl (rfl) ?_
        refine WC.seq ?_
        refine WC.region ?_
        refine WL.v (RV.assign rfl) rfl ?_
        refine WL.nil ?_
        refine QF.seqNext ?_
        refine WC.ret ?_
        refine QF.blockRet ?_
        refine QF.thenRet ?_
        refine QF.done1 rfl rfl (⟨rfl, hE1⟩)
end Go.Proofs.YtmohcfjopaccdaaGreatDoor
end
section
/- Packages virguleref06 and virgulelaw06, walked: Print; brackets. -/
namespace Go.Proofs.YtmohcfjopaccdaaGreatDoor
open Go.VL Go.Proofs
set_option maxRecDepth 10000

def lineN (t : R3) : List UInt8 := lineM t ++ [10]
theorem printT_acc {li lk : List Int} {ts : List R3} (h : rightT li lk ts = true) : printT li lk ts = accM lineN (classesM [105, 103, 110, 111, 114, 101] li ++ classesM [107, 101, 101, 112] lk) ts ts.length := by
  rw [accM_all, print_lines h]
  unfold linesP
  rw [cls_unlines, cls_unlines]
  unfold unlinesM lineN
  rw [List.flatMap_append, List.flatMap_append, List.flatMap_map]
theorem right_text {t : Nd} (h : rightM t = true) : printM t = textM t := by unfold printM; rw [if_pos h]
theorem partL_len (A : List UInt8) : (partL A).length ≤ A.length + 1 := by unfold partL; split <;> simp
theorem partR_len (A : List UInt8) : (partR A).length ≤ A.length + 1 := by unfold partR; split <;> simp
theorem lineN_len (t : R3) : (lineN t).length ≤ 200010 := by
  have h1 := partL_len (printM t.1)
  have h2 := partR_len (printM t.2.1)
  have h3 := printM_len t.1
  have h4 := printM_len t.2.1
  have h5 : (signM t.2.2).length = 1 := by unfold signM; split <;> rfl
  unfold lineN lineM
  simp only [List.length_append, List.length_singleton]
  omega
theorem ref6Print_ret (li lk : List Int) (ts : List R3) (v : Value) (w : World) (h : Tx w v li lk ts) (hf : Few li lk ts) (hrt : rightT li lk ts = true) : Ret Tryz.prog 14 [v] w fun u w' => u = .string (bs (printT li lk ts)) ∧ Ext w w' := by
  obtain ⟨ig, kp, ru, xs, rfl, h1, h2, h3, h4, h5⟩ := h
  have o1 := h1.one
  have o2 := h2.one
  have o3 := h3.one
  obtain ⟨f1, f2, f3, f4⟩ := hf
  rw [printT_acc hrt]
  obtain ⟨cl, hcl⟩ : ∃ cl, cl = classesM [105, 103, 110, 111, 114, 101] li ++ classesM [107, 101, 101, 112] lk := ⟨_, rfl⟩
  have hc1 : (classesM [105, 103, 110, 111, 114, 101] li).length ≤ 2000000 := by
    have := flat_len (l := li) (m := 11) fun c _ => clsM_len c
    unfold classesM; split <;> simp at this ⊢ <;> omega
  have hc2 : (classesM [107, 101, 101, 112] lk).length ≤ 2000000 := by
    have := flat_len (l := lk) (m := 11) fun c _ => clsM_len c
    unfold classesM; split <;> simp at this ⊢ <;> omega
  have hcll : cl.length ≤ 4000000 := by rw [hcl, List.length_append]; omega
  refine Ret.enter Tryz.func14 Tryz.ntmps14 rfl rfl ?_
  refine WC.seq ?_
  refine WC.region ?_
  refine WL.boxO (Rng.start w) 1 (by omega) rfl rfl ?_
  intro xb w1 O1 hx1 hU1 hR1 hE1
  have c0 : w1.cell? ((⟨xb, 0, none⟩ : Addr).add 0) = some ig := hx1.cell 0 rfl
  have c1 : w1.cell? ((⟨xb, 0, none⟩ : Addr).add 1) = some kp := hx1.cell 1 rfl
  have c2 : w1.cell? ((⟨xb, 0, none⟩ : Addr).add 2) = some ru := hx1.cell 2 rfl
  refine WL.v (RV.assign rfl) rfl ?_
  refine WL.nil ?_
  refine QF.seqNext ?_
  refine WC.seq ?_
  refine WC.quiet (Ext w1) (by kernel_rfl) (by kernel_rfl) ((Ext.refl w1).drew) ?_
  refine WQ.v (fun w1 hw1 => RV.fieldAddr 0 Tryz.underlying34 rfl rfl (Tryz.sizeOf23 _) (by decide) rfl) rfl ?_
  refine WQ.v (fun w1 hw1 => RV.load (by first | exact hw1.cell c0 | exact hw1.cell c1) (Tryz.isAgg23 _) rfl) rfl ?_
  refine WQ.call Tryz.call31 rfl (fun w1 hw1 => (refClasses_ret [105, 103, 110, 111, 114, 101] li ig _ (h1.ext (hE1.trans hw1)) (by decide) (by omega)).mono fun v w' h => ⟨h.1, hw1.trans h.2⟩) rfl ?_
  refine WQ.v (fun w1 hw1 => RV.fieldAddr 1 Tryz.underlying34 rfl rfl (Tryz.sizeOf23 _) (by decide) rfl) rfl ?_
  refine WQ.v (fun w1 hw1 => RV.load (by first | exact hw1.cell c0 | exact hw1.cell c1) (Tryz.isAgg23 _) rfl) rfl ?_
  refine WQ.call Tryz.call31 rfl (fun w1 hw1 => (refClasses_ret [107, 101, 101, 112] lk kp _ (h2.ext (hE1.trans hw1)) (by decide) (by omega)).mono fun v w' h => ⟨h.1, hw1.trans h.2⟩) rfl ?_
  refine WQ.v (fun w1 hw1 => RV.addS rfl rfl (by omega)) rfl ?_
  refine WQ.v (fun w1 hw1 => RV.assign rfl) rfl ?_
  refine WQ.nil ?_
  intro w2 hE2
  refine QF.seqNext ?_
  rw [← hcl]
  refine WC.seq ?_
  refine WC.seq ?_
  refine WC.region ?_
  refine WL.v (RV.assign rfl) rfl ?_
  refine WL.nil ?_
  refine QF.seqNext ?_
  refine WC.block ?_
  refine WC.loop (fun y : Nat × World => [(1, .pointer (some ⟨xb, 0, none⟩)), (3, .string (bs (accM lineN cl ts y.1))), (4, .int .i64 y.1)]) (fun y : Nat × World => y.2) (fun y : Nat × World => y.1 ≤ xs.length ∧ Ext w1 y.2) (fun y : Nat × World => xs.length - y.1) (0, w2) (⟨Nat.zero_le _, hE2⟩) ⟨rfl, rfl, rfl, trivial⟩ rfl ?_
  rintro ⟨i, w3⟩ ⟨hi, hE3⟩
  dsimp only at hi hE3 ⊢
  have g3 := h3.ext (hE1.trans hE3)
  have d2 := hE3.cell c2
  have hal : (accM lineN cl ts i).length ≤ cl.length + 200010 * ts.length := accM_len fun t _ => lineN_len t
  refine WC.seq ?_
  refine WC.seq ?_
  refine WC.region ?_
  refine WL.v (RV.move rfl) rfl ?_
  refine WL.v (RV.fieldAddr 2 Tryz.underlying34 rfl rfl (Tryz.sizeOf32 _) (by decide) rfl) rfl ?_
  refine WL.v (RV.load (by first | exact d2) (Tryz.isAgg32 _) rfl) rfl ?_
  refine WL.v (RV.len (by first | exact g3) Tryz.underlying32 rfl) rfl ?_
  refine WL.v (RV.lss rfl rfl) rfl ?_
  refine WL.nil ?_
  refine QF.seqNext ?_
  refine WC.cond rfl ?_ ?_
  · intro hlt
    replace hlt : i < xs.length := by have := of_decide_eq_true hlt; omega
    have hrti := (h5 i hlt).ext (hE1.trans hE3)
    have ox := encR_ones (b := (nth xs i).2.2) hrti.1.one hrti.2.1.one
    obtain ⟨z1, z2⟩ := f4 i (by omega)
    obtain ⟨r1, r2⟩ := rule_right hrt (nth ts i) (by rw [nth_eq (show i < ts.length by omega)]; exact List.getElem_mem _)
    have q1 := r1
    have q2 := r2
    simp only [rightM, Bool.and_eq_true, decide_eq_true_eq] at q1 q2
    have hp1 := printM_len (nth ts i).1
    have hp2 := printM_len (nth ts i).2.1
    have hpL := partL_len (printM (nth ts i).1)
    have hpR := partR_len (printM (nth ts i).2.1)
    have hln : lineN (nth ts i) = partL (printM (nth ts i).1) ++ signM (nth ts i).2.2 ++ partR (printM (nth ts i).2.1) ++ [10] := rfl
    have hsu := accM_succ (f := lineN) (a := cl) (show i < ts.length by omega)
    rw [hln] at hsu
    refine WC.skip ?_
    refine QF.seqNext ?_
    refine WC.seq ?_
    refine WC.block ?_
    refine WC.seq ?_
    refine WC.region ?_
    refine WL.v (RV.fieldAddr 2 Tryz.underlying34 rfl rfl (Tryz.sizeOf32 _) (by decide) rfl) rfl ?_
    refine WL.v (RV.load (by first | exact d2) (Tryz.isAgg32 _) rfl) rfl ?_
    refine WL.v (RV.move rfl) rfl ?_
    refine WL.v (RV.indexAddr (by first | exact g3) Tryz.underlying32 (Tryz.sizeOf64 _) rfl rfl _ rfl (by omega)) rfl ?_
    refine WL.v (RV.loadAgg (us := encR (nth xs i)) (fun j u hu => g3.cell hlt hu) (Tryz.isAgg64 _) (Tryz.sizeOf64 _) rfl) rfl ?_
    refine WL.allocO (Rng.start w3) 1 (by omega) (Tryz.zeroValue64 _) rfl ?_
    intro kb w4 O4 hk4 hU4 hR4 hE4
    refine WL.storeAgg (us := (encR (nth xs i)).toArray) hk4 rfl (Tryz.sizeOf64 _) (List.all_eq_true.2 ox) rfl rfl rfl ?_
    have hk5 := hk4.setRow (us := (encR (nth xs i)).toArray)
    have hE35 : Ext w3 (w4.setRow kb (encR (nth xs i)).toArray) := (hU4.trans (Upd.setRow (by decide) hk4.tag rfl)).ext
    generalize w4.setRow kb (encR (nth xs i)).toArray = w5 at *
    obtain ⟨lx, rx, bx, _⟩ := rt_cells hk5
    refine WL.nil ?_
    refine QF.seqNext ?_
    refine WC.seq ?_
    refine WC.region ?_
    refine WL.v (RV.fieldAddr 0 Tryz.underlying64 rfl rfl (Tryz.sizeOf62 _) (by decide) rfl) rfl ?_
    refine WL.v (RV.loadAgg (us := encN (nth xs i).1) (lx _ (Ext.refl _)) (Tryz.isAgg62 _) (Tryz.sizeOf62 _) rfl) rfl ?_
    refine WL.call Tryz.call32 rfl (refPrint_ret 2000 (Nat.le_refl _) (nth ts i).1 (by omega) ⟨false, q1.2⟩ (nth xs i).1 w5 (hrti.1.ext hE35)) rfl ?_
    rintro u w6 ⟨rfl, hE6⟩
    rw [← right_text r1]
    generalize hPL : printM (nth ts i).1 = PL at *
    generalize hPR : printM (nth ts i).2.1 = PR' at *
    refine WL.v (RV.assign rfl) rfl ?_
    refine WL.nil ?_
    refine QF.seqNext ?_
    refine WC.seq ?_
    refine WC.seq ?_
    refine WC.region ?_
    refine WL.v (RV.move rfl) rfl ?_
    refine WL.v (RV.neqS rfl rfl) rfl ?_
    refine WL.nil ?_
    refine QF.seqNext ?_
    refine WC.mid (fun z : Unit => [(1, .pointer (some ⟨xb, 0, none⟩)), (3, .string (bs (accM lineN cl ts i))), (4, .int .i64 i), (5, .pointer (some ⟨kb, 0, none⟩)), (6, .string (bs (partL PL)))]) (fun z : Unit => w6) (fun z : Unit => z = ()) ?_ ?_
    · intro hN
      by_cases h0 : PL = []
      · skip
        refine WC.condF rfl ((by simpa using h0)) ?_
        refine WC.skip ?_
        rw [show (bs PL) = bs (partL PL) from by unfold partL; rw [if_pos h0, h0]]
        exact QF.of (hN (()) (rfl)) ⟨rfl, rfl, rfl, rfl, rfl, trivial⟩ rfl
      · skip
        refine WC.condT rfl ((by simpa using h0)) ?_
        refine WC.region ?_
        refine WL.v (RV.move rfl) rfl ?_
        refine WL.v (RV.addS rfl rfl (by simp; omega)) rfl ?_
        refine WL.v (RV.assign rfl) rfl ?_
        refine WL.nil ?_
        rw [show PL ++ [32] = partL PL from by unfold partL; rw [if_neg h0]]
        exact QF.of (hN (()) (rfl)) ⟨rfl, rfl, rfl, rfl, rfl, trivial⟩ rfl
    · rintro ⟨⟩ _
      refine QF.seqNext ?_
      have b6 := bx w6 hE6
      rw [(h5 i hlt).2.2] at b6
      refine WC.seq ?_
      refine WC.region ?_
      refine WL.v (RV.assign rfl) rfl ?_
      refine WL.nil ?_
      refine QF.seqNext ?_
      refine WC.seq ?_
      refine WC.seq ?_
      refine WC.region ?_
      refine WL.v (RV.fieldAddr 6 Tryz.underlying64 rfl rfl (Tryz.sizeOf4 _) (by decide) rfl) rfl ?_
      refine WL.v (RV.load (by first | exact b6) (Tryz.isAgg4 _) rfl) rfl ?_
      refine WL.nil ?_
      refine QF.seqNext ?_
      refine WC.mid (fun z : Unit => [(1, .pointer (some ⟨xb, 0, none⟩)), (3, .string (bs (accM lineN cl ts i))), (4, .int .i64 i), (5, .pointer (some ⟨kb, 0, none⟩)), (6, .string (bs (partL PL))), (7, .string (bs (signM (nth ts i).2.2)))]) (fun z : Unit => w6) (fun z : Unit => z = ()) ?_ ?_
      · intro hN
        cases hb : (nth ts i).2.2 with
        | true =>
          have hsg : signM (nth ts i).2.2 = [47] := by rw [hb]; rfl
          rw [hsg] at hN
          refine WC.condT rfl (rfl) ?_
          refine WC.region ?_
          refine WL.v (RV.assign rfl) rfl ?_
          refine WL.nil ?_
          exact QF.of (hN (()) (rfl)) ⟨rfl, rfl, rfl, rfl, rfl, rfl, trivial⟩ rfl
        | false =>
          have hsg : signM (nth ts i).2.2 = [33] := by rw [hb]; rfl
          rw [hsg] at hN
          refine WC.condF rfl (rfl) ?_
          refine WC.skip ?_
          exact QF.of (hN (()) (rfl)) ⟨rfl, rfl, rfl, rfl, rfl, rfl, trivial⟩ rfl
      · rintro ⟨⟩ _
        refine QF.seqNext ?_
        have hsl : (signM (nth ts i).2.2).length = 1 := by unfold signM; split <;> rfl
        refine WC.seq ?_
        refine WC.region ?_
        refine WL.v (RV.fieldAddr 3 Tryz.underlying64 rfl rfl (Tryz.sizeOf62 _) (by decide) rfl) rfl ?_
        refine WL.v (RV.loadAgg (us := encN (nth xs i).2.1) (rx _ hE6) (Tryz.isAgg62 _) (Tryz.sizeOf62 _) rfl) rfl ?_
        refine WL.call Tryz.call32 rfl (refPrint_ret 2000 (Nat.le_refl _) (nth ts i).2.1 (by omega) ⟨false, q2.2⟩ (nth xs i).2.1 w6 (hrti.2.1.ext (hE35.trans hE6))) rfl ?_
        rintro u w7 ⟨rfl, hE7⟩
        rw [← right_text r2, hPR]
        refine WL.v (RV.assign rfl) rfl ?_
        refine WL.nil ?_
        refine QF.seqNext ?_
        refine WC.seq ?_
        refine WC.seq ?_
        refine WC.region ?_
        refine WL.v (RV.move rfl) rfl ?_
        refine WL.v (RV.neqS rfl rfl) rfl ?_
        refine WL.nil ?_
        refine QF.seqNext ?_
        refine WC.mid (fun z : Unit => [(1, .pointer (some ⟨xb, 0, none⟩)), (3, .string (bs (accM lineN cl ts i))), (4, .int .i64 i), (6, .string (bs (partL PL))), (7, .string (bs (signM (nth ts i).2.2))), (8, .string (bs (partR PR')))]) (fun z : Unit => w7) (fun z : Unit => z = ()) ?_ ?_
        · intro hN
          by_cases h0 : PR' = []
          · skip
            refine WC.condF rfl ((by simpa using h0)) ?_
            refine WC.skip ?_
            rw [show (bs PR') = bs (partR PR') from by unfold partR; rw [if_pos h0, h0]]
            exact QF.of (hN (()) (rfl)) ⟨rfl, rfl, rfl, rfl, rfl, rfl, trivial⟩ rfl
          · skip
            refine WC.condT rfl ((by simpa using h0)) ?_
            refine WC.region ?_
            refine WL.v (RV.move rfl) rfl ?_
            refine WL.v (RV.addS rfl rfl (by simp; omega)) rfl ?_
            refine WL.v (RV.assign rfl) rfl ?_
            refine WL.nil ?_
            rw [show [32] ++ PR' = partR PR' from by unfold partR; rw [if_neg h0]]
            exact QF.of (hN (()) (rfl)) ⟨rfl, rfl, rfl, rfl, rfl, rfl, trivial⟩ rfl
        · rintro ⟨⟩ _
          refine QF.seqNext ?_
          refine WC.region ?_
          refine WL.v (RV.move rfl) rfl ?_
          refine WL.v (RV.move rfl) rfl ?_
          refine WL.v (RV.addS rfl rfl (by omega)) rfl ?_
          refine WL.v (RV.move rfl) rfl ?_
          refine WL.v (RV.addS rfl rfl (by simp; omega)) rfl ?_
          refine WL.v (RV.move rfl) rfl ?_
          refine WL.v (RV.addS rfl rfl (by simp; omega)) rfl ?_
          refine WL.v (RV.addS rfl rfl (by simp; omega)) rfl ?_
          refine WL.v (RV.assign rfl) rfl ?_
          refine WL.nil ?_
          refine QF.blockNormal ?_
          refine QF.seqNext ?_
          refine WC.region ?_
          refine WL.v (RV.move rfl) rfl ?_
          refine WL.v (RV.add rfl rfl (Fit.i64 (by omega))) rfl ?_
          refine WL.v (RV.assign rfl) rfl ?_
          refine WL.nil ?_
          rw [show accM lineN cl ts i ++ partL PL ++ signM (nth ts i).2.2 ++ partR PR' ++ [10] = accM lineN cl ts (i + 1) from by rw [hsu]; simp only [List.append_assoc]]
          refine QF.next ((i + 1, w7)) (⟨hlt, ((hE3.trans hE35).trans hE6).trans hE7⟩) (by dsimp only; omega) ⟨rfl, rfl, rfl, trivial⟩ rfl
  · intro hge
    obtain rfl : i = xs.length := by have := of_decide_eq_false hge; omega
    refine WC.exit ?_
    refine QF.thenExit ?_
    refine QF.thenExit ?_
    refine QF.blockHit ?_
    refine QF.seqNext ?_
    refine WC.seq ?_
    refine WC.region ?_
    refine WL.v (RV.move rfl) rfl ?_
    refine WL.v (RV.assign rfl) rfl ?_
    refine WL.nil ?_
    refine QF.seqNext ?_
    refine WC.ret ?_
    refine QF.done1 rfl rfl (⟨by rw [h4], hE1.trans hE3⟩)
/-! How deep brackets of a text stand in one another. -/
def brStep (q : Int × Int) (b : UInt8) : Int × Int :=
  let o := (if b = 40 then q.1 + 1 else q.1)
  let o2 := (if b = 41 then o - 1 else o)
  (o2, max q.2 o2)
def brF (l : List UInt8) : Int × Int := l.foldl brStep (0, 0)
def brM (l : List UInt8) : Int := (brF l).2
theorem brF_snoc (l : List UInt8) (b : UInt8) : brF (l ++ [b]) = brStep (brF l) b := by unfold brF; rw [List.foldl_append]; rfl
theorem brStep_le (q : Int × Int) (b : UInt8) : (brStep q b).1 ≤ q.1 + 1 ∧ q.1 - 1 ≤ (brStep q b).1 ∧ (brStep q b).2 ≤ max q.2 (q.1 + 1) ∧ q.2 ≤ (brStep q b).2 := by
  unfold brStep
  dsimp only
  split <;> split <;> omega
theorem brF_le : ∀ (l : List UInt8) (q : Int × Int), (l.foldl brStep q).1 ≤ q.1 + l.length ∧ q.1 - l.length ≤ (l.foldl brStep q).1 ∧ (l.foldl brStep q).2 ≤ max q.2 (q.1 + l.length) ∧ q.2 ≤ (l.foldl brStep q).2
  | [], q => by simp; omega
  | b :: l, q => by
    have h1 := brStep_le q b
    have h2 := brF_le l (brStep q b)
    simp only [List.foldl_cons, List.length_cons]
    omega
theorem lawBrackets_ret (l : List UInt8) (w : World) (hl : l.length ≤ 1000000000) : Ret Tryz.prog 16 [.string (bs l)] w fun v w' => v = .int .i64 (brM l) ∧ w' = w := by
  refine Ret.enter Tryz.func16 Tryz.ntmps16 rfl rfl ?_
  refine WC.seq ?_
  refine WC.region ?_
  refine WL.v (RV.assign rfl) rfl ?_
  refine WL.nil ?_
  refine QF.seqNext ?_
  refine WC.seq ?_
  refine WC.region ?_
  refine WL.v (RV.assign rfl) rfl ?_
  refine WL.v (RV.assign rfl) rfl ?_
  refine WL.nil ?_
  refine QF.seqNext ?_
  refine WC.seq ?_
  refine WC.seq ?_
  refine WC.region ?_
  refine WL.v (RV.assign rfl) rfl ?_
  refine WL.nil ?_
  refine QF.seqNext ?_
  refine WC.block ?_
  refine WC.loop (fun x : Nat => [(0, .string (bs l)), (3, .int .i64 (brF (l.take x)).2), (4, .int .i64 (brF (l.take x)).1), (5, .int .i64 x)]) (fun x : Nat => w) (fun x : Nat => x ≤ l.length) (fun x : Nat => l.length - x) 0 (Nat.zero_le _) ⟨rfl, rfl, rfl, rfl, trivial⟩ rfl ?_
  intro i hi
  have hb := brF_le (l.take i) (0, 0)
  rw [show (l.take i).foldl brStep (0, 0) = brF (l.take i) from rfl] at hb
  have htl : (l.take i).length = i := by simp; omega
  rw [htl] at hb
  refine WC.seq ?_
  refine WC.seq ?_
  refine WC.region ?_
  refine WL.v (RV.move rfl) rfl ?_
  refine WL.v (RV.move rfl) rfl ?_
  refine WL.v (RV.lenS Tryz.underlying9 rfl) rfl ?_
  refine WL.v (RV.lss rfl rfl) rfl ?_
  refine WL.nil ?_
  refine QF.seqNext ?_
  refine WC.cond rfl ?_ ?_
  · intro hlt
    replace hlt : i < l.length := by have := of_decide_eq_true hlt; omega
    have hsu : brF (l.take (i + 1)) = brStep (brF (l.take i)) (nth l i) := by rw [List.take_succ_eq_append_getElem hlt, brF_snoc, nth_eq hlt]
    generalize brF (l.take i) = q at *
    have hget : l[i]? = some (nth l i) := by rw [nth_eq hlt]; exact List.getElem?_eq_getElem hlt
    refine WC.skip ?_
    refine QF.seqNext ?_
    refine WC.seq ?_
    refine WC.block ?_
    refine WC.seq ?_
    refine WC.seq ?_
    refine WC.region ?_
    refine WL.v (RV.move rfl) rfl ?_
    refine WL.v (RV.move rfl) rfl ?_
    refine WL.v (RV.indexS1 (c := nth l i) Tryz.underlying9 rfl rfl i rfl hget) rfl ?_
    refine WL.v (RV.eql rfl rfl) rfl ?_
    refine WL.nil ?_
    refine QF.seqNext ?_
    by_cases h40 : nth l i = 40
    · have h2 : brStep q (nth l i) = (q.1 + 1, max q.2 (q.1 + 1)) := by unfold brStep; rw [h40]; rfl
      rw [h2] at hsu
      refine WC.condT rfl ((by rw [h40]; rfl)) ?_
      refine WC.region ?_
      refine WL.v (RV.move rfl) rfl ?_
      refine WL.v (RV.add rfl rfl (Fit.i64 (by omega))) rfl ?_
      refine WL.v (RV.assign rfl) rfl ?_
      refine WL.nil ?_
      refine QF.seqNext ?_
      refine WC.seq ?_
      refine WC.seq ?_
      refine WC.region ?_
      refine WL.v (RV.move rfl) rfl ?_
      refine WL.v (RV.move rfl) rfl ?_
      refine WL.v (RV.indexS1 (c := nth l i) Tryz.underlying9 rfl rfl i rfl hget) rfl ?_
      refine WL.v (RV.eql rfl rfl) rfl ?_
      refine WL.nil ?_
      refine QF.seqNext ?_
      refine WC.condF rfl ((by rw [h40]; rfl)) ?_
      refine WC.skip ?_
      refine QF.seqNext ?_
      refine WC.region ?_
      refine WL.v (RV.move rfl) rfl ?_
      refine WL.v (RV.move rfl) rfl ?_
      refine WL.v (RV.max2 rfl rfl) rfl ?_
      refine WL.v (RV.assign rfl) rfl ?_
      refine WL.nil ?_
      refine QF.blockNormal ?_
      refine QF.seqNext ?_
      refine WC.region ?_
      refine WL.v (RV.move rfl) rfl ?_
      refine WL.v (RV.add rfl rfl (Fit.i64 (by omega))) rfl ?_
      refine WL.v (RV.assign rfl) rfl ?_
      refine WL.nil ?_
      rw [show max q.2 (q.1 + 1) = (brF (l.take (i + 1))).2 from by rw [hsu], show q.1 + 1 = (brF (l.take (i + 1))).1 from by rw [hsu]]
      refine QF.next (i + 1) (hlt) (by omega) ⟨rfl, rfl, rfl, rfl, trivial⟩ rfl
    · skip
      refine WC.condF rfl ((byteBeq (nth l i) 40 (by decide) h40)) ?_
      refine WC.skip ?_
      refine QF.seqNext ?_
      refine WC.seq ?_
      refine WC.seq ?_
      refine WC.region ?_
      refine WL.v (RV.move rfl) rfl ?_
      refine WL.v (RV.move rfl) rfl ?_
      refine WL.v (RV.indexS1 (c := nth l i) Tryz.underlying9 rfl rfl i rfl hget) rfl ?_
      refine WL.v (RV.eql rfl rfl) rfl ?_
      refine WL.nil ?_
      refine QF.seqNext ?_
      by_cases h41 : nth l i = 41
      · have h2 : brStep q (nth l i) = (q.1 - 1, max q.2 (q.1 - 1)) := by unfold brStep; rw [h41]; rfl
        rw [h2] at hsu
        refine WC.condT rfl ((by rw [h41]; rfl)) ?_
        refine WC.region ?_
        refine WL.v (RV.move rfl) rfl ?_
        refine WL.v (RV.sub rfl rfl (Fit.i64 (by omega))) rfl ?_
        refine WL.v (RV.assign rfl) rfl ?_
        refine WL.nil ?_
        refine QF.seqNext ?_
        refine WC.region ?_
        refine WL.v (RV.move rfl) rfl ?_
        refine WL.v (RV.move rfl) rfl ?_
        refine WL.v (RV.max2 rfl rfl) rfl ?_
        refine WL.v (RV.assign rfl) rfl ?_
        refine WL.nil ?_
        refine QF.blockNormal ?_
        refine QF.seqNext ?_
        refine WC.region ?_
        refine WL.v (RV.move rfl) rfl ?_
        refine WL.v (RV.add rfl rfl (Fit.i64 (by omega))) rfl ?_
        refine WL.v (RV.assign rfl) rfl ?_
        refine WL.nil ?_
        rw [show max q.2 (q.1 - 1) = (brF (l.take (i + 1))).2 from by rw [hsu], show q.1 - 1 = (brF (l.take (i + 1))).1 from by rw [hsu]]
        refine QF.next (i + 1) (hlt) (by omega) ⟨rfl, rfl, rfl, rfl, trivial⟩ rfl
      · have h2 : brStep q (nth l i) = (q.1, max q.2 q.1) := by unfold brStep; dsimp only; rw [if_neg h40, if_neg h41]
        rw [h2] at hsu
        refine WC.condF rfl ((byteBeq (nth l i) 41 (by decide) h41)) ?_
        refine WC.skip ?_
        refine QF.seqNext ?_
        refine WC.region ?_
        refine WL.v (RV.move rfl) rfl ?_
        refine WL.v (RV.move rfl) rfl ?_
        refine WL.v (RV.max2 rfl rfl) rfl ?_
        refine WL.v (RV.assign rfl) rfl ?_
        refine WL.nil ?_
        refine QF.blockNormal ?_
        refine QF.seqNext ?_
        refine WC.region ?_
        refine WL.v (RV.move rfl) rfl ?_
        refine WL.v (RV.add rfl rfl (Fit.i64 (by omega))) rfl ?_
        refine WL.v (RV.assign rfl) rfl ?_
        refine WL.nil ?_
        rw [show max q.2 q.1 = (brF (l.take (i + 1))).2 from by rw [hsu], show q.1 = (brF (l.take (i + 1))).1 from by rw [hsu]]
        refine QF.next (i + 1) (hlt) (by omega) ⟨rfl, rfl, rfl, rfl, trivial⟩ rfl
  · intro hge
    obtain rfl : i = l.length := by have := of_decide_eq_false hge; omega
    refine WC.exit ?_
    refine QF.thenExit ?_
    refine QF.thenExit ?_
    refine QF.blockHit ?_
    refine QF.seqNext ?_
    refine WC.seq ?_
    refine WC.region ?_
    refine WL.v (RV.move rfl) rfl ?_
    refine WL.v (RV.assign rfl) rfl ?_
    refine WL.nil ?_
    refine QF.seqNext ?_
    refine WC.ret ?_
    refine QF.done1 rfl rfl (⟨by rw [List.take_length]; rfl, rfl⟩)
end Go.Proofs.YtmohcfjopaccdaaGreatDoor
end
section
/- slices.Sort and slices.Compact at []int: the contracts of the kit laid at this dump, in plain words (written by the kit's lay-shelf and lay-plain tools; tools/shelf_sort.py). -/
namespace Go.Proofs
open Go.Shelf
def Tryz.lays189_ren : Go.Shelf.Ren := ⟨fun | 189 => 58 | 125 => 87 | 257 => 86 | 128 => 113 | 129 => 114 | 294 => 104 | 295 => 105 | 296 => 106 | 297 => 107 | 298 => 108 | 299 => 109 | 216 => 110 | 300 => 111 | 301 => 112 | 328 => 126 | 329 => 127 | 330 => 128 | 331 => 129 | 332 => 130 | 215 => 131 | 343 => 138 | n => n, fun | 28 => 23 | 3 => 3 | 46 => 133 | 0 => 0 | 51 => 156 | 53 => 158 | 4 => 4 | 183 => 149 | 182 => 148 | 131 => 96 | 5 => 5 | 9 => 9 | 218 => 164 | 222 => 168 | 228 => 184 | 229 => 140 | n => n, fun | n => n⟩
theorem Tryz.lays189 : Go.Proofs.Lays.n189 Tryz.prog Tryz.lays189_ren := {
  mixed := by kernel_rfl
  f125 := Tryz.func87.trans (congrArg some (by kernel_rfl))
  f128 := Tryz.func113.trans (congrArg some (by kernel_rfl))
  f129 := Tryz.func114.trans (congrArg some (by kernel_rfl))
  f189 := Tryz.func58.trans (congrArg some (by kernel_rfl))
  f215 := Tryz.func131.trans (congrArg some (by kernel_rfl))
  f216 := Tryz.func110.trans (congrArg some (by kernel_rfl))
  f257 := Tryz.func86.trans (congrArg some (by kernel_rfl))
  f294 := Tryz.func104.trans (congrArg some (by kernel_rfl))
  f295 := Tryz.func105.trans (congrArg some (by kernel_rfl))
  f296 := Tryz.func106.trans (congrArg some (by kernel_rfl))
  f297 := Tryz.func107.trans (congrArg some (by kernel_rfl))
  f298 := Tryz.func108.trans (congrArg some (by kernel_rfl))
  f299 := Tryz.func109.trans (congrArg some (by kernel_rfl))
  f300 := Tryz.func111.trans (congrArg some (by kernel_rfl))
  f301 := Tryz.func112.trans (congrArg some (by kernel_rfl))
  f328 := Tryz.func126.trans (congrArg some (by kernel_rfl))
  f329 := Tryz.func127.trans (congrArg some (by kernel_rfl))
  f330 := Tryz.func128.trans (congrArg some (by kernel_rfl))
  f331 := Tryz.func129.trans (congrArg some (by kernel_rfl))
  f332 := Tryz.func130.trans (congrArg some (by kernel_rfl))
  f343 := Tryz.func138.trans (congrArg some (by kernel_rfl))
  t0 := Tryz.underlying0
  a0 := Tryz.isAgg0
  z0 := Tryz.sizeOf0
  v0 := Tryz.zeroValue0
  t3 := Tryz.underlying3
  a3 := Tryz.isAgg3
  z3 := Tryz.sizeOf3
  v3 := Tryz.zeroValue3
  t4 := Tryz.underlying4
  a4 := Tryz.isAgg4
  z4 := Tryz.sizeOf4
  v4 := Tryz.zeroValue4
  t5 := Tryz.underlying5
  a5 := Tryz.isAgg5
  z5 := Tryz.sizeOf5
  v5 := Tryz.zeroValue5
  t9 := Tryz.underlying9
  a9 := Tryz.isAgg9
  z9 := Tryz.sizeOf9
  v9 := Tryz.zeroValue9
  t28 := Tryz.underlying23
  a28 := Tryz.isAgg23
  z28 := Tryz.sizeOf23
  v28 := Tryz.zeroValue23
  t46 := Tryz.underlying133
  a46 := Tryz.isAgg133
  z46 := Tryz.sizeOf133
  v46 := Tryz.zeroValue133
  t51 := Tryz.underlying156
  a51 := Tryz.isAgg156
  z51 := Tryz.sizeOf156
  v51 := Tryz.zeroValue156
  t53 := Tryz.underlying158
  a53 := Tryz.isAgg158
  z53 := Tryz.sizeOf158
  v53 := Tryz.zeroValue158
  t131 := Tryz.underlying96
  a131 := Tryz.isAgg96
  z131 := Tryz.sizeOf96
  v131 := Tryz.zeroValue96
  t182 := Tryz.underlying148
  a182 := Tryz.isAgg148
  z182 := Tryz.sizeOf148
  v182 := Tryz.zeroValue148
  t183 := Tryz.underlying149
  a183 := Tryz.isAgg149
  z183 := Tryz.sizeOf149
  v183 := Tryz.zeroValue149
  t218 := Tryz.underlying164
  a218 := Tryz.isAgg164
  z218 := Tryz.sizeOf164
  v218 := Tryz.zeroValue164
  t222 := Tryz.underlying168
  a222 := Tryz.isAgg168
  z222 := Tryz.sizeOf168
  v222 := Tryz.zeroValue168
  t228 := Tryz.underlying184
  a228 := Tryz.isAgg184
  z228 := Tryz.sizeOf184
  v228 := Tryz.zeroValue184
  t229 := Tryz.underlying140
  a229 := Tryz.isAgg140
  z229 := Tryz.sizeOf140
  v229 := Tryz.zeroValue140 }
open Go.Sort Go.RowKit in
theorem Tryz.slices_Sort_int (blk off cap : Nat) (zs : List Int) (w : World) (hH : Holds (Value.int .i64) w blk off zs.toArray) (hblk : blk < w.heap.size) (hsz : zs.length < 4611686018427387904) :
    Calls Tryz.prog 58 #[.slice (some ⟨blk, off, none⟩) zs.length cap] w fun e w' =>
      e = .returned (.tuple #[]) ∧ ∃ n os, w' = grow (putRow (Value.int .i64) (Sort.ahead w n) blk off (zs.mergeSort fun x y => decide (x ≤ y)).toArray) os := Any.slices_Sort_int Tryz.lays189 blk off cap zs w hH hblk hsz
def Tryz.laysNm220_ren : Go.Shelf.Ren := ⟨fun | 20 => 59 | n => n, fun | 22 => 23 | 3 => 3 | 4 => 4 | 0 => 0 | n => n, fun | n => n⟩
theorem Tryz.laysNm220 : Go.Proofs.Lays2.n20 Tryz.prog Tryz.laysNm220_ren := {
  mixed := by kernel_rfl
  f20 := Tryz.func59.trans (congrArg some (by kernel_rfl))
  t0 := Tryz.underlying0
  a0 := Tryz.isAgg0
  z0 := Tryz.sizeOf0
  v0 := Tryz.zeroValue0
  t3 := Tryz.underlying3
  a3 := Tryz.isAgg3
  z3 := Tryz.sizeOf3
  v3 := Tryz.zeroValue3
  t4 := Tryz.underlying4
  a4 := Tryz.isAgg4
  z4 := Tryz.sizeOf4
  v4 := Tryz.zeroValue4
  t22 := Tryz.underlying23
  a22 := Tryz.isAgg23
  z22 := Tryz.sizeOf23
  v22 := Tryz.zeroValue23
  i3 := by kernel_rfl }
open Go.RowKit Go.Lib Go.Sort in
theorem Tryz.slices_Compact_int (blk off cap : Nat) (zs : List Int) (w : World) (hH : Holds (Value.int .i64) w blk off zs.toArray) (hsz : zs.length ≤ 9223372036854775807) (hcap : zs.length ≤ cap) :
    Calls Tryz.prog 59 #[.slice (some ⟨blk, off, none⟩) zs.length cap] w fun e w' => e = .returned (.slice (some ⟨blk, off, none⟩) (Lib.compact zs).length cap) ∧ ∃ q, w' = putRow (Value.int .i64) (Sort.ahead w q) blk off (Lib.compact zs ++ List.replicate (zs.length - (Lib.compact zs).length) 0).toArray := Any.slices_Compact_int Tryz.laysNm220 blk off cap zs w hH hsz hcap
open Go.RowKit Go.Lib Go.Sort in
theorem Tryz.slices_Compact_int_empty (a : Option Addr) (cap : Nat) (w : World) :
    Calls Tryz.prog 59 #[.slice a 0 cap] w fun e w' => e = .returned (.slice a 0 cap) ∧ w' = w := Any.slices_Compact_int_empty Tryz.laysNm220 a cap w
open Go.RowKit Go.Sort in
theorem Tryz.slices_Sort_int_none (p : Option Addr) (cap : Nat) (w : World) :
    Calls Tryz.prog 58 #[.slice p 0 cap] w fun e w' => e = .returned (.tuple #[]) ∧ w' = w := Any.slices_Sort_int_none Tryz.lays189 p cap w
end Go.Proofs
end
section
/- slices.Sort and slices.Compact at rows of integers that someone owns. -/
namespace Go.Proofs.YtmohcfjopaccdaaGreatDoor
open Go.VL Go.Proofs Go.Sort
set_option maxRecDepth 10000

def sortM (l : List Int) : List Int := l.mergeSort fun x y => decide (x ≤ y)
theorem sortM_len (l : List Int) : (sortM l).length = l.length := List.length_mergeSort ..
theorem flat_int (l : List Int) : (l.flatMap encI) = l.map (Value.int .i64) := by induction l <;> simp_all [encI]
theorem upd_row {O : Nat → Nat} {w : World} {i g n : Nat} {os : Array Obj} (d : Array Int) (hi : i ≠ 0) (ho : O g = i) : Upd (fun k => k = i) O w O (grow (putRow (Value.int .i64) (Sort.ahead w n) g 0 d) os) := by
  obtain ⟨h1, h2, h3, h4, h5⟩ := grownBy_sortedI (w := w) (g := g) (n := n) (os := os) d
  exact ⟨h1, h2, h3, h4, fun k hk hn => h5 k hk (fun e => hn (by rw [← ho]; congr 1; exact Option.some.inj e)), fun _ _ => rfl, fun _ h => .inl h, fun e => hi e.symm⟩
theorem sort_ret {B : Nat} {O : Nat → Nat} {i : Nat} {v : Value} {l : List Int} {w : World} (hR : Rng B O w) (hr : RowT encI 3 1 O w i v l) (hi : i ≠ 0) (hl : l.length ≤ 1000000) : Ret Tryz.prog 58 [v] w fun _ w' => RowT encI 3 1 O w' i v (sortM l) ∧ Upd (fun k => k = i) O w O w' ∧ Rng B O w' := by
  rcases hr.1.row.2 with ⟨rfl, h0⟩ | ⟨g, cap, cur, rfl, hb0, hg, hnc, hcm, hcs, ht⟩
  · obtain rfl : l = [] := List.eq_nil_of_length_eq_zero h0
    refine Calls.mono (Tryz.slices_Sort_int_none none 0 w) fun e w' ⟨he, hw⟩ => ?_
    subst he; subst hw
    exact ⟨by rw [List.eq_nil_of_length_eq_zero (sortM_len [])]; exact hr, Upd.refl (fun e => hi e.symm) _ _, hR⟩
  · have htag := hr.1.tag g rfl
    rw [flat_int] at ht
    have hH := holds_of_blockI (ss := l) hg (by simpa using ht)
    have hlt := heap_lt hg
    refine Calls.mono (Tryz.slices_Sort_int g 0 cap l w hH hlt (by omega)) fun e w' ⟨he, n, os, hw⟩ => ?_
    subst he; subst hw
    have hU := upd_row (w := w) (n := n) (os := os) (sortM l).toArray hi htag
    refine ⟨⟨⟨?_, fun g' hg' => by simp [Value.ownBlock] at hg'; subst hg'; exact htag⟩, fun _ _ => rfl⟩, hU, hR.upd hU⟩
    have := ownsRow_sortedI (w := w) (n := n) (os := os) (base := 0) (ss := l) (ts := sortM l) (sortM_len l) (Nat.zero_le _) hg hnc hcm hcs
    rw [flat_int, sortM_len]
    exact this
theorem compact_le (l : List Int) : (Lib.compact l).length ≤ l.length := by
  unfold Lib.compact Lib.compactUpTo
  rw [List.length_map]
  exact Nat.le_trans (List.length_filter_le _ _) (by simp)
theorem compact_ret {B : Nat} {O : Nat → Nat} {i : Nat} {v : Value} {l : List Int} {w : World} (hR : Rng B O w) (hr : RowT encI 3 1 O w i v l) (hi : i ≠ 0) (hl : l.length ≤ 1000000) : Ret Tryz.prog 59 [v] w fun u w' => RowT encI 3 1 O w' i u (Lib.compact l) ∧ Upd (fun k => k = i) O w O w' ∧ Rng B O w' := by
  rcases hr.1.row.2 with ⟨rfl, h0⟩ | ⟨g, cap, cur, rfl, hb0, hg, hnc, hcm, hcs, ht⟩
  · obtain rfl : l = [] := List.eq_nil_of_length_eq_zero h0
    refine Calls.mono (Tryz.slices_Compact_int_empty none 0 w) fun e w' ⟨he, hw⟩ => ?_
    subst he; subst hw
    exact ⟨hr, Upd.refl (fun e => hi e.symm) _ _, hR⟩
  · have htag := hr.1.tag g rfl
    rw [flat_int] at ht
    have hH := holds_of_blockI (ss := l) hg (by simpa using ht)
    have hle := compact_le l
    refine Calls.mono (Tryz.slices_Compact_int g 0 cap l w hH (by omega) hnc) fun e w' ⟨he, n, hw⟩ => ?_
    subst he
    obtain ⟨ts, hts⟩ : ∃ ts, ts = Lib.compact l ++ List.replicate (l.length - (Lib.compact l).length) 0 := ⟨_, rfl⟩
    rw [← hts] at hw
    have htl : ts.length = l.length := by rw [hts]; simp; omega
    have hU := upd_row (w := w) (n := n) (os := #[]) ts.toArray hi htag
    have hhs := heap_sortedI (n := n) (os := #[]) ts.toArray hg
    rw [grow_empty, ← hw] at hU hhs
    refine ⟨⟨⟨⟨by rw [flat_int]; simp, .inr ⟨g, cap, _, rfl, Nat.zero_le _, hhs, by omega, hcm, by simp [putCells]; omega, ?_⟩⟩, fun g' hg' => by simp [Value.ownBlock] at hg'; subst hg'; exact htag⟩, fun _ _ => rfl⟩, hU, hR.upd hU⟩
    have h1 := take_putCellsI cur ts (by omega)
    have h2 := congrArg (List.take (Lib.compact l).length) h1
    rw [List.take_take, Nat.min_eq_left (by omega)] at h2
    rw [flat_int, Nat.mul_one, h2, hts, List.map_append, List.take_append_of_le_length (by simp), List.take_of_length_le (by simp)]
end Go.Proofs.YtmohcfjopaccdaaGreatDoor
end
