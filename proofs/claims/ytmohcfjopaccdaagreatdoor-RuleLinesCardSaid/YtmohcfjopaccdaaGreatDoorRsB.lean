/- Packages rule, virguleref06 and virgulelaw06, walked: Same; Great. -/
import Derived.Test.YtmohcfjopaccdaaGreatDoorRsA
namespace Go.Proofs.YtmohcfjopaccdaaGreatDoor
open Go.VL Go.Proofs
set_option maxRecDepth 10000

abbrev encI (c : Int) : List Value := [.int .i64 c]
abbrev rowI (l : List Value) : Value := .agg l.toArray
/-! Plain. -/
def eqI (l l' : List Int) : Bool := decide (l.length = l'.length) && allN (fun i => nth l i == nth l' i) l.length
theorem eqI_true {l l' : List Int} : eqI l l' = true ↔ l = l' := by
  unfold eqI
  simp only [Bool.and_eq_true, decide_eq_true_eq, allN_true, beq_iff_eq]
  constructor
  · rintro ⟨h1, h2⟩
    refine List.ext_getElem h1 fun i hi hi' => ?_
    have := h2 i hi
    rwa [nth_eq hi, nth_eq hi'] at this
  · rintro rfl
    exact ⟨rfl, fun i _ => rfl⟩
theorem eqI_len {l l' : List Int} (h : ¬ l.length = l'.length) : eqI l l' = false := by unfold eqI; rw [decide_eq_false h]; rfl
theorem eqI_at {l l' : List Int} {i : Nat} (hi : i < l.length) (h : nth l i ≠ nth l' i) : eqI l l' = false := by unfold eqI; rw [allN_no (q := fun i => nth l i == nth l' i) hi (beq_eq_false_iff_ne.2 h), Bool.and_false]
def sameR (t s : R3) : Bool := ((t.2.2 == s.2.2) && sameM t.1 s.1) && sameM t.2.1 s.2.1
theorem sameR_eq {t s : R3} (h : sameR t s = true) : t = s := by
  obtain ⟨a, b, c⟩ := t
  obtain ⟨a', b', c'⟩ := s
  simp only [sameR, Bool.and_eq_true, beq_iff_eq] at h
  obtain ⟨⟨h1, h2⟩, h3⟩ := h
  rw [h1, sameM_eq _ _ h2, sameM_eq _ _ h3]
theorem sameR_self (t : R3) : sameR t t = true := by simp [sameR, sameM_self]
def sameRs (ts ts' : List R3) : Bool := decide (ts.length = ts'.length) && allN (fun i => sameR (nth ts i) (nth ts' i)) ts.length
theorem sameRs_true {l l' : List R3} : sameRs l l' = true ↔ l = l' := by
  unfold sameRs
  simp only [Bool.and_eq_true, decide_eq_true_eq, allN_true]
  constructor
  · rintro ⟨h1, h2⟩
    refine List.ext_getElem h1 fun i hi hi' => ?_
    have := h2 i hi
    rw [nth_eq hi, nth_eq hi'] at this
    exact sameR_eq this
  · rintro rfl
    exact ⟨rfl, fun i _ => sameR_self _⟩
/-- Two meanings are the same. -/
def sameT (li lk : List Int) (ts : List R3) (li' lk' : List Int) (ts' : List R3) : Bool := (eqI li li' && eqI lk lk') && sameRs ts ts'

/-! Walks. -/
theorem equalInts_ret (l l' : List Int) (sv sv' : Value) (w : World) (h : Sl encI 1 w sv l) (h' : Sl encI 1 w sv' l') : Ret Tryz.prog 33 [sv, sv'] w fun v w' => v = .bool (eqI l l') ∧ Ext w w' := by
  have hl1 := h.len_le
  have hl2 := h'.len_le
  refine Ret.enter Tryz.func33 Tryz.ntmps33 rfl rfl ?_
  refine WC.seq ?_
  refine WC.region ?_
  refine WL.v (RV.assign rfl) rfl ?_
  refine WL.nil ?_
  refine QF.seqNext ?_
  refine WC.seq ?_
  refine WC.seq ?_
  refine WC.region ?_
  refine WL.v (RV.move rfl) rfl ?_
  refine WL.v (RV.len (by first | exact h | exact h') Tryz.underlying23 rfl) rfl ?_
  refine WL.v (RV.move rfl) rfl ?_
  refine WL.v (RV.len (by first | exact h | exact h') Tryz.underlying23 rfl) rfl ?_
  refine WL.v (RV.neq rfl rfl) rfl ?_
  refine WL.nil ?_
  refine QF.seqNext ?_
  by_cases hl : l.length = l'.length
  · skip
    refine WC.condF rfl ((by rw [hl]; simp)) ?_
    refine WC.skip ?_
    refine QF.seqNext ?_
    refine WC.seq ?_
    refine WC.seq ?_
    refine WC.region ?_
    refine WL.v (RV.move rfl) rfl ?_
    refine WL.v (RV.len (by first | exact h | exact h') Tryz.underlying23 rfl) rfl ?_
    refine WL.v (RV.move rfl) rfl ?_
    refine WL.nil ?_
    refine QF.seqNext ?_
    refine WC.block ?_
    refine WC.loop (fun y : Nat × World => [(0, sv), (1, sv'), (12, .int .i64 l.length), (13, .int .i64 y.1)]) (fun y : Nat × World => y.2) (fun y : Nat × World => y.1 ≤ l.length ∧ Ext w y.2 ∧ ∀ i, i < y.1 → (nth l i == nth l' i) = true) (fun y : Nat × World => l.length - y.1) (0, w) (⟨Nat.zero_le _, Ext.refl _, fun i hi => absurd hi (Nat.not_lt_zero i)⟩) ⟨rfl, rfl, rfl, rfl, trivial⟩ rfl ?_
    rintro ⟨k, w1⟩ ⟨hk, hE, hyes⟩
    dsimp only at hk hE hyes ⊢
    have g1 := h.ext hE
    have g2 := h'.ext hE
    refine WC.seq ?_
    refine WC.region ?_
    refine WL.v (RV.lss rfl rfl) rfl ?_
    refine WL.nil ?_
    refine QF.seqNext ?_
    refine WC.seq ?_
    refine WC.cond rfl ?_ ?_
    · intro hlt
      replace hlt : k < l.length := by have := of_decide_eq_true hlt; omega
      have hlt2 : k < l'.length := by omega
      have m1 := g1.ld hlt
      have m2 := g2.ld hlt2
      refine WC.skip ?_
      refine QF.seqNext ?_
      refine WC.seq ?_
      refine WC.block ?_
      refine WC.seq ?_
      refine WC.region ?_
      refine WL.v (RV.move rfl) rfl ?_
      refine WL.v (RV.assign rfl) rfl ?_
      refine WL.nil ?_
      refine QF.seqNext ?_
      refine WC.seq ?_
      refine WC.still (by kernel_rfl) (by kernel_rfl) ?_
      refine WS.v (RV.move rfl) rfl ?_
      refine WS.v (RV.move rfl) rfl ?_
      refine WS.v (RV.indexAddr (by first | exact (g1).drew | exact (g2).drew) Tryz.underlying23 (Tryz.sizeOf3 _) rfl rfl _ rfl (by omega)) rfl ?_
      refine WS.v (RV.load (by first | exact m1 | exact m2) (Tryz.isAgg3 _) rfl) rfl ?_
      refine WS.v (RV.move rfl) rfl ?_
      refine WS.v (RV.move rfl) rfl ?_
      refine WS.v (RV.indexAddr (by first | exact (g1).drew | exact (g2).drew) Tryz.underlying23 (Tryz.sizeOf3 _) rfl rfl _ rfl (by omega)) rfl ?_
      refine WS.v (RV.load (by first | exact m1 | exact m2) (Tryz.isAgg3 _) rfl) rfl ?_
      refine WS.v (RV.neq rfl rfl) rfl ?_
      refine WS.nil ?_
      refine QF.seqNext ?_
      refine WC.cond rfl ?_ ?_
      · intro hy
        replace hy : nth l k ≠ nth l' k := by simpa using hy
        refine WC.seq ?_
        refine WC.region ?_
        refine WL.v (RV.assign rfl) rfl ?_
        refine WL.nil ?_
        refine QF.seqNext ?_
        refine WC.ret ?_
        refine QF.blockRet ?_
        refine QF.thenRet ?_
        refine QF.thenRet ?_
        refine QF.blockRet ?_
        refine QF.thenRet ?_
        refine QF.done1 rfl rfl (⟨by rw [eqI_at hlt hy], hE.drew⟩)
      · intro hy
        replace hy : nth l k = nth l' k := by simpa using hy
        refine WC.skip ?_
        refine QF.blockNormal ?_
        refine QF.seqNext ?_
        refine WC.region ?_
        refine WL.v (RV.add rfl rfl (Fit.i64 (by omega))) rfl ?_
        refine WL.v (RV.move rfl) rfl ?_
        refine WL.nil ?_
        refine QF.next ((k + 1, w1.drew)) (⟨hlt, hE.drew, fun i hi => (Nat.lt_succ_iff_lt_or_eq.1 hi).elim (hyes i) (fun e => by rw [e, hy]; simp)⟩) (by dsimp only; omega) ⟨rfl, rfl, rfl, rfl, trivial⟩ rfl
    · intro hge
      replace hge : l.length ≤ k := by have := of_decide_eq_false hge; omega
      refine WC.exit ?_
      refine QF.thenExit ?_
      refine QF.thenExit ?_
      refine QF.blockHit ?_
      refine QF.seqNext ?_
      refine WC.seq ?_
      refine WC.region ?_
      refine WL.v (RV.assign rfl) rfl ?_
      refine WL.nil ?_
      refine QF.seqNext ?_
      refine WC.ret ?_
      refine QF.done1 rfl rfl (⟨by unfold eqI; rw [decide_eq_true hl, allN_all fun i hi => hyes i (by omega)]; rfl, hE⟩)
  · skip
    refine WC.condT rfl ((by simpa using fun e : (l.length : Int) = (l'.length : Int) => hl (by omega))) ?_
    refine WC.seq ?_
    refine WC.region ?_
    refine WL.v (RV.assign rfl) rfl ?_
    refine WL.nil ?_
    refine QF.seqNext ?_
    refine WC.ret ?_
    refine QF.thenRet ?_
    refine QF.done1 rfl rfl (⟨by rw [eqI_len hl], Ext.refl _⟩)
theorem sameRule_ret (t s : R3) (x y : X3) (w : World) (h : Rt (fun _ => 0) w t x) (h' : Rt (fun _ => 0) w s y) : Ret Tryz.prog 35 [nr x, nr y] w fun v w' => v = .bool (sameR t s) ∧ Ext w w' := by
  have ox := encR_ones (b := x.2.2) h.1.one h.2.1.one
  have oy := encR_ones (b := y.2.2) h'.1.one h'.2.1.one
  refine Ret.enter Tryz.func35 Tryz.ntmps35 rfl rfl ?_
  refine WC.seq ?_
  refine WC.region ?_
  refine WL.boxO (Rng.start w) 1 (by omega) rfl rfl ?_
  intro xb w1 O1 hx1 hU1 hR1 hE1
  refine WL.boxO hR1 2 (by omega) rfl rfl ?_
  intro yb w2 O2 hy2 hU2 hR2 hE2
  have hx2 := hx1.upd hU2 (by decide) (by decide)
  have hE := hE1.trans hE2
  obtain ⟨lx, rx, bx, _⟩ := rt_cells hx2
  obtain ⟨ly, ry, yy, _⟩ := rt_cells hy2
  have b1 := bx w2 (Ext.refl _)
  have b2 := yy w2 (Ext.refl _)
  rw [h.2.2] at b1
  rw [h'.2.2] at b2
  refine WL.v (RV.assign rfl) rfl ?_
  refine WL.nil ?_
  refine QF.seqNext ?_
  refine WC.seq ?_
  refine WC.region ?_
  refine WL.v (RV.fieldAddr 6 Tryz.underlying50 rfl rfl (Tryz.sizeOf4 _) (by decide) rfl) rfl ?_
  refine WL.v (RV.load (by first | exact b1 | exact b2) (Tryz.isAgg4 _) rfl) rfl ?_
  refine WL.v (RV.fieldAddr 6 Tryz.underlying50 rfl rfl (Tryz.sizeOf4 _) (by decide) rfl) rfl ?_
  refine WL.v (RV.load (by first | exact b1 | exact b2) (Tryz.isAgg4 _) rfl) rfl ?_
  refine WL.v (RV.eqlB Tryz.underlying4 rfl rfl) rfl ?_
  refine WL.v (RV.move rfl) rfl ?_
  refine WL.andBS (Ext w2) (sameM t.1 s.1) 5 (Ext.refl w2) rfl rfl rfl rfl rfl ?_ ?_
  · skip
    intro a1
    refine WL.on rfl ?_
    refine WL.v (RV.fieldAddr 0 Tryz.underlying50 rfl rfl (Tryz.sizeOf48 _) (by decide) rfl) rfl ?_
    refine WL.on rfl ?_
    refine WL.v (RV.loadAgg (us := encN x.1) (lx _ (Ext.refl _)) (Tryz.isAgg48 _) (Tryz.sizeOf48 _) rfl) rfl ?_
    refine WL.on rfl ?_
    refine WL.v (RV.fieldAddr 0 Tryz.underlying50 rfl rfl (Tryz.sizeOf48 _) (by decide) rfl) rfl ?_
    refine WL.on rfl ?_
    refine WL.v (RV.loadAgg (us := encN y.1) (ly _ (Ext.refl _)) (Tryz.isAgg48 _) (Tryz.sizeOf48 _) rfl) rfl ?_
    refine WL.on rfl ?_
    refine WL.call Tryz.call52 rfl (same_ret (nsz t.1) t.1 s.1 (Nat.le_refl _) x.1 y.1 w2 (h.1.ext hE) (h'.1.ext hE)) rfl ?_
    rintro v w3 ⟨rfl, hE3⟩
    refine WL.nil ?_
    refine QF.andEnd (tA := 10) 6 (hE3) rfl rfl rfl (fun v hv => (Option.some.inj hv).symm.trans (congrArg Value.bool a1)) rfl
  intro w3 hE3
  refine WL.v (RV.move rfl) rfl ?_
  refine WL.andBS (Ext w2) (sameM t.2.1 s.2.1) 5 (hE3) rfl rfl rfl rfl rfl ?_ ?_
  · skip
    intro a2
    refine WL.on rfl ?_
    refine WL.v (RV.fieldAddr 3 Tryz.underlying50 rfl rfl (Tryz.sizeOf48 _) (by decide) rfl) rfl ?_
    refine WL.on rfl ?_
    refine WL.v (RV.loadAgg (us := encN x.2.1) (rx _ hE3) (Tryz.isAgg48 _) (Tryz.sizeOf48 _) rfl) rfl ?_
    refine WL.on rfl ?_
    refine WL.v (RV.fieldAddr 3 Tryz.underlying50 rfl rfl (Tryz.sizeOf48 _) (by decide) rfl) rfl ?_
    refine WL.on rfl ?_
    refine WL.v (RV.loadAgg (us := encN y.2.1) (ry _ hE3) (Tryz.isAgg48 _) (Tryz.sizeOf48 _) rfl) rfl ?_
    refine WL.on rfl ?_
    refine WL.call Tryz.call52 rfl (same_ret (nsz t.2.1) t.2.1 s.2.1 (Nat.le_refl _) x.2.1 y.2.1 _ (h.2.1.ext (hE.trans hE3)) (h'.2.1.ext (hE.trans hE3))) rfl ?_
    rintro v w4 ⟨rfl, hE4⟩
    refine WL.nil ?_
    refine QF.andEnd (tA := 17) 6 (hE3.trans hE4) rfl rfl rfl (fun v hv => (Option.some.inj hv).symm.trans (congrArg Value.bool a2)) rfl
  intro w4 hE4
  refine WL.v (RV.assign rfl) rfl ?_
  refine WL.nil ?_
  refine QF.seqNext ?_
  refine WC.ret ?_
  refine QF.done1 rfl rfl (⟨rfl, hE.trans hE4⟩)
theorem equalRule_ret {F : FuncId} (hF : ∀ (args : Array Value) (w : World), (callFunc F args).run Tryz.prog w = .ok (.enter F args) w) (l1 l2 : List (X3)) (v1 v2 : Value) (q : Nat → Bool) (w : World) (h1 : Sl encR 7 w v1 l1) (h2 : Sl encR 7 w v2 l2) (ho1 : ∀ i, i < l1.length → ∀ c ∈ encR (nth l1 i), c.oneCell' = true) (ho2 : ∀ i, i < l2.length → ∀ c ∈ encR (nth l2 i), c.oneCell' = true)
    (hq : ∀ i, i < l1.length → i < l2.length → ∀ w', Ext w w' → Ret Tryz.prog F [nr (nth l1 i), nr (nth l2 i)] w' fun v w'' => v = .bool (q i) ∧ Ext w' w'') :
    Ret Tryz.prog 34 [v1, v2, .func (.func F) #[] #[]] w fun v w' => v = .bool (decide (l1.length = l2.length) && allN q l1.length) ∧ Ext w w' := by
  have hl1 := h1.len_le
  have hl2 := h2.len_le
  refine Ret.enter Tryz.func34 Tryz.ntmps34 rfl rfl ?_
  refine WC.seq ?_
  refine WC.region ?_
  refine WL.v (RV.assign rfl) rfl ?_
  refine WL.nil ?_
  refine QF.seqNext ?_
  refine WC.seq ?_
  refine WC.seq ?_
  refine WC.region ?_
  refine WL.v (RV.move rfl) rfl ?_
  refine WL.v (RV.len (by first | exact h1 | exact h2) Tryz.underlying24 rfl) rfl ?_
  refine WL.v (RV.move rfl) rfl ?_
  refine WL.v (RV.len (by first | exact h1 | exact h2) Tryz.underlying24 rfl) rfl ?_
  refine WL.v (RV.neq rfl rfl) rfl ?_
  refine WL.nil ?_
  refine QF.seqNext ?_
  by_cases hl : l1.length = l2.length
  · skip
    refine WC.condF rfl ((by rw [hl]; simp)) ?_
    refine WC.skip ?_
    refine QF.seqNext ?_
    refine WC.seq ?_
    refine WC.seq ?_
    refine WC.region ?_
    refine WL.v (RV.move rfl) rfl ?_
    refine WL.v (RV.len (by first | exact h1 | exact h2) Tryz.underlying24 rfl) rfl ?_
    refine WL.v (RV.move rfl) rfl ?_
    refine WL.nil ?_
    refine QF.seqNext ?_
    refine WC.block ?_
    refine WC.loop (fun y : Nat × World => [(1, v2), (2, .func (.func F) #[] #[]), (15, v1), (16, .int .i64 l1.length), (17, .int .i64 y.1)]) (fun y : Nat × World => y.2) (fun y : Nat × World => y.1 ≤ l1.length ∧ Ext w y.2 ∧ ∀ i, i < y.1 → q i = true) (fun y : Nat × World => l1.length - y.1) (0, w) (⟨Nat.zero_le _, Ext.refl _, fun i hi => absurd hi (Nat.not_lt_zero i)⟩) ⟨rfl, rfl, rfl, rfl, rfl, trivial⟩ rfl ?_
    rintro ⟨k, w1⟩ ⟨hk, hE, hyes⟩
    dsimp only at hk hE hyes ⊢
    have g1 := h1.ext hE
    have g2 := h2.ext hE
    refine WC.seq ?_
    refine WC.region ?_
    refine WL.v (RV.lss rfl rfl) rfl ?_
    refine WL.nil ?_
    refine QF.seqNext ?_
    refine WC.seq ?_
    refine WC.cond rfl ?_ ?_
    · intro hlt
      replace hlt : k < l1.length := by have := of_decide_eq_true hlt; omega
      have hlt2 : k < l2.length := by omega
      have o1 := ho1 k hlt
      have o2 := ho2 k hlt2
      refine WC.skip ?_
      refine QF.seqNext ?_
      refine WC.seq ?_
      refine WC.block ?_
      refine WC.seq ?_
      refine WC.region ?_
      refine WL.v (RV.move rfl) rfl ?_
      refine WL.v (RV.indexAddr (by first | exact g1 | exact g2) Tryz.underlying24 (Tryz.sizeOf50 _) rfl rfl _ rfl (by omega)) rfl ?_
      refine WL.v (RV.loadAgg (us := encR (nth l1 k)) (fun j u hu => g1.cell hlt hu) (Tryz.isAgg50 _) (Tryz.sizeOf50 _) rfl) rfl ?_
      refine WL.allocO (Rng.start w1) 1 (by omega) (Tryz.zeroValue50 _) rfl ?_
      intro ab w2 O2 ha2 hU2 hR2 hE2
      refine WL.v (RV.assign rfl) rfl ?_
      refine WL.storeAgg (us := (encR (nth l1 k)).toArray) ha2 rfl (Tryz.sizeOf50 _) (List.all_eq_true.2 o1) rfl rfl rfl ?_
      have ha3 := ha2.setRow (us := (encR (nth l1 k)).toArray)
      have hU3 : Upd (fun j => j = 1) O2 w2 O2 (w2.setRow ab (encR (nth l1 k)).toArray) := Upd.setRow (by decide) ha2.tag rfl
      have hR3 := hR2.upd hU3
      have hU13 := hU2.trans hU3
      generalize w2.setRow ab (encR (nth l1 k)).toArray = w3 at *
      have g23 := g2.ext hU13.ext
      refine WL.nil ?_
      refine QF.seqNext ?_
      refine WC.seq ?_
      refine WC.region ?_
      refine WL.v (RV.move rfl) rfl ?_
      refine WL.v (RV.move rfl) rfl ?_
      refine WL.v (RV.indexAddr (by first | exact g23) Tryz.underlying24 (Tryz.sizeOf50 _) rfl rfl _ rfl (by omega)) rfl ?_
      refine WL.v (RV.loadAgg (us := encR (nth l2 k)) (fun j u hu => g23.cell hlt2 hu) (Tryz.isAgg50 _) (Tryz.sizeOf50 _) rfl) rfl ?_
      refine WL.allocO hR3 2 (by omega) (Tryz.zeroValue50 _) rfl ?_
      intro bb w4 O4 hb4 hU4 hR4 hE4
      refine WL.storeAgg (us := (encR (nth l2 k)).toArray) hb4 rfl (Tryz.sizeOf50 _) (List.all_eq_true.2 o2) rfl rfl rfl ?_
      have hb5 := hb4.setRow (us := (encR (nth l2 k)).toArray)
      have hU5 : Upd (fun j => j = 2) O4 w4 O4 (w4.setRow bb (encR (nth l2 k)).toArray) := Upd.setRow (by decide) hb4.tag rfl
      have hU45 := hU4.trans hU5
      have ha5 := ha3.upd hU45 (by decide) (by decide)
      have hE5 : Ext w1 (w4.setRow bb (encR (nth l2 k)).toArray) := ((hU13.mono (S' := fun j => j = 1 ∨ j = 2) (fun _ h => .inl h) (by decide)).trans (hU45.mono (fun _ h => .inr h) (by decide))).ext
      generalize w4.setRow bb (encR (nth l2 k)).toArray = w5 at *
      refine WL.nil ?_
      refine QF.seqNext ?_
      refine WC.seq ?_
      refine WC.region ?_
      refine WL.v (RV.move rfl) rfl ?_
      refine WL.v (RV.loadAgg (us := encR (nth l1 k)) ha5.cellsAdd (Tryz.isAgg50 _) (Tryz.sizeOf50 _) rfl) rfl ?_
      refine WL.v (RV.loadAgg (us := encR (nth l2 k)) hb5.cellsAdd (Tryz.isAgg50 _) (Tryz.sizeOf50 _) rfl) rfl ?_
      refine WL.callV rfl hF rfl (hq k hlt hlt2 w5 (hE.trans hE5)) rfl ?_
      rintro v w6 ⟨rfl, hE6⟩
      refine WL.v (RV.not rfl) rfl ?_
      refine WL.nil ?_
      refine QF.seqNext ?_
      refine WC.cond rfl ?_ ?_
      · intro hy
        replace hy : q k = false := by simpa using hy
        refine WC.seq ?_
        refine WC.region ?_
        refine WL.v (RV.assign rfl) rfl ?_
        refine WL.nil ?_
        refine QF.seqNext ?_
        refine WC.ret ?_
        refine QF.blockRet ?_
        refine QF.thenRet ?_
        refine QF.thenRet ?_
        refine QF.blockRet ?_
        refine QF.thenRet ?_
        refine QF.done1 rfl rfl (⟨by rw [allN_no hlt hy, Bool.and_false], (hE.trans hE5).trans hE6⟩)
      · intro hy
        replace hy : q k = true := by simpa using hy
        refine WC.skip ?_
        refine QF.blockNormal ?_
        refine QF.seqNext ?_
        refine WC.region ?_
        refine WL.v (RV.add rfl rfl (Fit.i64 (by omega))) rfl ?_
        refine WL.v (RV.move rfl) rfl ?_
        refine WL.nil ?_
        refine QF.next ((k + 1, w6)) (⟨hlt, (hE.trans hE5).trans hE6, fun i hi => (Nat.lt_succ_iff_lt_or_eq.1 hi).elim (hyes i) (fun e => by rw [e]; exact hy)⟩) (by dsimp only; omega) ⟨rfl, rfl, rfl, rfl, rfl, trivial⟩ rfl
    · intro hge
      replace hge : l1.length ≤ k := by have := of_decide_eq_false hge; omega
      refine WC.exit ?_
      refine QF.thenExit ?_
      refine QF.thenExit ?_
      refine QF.blockHit ?_
      refine QF.seqNext ?_
      refine WC.seq ?_
      refine WC.region ?_
      refine WL.v (RV.assign rfl) rfl ?_
      refine WL.nil ?_
      refine QF.seqNext ?_
      refine WC.ret ?_
      refine QF.done1 rfl rfl (⟨by rw [decide_eq_true hl, allN_all fun i hi => hyes i (by omega)]; rfl, hE⟩)
  · skip
    refine WC.condT rfl ((by simpa using fun e : (l1.length : Int) = (l2.length : Int) => hl (by omega))) ?_
    refine WC.seq ?_
    refine WC.region ?_
    refine WL.v (RV.assign rfl) rfl ?_
    refine WL.nil ?_
    refine QF.seqNext ?_
    refine WC.ret ?_
    refine QF.thenRet ?_
    refine QF.done1 rfl rfl (⟨by rw [decide_eq_false hl]; rfl, Ext.refl _⟩)
/-- A meaning in memory. -/
structure Tx (w : World) (v : Value) (li lk : List Int) (ts : List R3) : Prop where
  ex : ∃ ig kp ru xs, v = txtV ig kp ru ∧ Sl encI 1 w ig li ∧ Sl encI 1 w kp lk ∧ Sl encR 7 w ru xs ∧ ts.length = xs.length ∧ ∀ i, i < xs.length → Rt (fun _ => 0) w (nth ts i) (nth xs i)
theorem Tx.ext {w w' : World} {v : Value} {li lk : List Int} {ts : List R3} (h : Tx w v li lk ts) (e : Ext w w') : Tx w' v li lk ts := by
  obtain ⟨ig, kp, ru, xs, hv, h1, h2, h3, h4, h5⟩ := h
  exact ⟨ig, kp, ru, xs, hv, h1.ext e, h2.ext e, h3.ext e, h4, fun i hi => (h5 i hi).ext e⟩
theorem ruleSame_ret (li lk li' lk' : List Int) (ts ts' : List R3) (v v' : Value) (w : World) (h : Tx w v li lk ts) (h' : Tx w v' li' lk' ts') : Ret Tryz.prog 15 [v, v'] w fun u w' => u = .bool (sameT li lk ts li' lk' ts') ∧ Ext w w' := by
  obtain ⟨ig, kp, ru, xs, rfl, h1, h2, h3, h4, h5⟩ := h
  obtain ⟨ig', kp', ru', xs', rfl, h1', h2', h3', h4', h5'⟩ := h'
  have o1 := h1.one
  have o2 := h2.one
  have o3 := h3.one
  have o1' := h1'.one
  have o2' := h2'.one
  have o3' := h3'.one
  have hrs : sameRs ts ts' = (decide (xs.length = xs'.length) && allN (fun i => sameR (nth ts i) (nth ts' i)) xs.length) := by unfold sameRs; rw [h4, h4']
  refine Ret.enter Tryz.func15 Tryz.ntmps15 rfl rfl ?_
  refine WC.seq ?_
  refine WC.region ?_
  refine WL.boxO (Rng.start w) 1 (by omega) rfl rfl ?_
  intro xb w1 O1 hx1 hU1 hR1 hE1
  refine WL.boxO hR1 2 (by omega) rfl rfl ?_
  intro yb w2 O2 hy2 hU2 hR2 hE2
  have hx2 := hx1.upd hU2 (by decide) (by decide)
  have hE := hE1.trans hE2
  have c0 : w2.cell? ((⟨xb, 0, none⟩ : Addr).add 0) = some ig := hx2.cell 0 rfl
  have c1 : w2.cell? ((⟨xb, 0, none⟩ : Addr).add 1) = some kp := hx2.cell 1 rfl
  have c2 : w2.cell? ((⟨xb, 0, none⟩ : Addr).add 2) = some ru := hx2.cell 2 rfl
  have d0 : w2.cell? ((⟨yb, 0, none⟩ : Addr).add 0) = some ig' := hy2.cell 0 rfl
  have d1 : w2.cell? ((⟨yb, 0, none⟩ : Addr).add 1) = some kp' := hy2.cell 1 rfl
  have d2 : w2.cell? ((⟨yb, 0, none⟩ : Addr).add 2) = some ru' := hy2.cell 2 rfl
  refine WL.v (RV.assign rfl) rfl ?_
  refine WL.nil ?_
  refine QF.seqNext ?_
  refine WC.seq ?_
  refine WC.region ?_
  refine WL.v (RV.fieldAddr 0 Tryz.underlying26 rfl rfl (Tryz.sizeOf23 _) (by decide) rfl) rfl ?_
  refine WL.v (RV.load (by first | exact c0 | exact d0) (Tryz.isAgg23 _) rfl) rfl ?_
  refine WL.v (RV.fieldAddr 0 Tryz.underlying26 rfl rfl (Tryz.sizeOf23 _) (by decide) rfl) rfl ?_
  refine WL.v (RV.load (by first | exact c0 | exact d0) (Tryz.isAgg23 _) rfl) rfl ?_
  refine WL.call Tryz.call33 rfl (equalInts_ret li li' ig ig' w2 (h1.ext hE) (h1'.ext hE)) rfl ?_
  rintro u w3 ⟨rfl, hE3⟩
  refine WL.v (RV.move rfl) rfl ?_
  refine WL.andBS (Ext w2) (eqI lk lk') 5 (hE3) rfl rfl rfl rfl rfl ?_ ?_
  · skip
    intro a1
    refine WL.on rfl ?_
    refine WL.v (RV.fieldAddr 1 Tryz.underlying26 rfl rfl (Tryz.sizeOf23 _) (by decide) rfl) rfl ?_
    refine WL.on rfl ?_
    refine WL.v (RV.load (by first | exact hE3.cell c1 | exact hE3.cell d1) (Tryz.isAgg23 _) rfl) rfl ?_
    refine WL.on rfl ?_
    refine WL.v (RV.fieldAddr 1 Tryz.underlying26 rfl rfl (Tryz.sizeOf23 _) (by decide) rfl) rfl ?_
    refine WL.on rfl ?_
    refine WL.v (RV.load (by first | exact hE3.cell c1 | exact hE3.cell d1) (Tryz.isAgg23 _) rfl) rfl ?_
    refine WL.on rfl ?_
    refine WL.call Tryz.call33 rfl (equalInts_ret lk lk' kp kp' _ (h2.ext (hE.trans hE3)) (h2'.ext (hE.trans hE3))) rfl ?_
    rintro u w4 ⟨rfl, hE4⟩
    refine WL.nil ?_
    refine QF.andEnd (tA := 10) 6 (hE3.trans hE4) rfl rfl rfl (fun v hv => (Option.some.inj hv).symm.trans (congrArg Value.bool a1)) rfl
  intro w4 hE4
  refine WL.v (RV.move rfl) rfl ?_
  refine WL.andBS (Ext w2) ((decide (xs.length = xs'.length) && allN (fun i => sameR (nth ts i) (nth ts' i)) xs.length)) 5 (hE4) rfl rfl rfl rfl rfl ?_ ?_
  · skip
    intro a2
    refine WL.on rfl ?_
    refine WL.v (RV.fieldAddr 2 Tryz.underlying26 rfl rfl (Tryz.sizeOf24 _) (by decide) rfl) rfl ?_
    refine WL.on rfl ?_
    refine WL.v (RV.load (by first | exact hE4.cell c2 | exact hE4.cell d2) (Tryz.isAgg24 _) rfl) rfl ?_
    refine WL.on rfl ?_
    refine WL.v (RV.fieldAddr 2 Tryz.underlying26 rfl rfl (Tryz.sizeOf24 _) (by decide) rfl) rfl ?_
    refine WL.on rfl ?_
    refine WL.v (RV.load (by first | exact hE4.cell c2 | exact hE4.cell d2) (Tryz.isAgg24 _) rfl) rfl ?_
    refine WL.on rfl ?_
    refine WL.call Tryz.call34 rfl (equalRule_ret Tryz.call35 xs xs' ru ru' (fun i => sameR (nth ts i) (nth ts' i)) _ (h3.ext (hE.trans hE4)) (h3'.ext (hE.trans hE4)) (fun i hi => encR_ones (b := (nth xs i).2.2) (h5 i hi).1.one (h5 i hi).2.1.one) (fun i hi => encR_ones (b := (nth xs' i).2.2) (h5' i hi).1.one (h5' i hi).2.1.one) (fun i hi hi' w' hE' => sameRule_ret (nth ts i) (nth ts' i) (nth xs i) (nth xs' i) w' ((h5 i hi).ext ((hE.trans hE4).trans hE')) ((h5' i hi').ext ((hE.trans hE4).trans hE')))) rfl ?_
    rintro u w5 ⟨rfl, hE5⟩
    refine WL.nil ?_
    refine QF.andEnd (tA := 17) 6 (hE4.trans hE5) rfl rfl rfl (fun v hv => (Option.some.inj hv).symm.trans (congrArg Value.bool a2)) rfl
  intro w5 hE5
  refine WL.v (RV.assign rfl) rfl ?_
  refine WL.nil ?_
  refine QF.seqNext ?_
  refine WC.ret ?_
  refine QF.done1 rfl rfl (⟨by unfold sameT; rw [hrs], hE.trans hE5⟩)
/-- How much there is. -/
def Few (li lk : List Int) (ts : List R3) : Prop := ts.length ≤ 45 ∧ li.length ≤ 40 ∧ lk.length ≤ 40 ∧ ∀ i, i < ts.length → nsz (nth ts i).1 ≤ 150 ∧ nsz (nth ts i).2.1 ≤ 150
theorem great_ret (li lk : List Int) (ts : List R3) (v : Value) (w : World) (h : Tx w v li lk ts) : Ret Tryz.prog 9 [v] w fun u w' => ∃ g, u = .bool g ∧ Ext w w' ∧ (g = false → Few li lk ts) := by
  obtain ⟨ig, kp, ru, xs, rfl, h1, h2, h3, h4, h5⟩ := h
  have o1 := h1.one
  have o2 := h2.one
  have o3 := h3.one
  refine Ret.enter Tryz.func9 Tryz.ntmps9 rfl rfl ?_
  refine WC.seq ?_
  refine WC.region ?_
  refine WL.boxO (Rng.start w) 1 (by omega) rfl rfl ?_
  intro xb w1 O1 hx1 hU1 hR1 hE1
  have c0 : w1.cell? ((⟨xb, 0, none⟩ : Addr).add 0) = some ig := hx1.cell 0 rfl
  have c1 : w1.cell? ((⟨xb, 0, none⟩ : Addr).add 1) = some kp := hx1.cell 1 rfl
  have c2 : w1.cell? ((⟨xb, 0, none⟩ : Addr).add 2) = some ru := hx1.cell 2 rfl
  have g1 := h1.ext hE1
  have g2 := h2.ext hE1
  have g3 := h3.ext hE1
  refine WL.v (RV.assign rfl) rfl ?_
  refine WL.nil ?_
  refine QF.seqNext ?_
  refine WC.seq ?_
  refine WC.seq ?_
  refine WC.region ?_
  refine WL.v (RV.fieldAddr 2 Tryz.underlying35 rfl rfl (Tryz.sizeOf32 _) (by decide) rfl) rfl ?_
  refine WL.v (RV.load (by first | exact c0 | exact c1 | exact c2) (Tryz.isAgg32 _) rfl) rfl ?_
  refine WL.v (RV.len (by first | exact g3 | exact g1 | exact g2) Tryz.underlying32 rfl) rfl ?_
  refine WL.v (RV.gtr rfl rfl) rfl ?_
  refine WL.v (RV.move rfl) rfl ?_
  refine WL.orBS (fun w1 => _ = w1) (decide ((40 : Int) < (li.length : Int))) 4 (rfl) rfl rfl rfl rfl rfl ?_ ?_
  · skip
    intro a1
    refine WL.on rfl ?_
    refine WL.v (RV.fieldAddr 0 Tryz.underlying35 rfl rfl (Tryz.sizeOf23 _) (by decide) rfl) rfl ?_
    refine WL.on rfl ?_
    refine WL.v (RV.load (by first | exact c0 | exact c1 | exact c2) (Tryz.isAgg23 _) rfl) rfl ?_
    refine WL.on rfl ?_
    refine WL.v (RV.len (by first | exact g3 | exact g1 | exact g2) Tryz.underlying23 rfl) rfl ?_
    refine WL.on rfl ?_
    refine WL.v (RV.gtr rfl rfl) rfl ?_
    refine WL.nil ?_
    refine QF.andEnd (tA := 9) 5 (rfl) rfl rfl rfl (fun v hv => (Option.some.inj hv).symm.trans (congrArg Value.bool a1)) rfl
  rintro _ rfl
  refine WL.v (RV.move rfl) rfl ?_
  refine WL.orBS (fun w1 => _ = w1) (decide ((40 : Int) < (lk.length : Int))) 4 (rfl) rfl rfl rfl rfl rfl ?_ ?_
  · skip
    intro a2
    refine WL.on rfl ?_
    refine WL.v (RV.fieldAddr 1 Tryz.underlying35 rfl rfl (Tryz.sizeOf23 _) (by decide) rfl) rfl ?_
    refine WL.on rfl ?_
    refine WL.v (RV.load (by first | exact c0 | exact c1 | exact c2) (Tryz.isAgg23 _) rfl) rfl ?_
    refine WL.on rfl ?_
    refine WL.v (RV.len (by first | exact g3 | exact g1 | exact g2) Tryz.underlying23 rfl) rfl ?_
    refine WL.on rfl ?_
    refine WL.v (RV.gtr rfl rfl) rfl ?_
    refine WL.nil ?_
    refine QF.andEnd (tA := 15) 5 (rfl) rfl rfl rfl (fun v hv => (Option.some.inj hv).symm.trans (congrArg Value.bool a2)) rfl
  rintro _ rfl
  refine WL.nil ?_
  refine QF.seqNext ?_
  refine WC.cond rfl ?_ ?_
  · intro hc
    refine WC.seq ?_
    refine WC.region ?_
    refine WL.v (RV.assign rfl) rfl ?_
    refine WL.nil ?_
    refine QF.seqNext ?_
    refine WC.ret ?_
    refine QF.thenRet ?_
    refine QF.done1 rfl rfl (⟨true, rfl, hE1, fun e => by cases e⟩)
  · intro hc
    simp only [Bool.or_eq_false_iff, decide_eq_false_iff_not] at hc
    obtain ⟨⟨hc1, hc2⟩, hc3⟩ := hc
    refine WC.skip ?_
    refine QF.seqNext ?_
    refine WC.seq ?_
    refine WC.region ?_
    refine WL.v (RV.assign rfl) rfl ?_
    refine WL.nil ?_
    refine QF.seqNext ?_
    refine WC.seq ?_
    refine WC.seq ?_
    refine WC.region ?_
    refine WL.v (RV.assign rfl) rfl ?_
    refine WL.nil ?_
    refine QF.seqNext ?_
    refine WC.block ?_
    refine WC.loop (fun y : Nat × Nat × World => [(1, .pointer (some ⟨xb, 0, none⟩)), (3, .int .i64 (y.2.1 : Nat)), (4, .int .i64 y.1)]) (fun y : Nat × Nat × World => y.2.2) (fun y : Nat × Nat × World => y.1 ≤ xs.length ∧ y.2.1 ≤ 302 * y.1 ∧ Ext w1 y.2.2 ∧ ∀ j, j < y.1 → min (nsz (nth ts j).1) 151 + min (nsz (nth ts j).2.1) 151 ≤ y.2.1) (fun y : Nat × Nat × World => xs.length - y.1) (0, 0, w1) (⟨Nat.zero_le _, by dsimp only; omega, Ext.refl _, fun j hj => absurd hj (Nat.not_lt_zero j)⟩) ⟨rfl, rfl, rfl, trivial⟩ rfl ?_
    rintro ⟨i, s, w2⟩ ⟨hi, hs302, hE2, hge⟩
    dsimp only at hi hs302 hE2 hge ⊢
    have d2 := hE2.cell c2
    have g32 := g3.ext hE2
    refine WC.seq ?_
    refine WC.seq ?_
    refine WC.region ?_
    refine WL.v (RV.move rfl) rfl ?_
    refine WL.v (RV.fieldAddr 2 Tryz.underlying35 rfl rfl (Tryz.sizeOf32 _) (by decide) rfl) rfl ?_
    refine WL.v (RV.load (by first | exact d2) (Tryz.isAgg32 _) rfl) rfl ?_
    refine WL.v (RV.len (by first | exact g32) Tryz.underlying32 rfl) rfl ?_
    refine WL.v (RV.lss rfl rfl) rfl ?_
    refine WL.v (RV.move rfl) rfl ?_
    refine WL.andBS (fun w1 => _ = w1) (decide ((s : Int) ≤ 150)) 2 (rfl) rfl rfl rfl rfl rfl ?_ ?_
    · skip
      intro b1
      refine WL.on rfl ?_
      refine WL.v (RV.move rfl) rfl ?_
      refine WL.on rfl ?_
      refine WL.v (RV.leq rfl rfl) rfl ?_
      refine WL.nil ?_
      refine QF.andEnd (tA := 26) 3 (rfl) rfl rfl rfl (fun v hv => (Option.some.inj hv).symm.trans (congrArg Value.bool b1)) rfl
    rintro _ rfl
    refine WL.nil ?_
    refine QF.seqNext ?_
    refine WC.cond rfl ?_ ?_
    · intro hc
      simp only [Bool.and_eq_true, decide_eq_true_eq] at hc
      have hlt : i < xs.length := by omega
      have hrt := (h5 i hlt).ext (hE1.trans hE2)
      have hlc : ∀ W, Ext w2 W → ∀ (j : Nat) (u : Value), (encN (nth xs i).1)[j]? = some u → W.cell? (((adr ru 7 i).add 0).add j) = some u := fun W hE j u hu => by
        have e : (((adr ru 7 i).add 0).add j) = (adr ru 7 i).add j := by rw [Addr.add_add, Nat.zero_add]
        rw [e]
        refine hE.cell (g32.cell hlt ?_)
        simp only [encN] at hu
        match j, hu with
        | 0, hu => exact hu
        | 1, hu => exact hu
        | 2, hu => exact hu
      have hrc : ∀ W, Ext w2 W → ∀ (j : Nat) (u : Value), (encN (nth xs i).2.1)[j]? = some u → W.cell? (((adr ru 7 i).add 3).add j) = some u := fun W hE j u hu => by
        have e : (((adr ru 7 i).add 3).add j) = (adr ru 7 i).add (3 + j) := by rw [Addr.add_add]
        rw [e]
        refine hE.cell (g32.cell hlt ?_)
        simp only [encN] at hu
        match j, hu with
        | 0, hu => exact hu
        | 1, hu => exact hu
        | 2, hu => exact hu
      refine WC.skip ?_
      refine QF.seqNext ?_
      refine WC.seq ?_
      refine WC.block ?_
      refine WC.quiet (Ext w2) (by kernel_rfl) (by kernel_rfl) ((Ext.refl w2).drew) ?_
      refine WQ.v (fun w1 hw1 => RV.move rfl) rfl ?_
      refine WQ.v (fun w1 hw1 => RV.fieldAddr 2 Tryz.underlying35 rfl rfl (Tryz.sizeOf32 _) (by decide) rfl) rfl ?_
      refine WQ.v (fun w1 hw1 => RV.load (by first | exact hw1.cell d2) (Tryz.isAgg32 _) rfl) rfl ?_
      refine WQ.v (fun w1 hw1 => RV.move rfl) rfl ?_
      refine WQ.v (fun w1 hw1 => RV.indexAddr (g32.ext hw1) Tryz.underlying32 (Tryz.sizeOf64 _) rfl rfl i rfl hlt) rfl ?_
      refine WQ.v (fun w1 hw1 => RV.fieldAddr 0 Tryz.underlying64 rfl rfl (Tryz.sizeOf62 _) (by decide) rfl) rfl ?_
      refine WQ.v (fun w1 hw1 => RV.loadAgg (us := encN (nth xs i).1) (hlc _ hw1) (Tryz.isAgg62 _) (Tryz.sizeOf62 _) rfl) rfl ?_
      refine WQ.call Tryz.call20 rfl (fun w1 hw1 => (rsize_ret (nsz (nth ts i).1) (nth ts i).1 (Nat.le_refl _) (nth xs i).1 _ 150 (hrt.1.ext hw1) (by decide)).mono fun v w' h => ⟨h.1, hw1.trans h.2⟩) rfl ?_
      refine WQ.v (fun w1 hw1 => RV.add rfl rfl (Fit.i64 (by omega))) rfl ?_
      refine WQ.v (fun w1 hw1 => RV.fieldAddr 2 Tryz.underlying35 rfl rfl (Tryz.sizeOf32 _) (by decide) rfl) rfl ?_
      refine WQ.v (fun w1 hw1 => RV.load (by first | exact hw1.cell d2) (Tryz.isAgg32 _) rfl) rfl ?_
      refine WQ.v (fun w1 hw1 => RV.move rfl) rfl ?_
      refine WQ.v (fun w1 hw1 => RV.indexAddr (g32.ext hw1) Tryz.underlying32 (Tryz.sizeOf64 _) rfl rfl i rfl hlt) rfl ?_
      refine WQ.v (fun w1 hw1 => RV.fieldAddr 3 Tryz.underlying64 rfl rfl (Tryz.sizeOf62 _) (by decide) rfl) rfl ?_
      refine WQ.v (fun w1 hw1 => RV.loadAgg (us := encN (nth xs i).2.1) (hrc _ hw1) (Tryz.isAgg62 _) (Tryz.sizeOf62 _) rfl) rfl ?_
      refine WQ.call Tryz.call20 rfl (fun w1 hw1 => (rsize_ret (nsz (nth ts i).2.1) (nth ts i).2.1 (Nat.le_refl _) (nth xs i).2.1 _ 150 (hrt.2.1.ext hw1) (by decide)).mono fun v w' h => ⟨h.1, hw1.trans h.2⟩) rfl ?_
      refine WQ.v (fun w1 hw1 => RV.add rfl rfl (Fit.i64 (by omega))) rfl ?_
      refine WQ.v (fun w1 hw1 => RV.assign rfl) rfl ?_
      refine WQ.nil ?_
      intro w3 hE3
      refine QF.blockNormal ?_
      refine QF.seqNext ?_
      refine WC.region ?_
      refine WL.v (RV.move rfl) rfl ?_
      refine WL.v (RV.add rfl rfl (Fit.i64 (by omega))) rfl ?_
      refine WL.v (RV.assign rfl) rfl ?_
      refine WL.nil ?_
      rw [show (s : Int) + ((min (nsz (nth ts i).1) (150 + 1) : Nat) : Int) + ((min (nsz (nth ts i).2.1) (150 + 1) : Nat) : Int) = ((s + (min (nsz (nth ts i).1) 151 + min (nsz (nth ts i).2.1) 151) : Nat) : Int) from by omega]
      refine QF.next ((i + 1, s + (min (nsz (nth ts i).1) 151 + min (nsz (nth ts i).2.1) 151), w3)) (⟨hlt, by dsimp only; omega, hE2.trans hE3, fun j hj => (Nat.lt_succ_iff_lt_or_eq.1 hj).elim (fun h => by have := hge j h; dsimp only; omega) (fun e => by dsimp only; rw [e]; omega)⟩) (by dsimp only; omega) ⟨rfl, rfl, rfl, trivial⟩ rfl
    · intro hc
      simp only [Bool.and_eq_false_iff, decide_eq_false_iff_not] at hc
      have hfew : decide ((150 : Int) < (s : Int)) = false → Few li lk ts := fun e => by
        have hs := of_decide_eq_false e
        have hil : i = xs.length := by omega
        refine ⟨by omega, by omega, by omega, fun j hj => ?_⟩
        have := hge j (by omega)
        omega
      refine WC.exit ?_
      refine QF.thenExit ?_
      refine QF.thenExit ?_
      refine QF.blockHit ?_
      refine QF.seqNext ?_
      refine WC.seq ?_
      refine WC.region ?_
      refine WL.v (RV.move rfl) rfl ?_
      refine WL.v (RV.gtr rfl rfl) rfl ?_
      refine WL.v (RV.assign rfl) rfl ?_
      refine WL.nil ?_
      refine QF.seqNext ?_
      refine WC.ret ?_
      refine QF.done1 rfl rfl (⟨decide ((150 : Int) < (s : Int)), rfl, hE1.trans hE2, hfew⟩)
end Go.Proofs.YtmohcfjopaccdaaGreatDoor
