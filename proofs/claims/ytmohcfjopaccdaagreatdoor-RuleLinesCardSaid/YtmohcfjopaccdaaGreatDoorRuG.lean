/- Packages expr and rule, walked: Print. -/
import Derived.Test.YtmohcfjopaccdaaGreatDoorRuF
namespace Go.Proofs.YtmohcfjopaccdaaGreatDoor
open Go.VL Go.Proofs
set_option maxRecDepth 10000

abbrev nr (x : X3) : Value := .agg (encR x).toArray
/-- What 'text' says of a tree. -/
def TextC (t : Nd) : Prop := ∀ (x : N3) (w : World), Nt (fun _ => 0) w t x → Ret Tryz.prog 72 [nv x] w fun v w' => v = .string (bs (textM t)) ∧ Ext w w'
theorem text0 (c : Int) : TextC (.mk 0 c []) := by
  intro x w h
  have hx := h.ones
  refine Ret.enter Tryz.func72 Tryz.ntmps72 rfl rfl ?_
  refine WC.seq ?_
  refine WC.region ?_
  refine WL.boxO (Rng.start w) 1 (by omega) rfl rfl ?_
  intro xb w1 O1 hx1 hU1 hR1 hE1
  have c0 : w1.cell? ((⟨xb, 0, none⟩ : Addr).add 0) = some (.int .i64 0) := (hx1.cell 0 rfl).trans (by rw [hx]; rfl)
  have c1 : w1.cell? ((⟨xb, 0, none⟩ : Addr).add 1) = some (.int .i64 c) := (hx1.cell 1 rfl).trans (by rw [hx]; rfl)
  refine WL.v (RV.assign rfl) rfl ?_
  refine WL.nil ?_
  refine QF.seqNext ?_
  refine WC.seq ?_
  refine WC.seq ?_
  refine WC.region ?_
  refine WL.v (RV.fieldAddr 0 Tryz.underlying48 rfl rfl (Tryz.sizeOf3 _) (by decide) rfl) rfl ?_
  refine WL.v (RV.load (by first | exact c0 | exact c1) (Tryz.isAgg3 _) rfl) rfl ?_
  refine WL.nil ?_
  refine QF.seqNext ?_
  refine WC.block ?_
  refine WC.seq ?_
  refine WC.region ?_
  refine WL.v (RV.eql rfl rfl) rfl ?_
  refine WL.v (RV.assign rfl) rfl ?_
  refine WL.nil ?_
  refine QF.seqNext ?_
  refine WC.condT rfl (rfl) ?_
  refine WC.seq ?_
  refine WC.region ?_
  refine WL.v (RV.fieldAddr 1 Tryz.underlying48 rfl rfl (Tryz.sizeOf3 _) (by decide) rfl) rfl ?_
  refine WL.v (RV.load (by first | exact c0 | exact c1) (Tryz.isAgg3 _) rfl) rfl ?_
  refine WL.call Tryz.call43 rfl (name1_ret c w1) rfl ?_
  rintro v w2 ⟨rfl, hE2⟩
  refine WL.v (RV.assign rfl) rfl ?_
  refine WL.nil ?_
  refine QF.seqNext ?_
  refine WC.ret ?_
  refine QF.blockRet ?_
  refine QF.thenRet ?_
  refine QF.done1 rfl rfl (⟨rfl, hE1.trans hE2⟩)
theorem eprint_ret (t : Nd) (x : N3) (w : World) (h : Nt (fun _ => 0) w t x) (hT : rightM t = true → TextC t) : Ret Tryz.prog 45 [nv x] w fun v w' => v = .string (bs (printM t)) ∧ Ext w w' := by
  have hx := h.ones
  refine Ret.enter Tryz.func45 Tryz.ntmps45 rfl rfl ?_
  refine WC.seq ?_
  refine WC.region ?_
  refine WL.boxO (Rng.start w) 1 (by omega) rfl rfl ?_
  intro xb w1 O1 hx1 hU1 hR1 hE1
  have hc1 : ∀ W, Ext w1 W → ∀ (j : Nat) (u : Value), (encN x)[j]? = some u → W.cell? ((⟨xb, 0, none⟩ : Addr).add j) = some u := fun W hE j u hu => hE.cell (hx1.cellsAdd j u hu)
  refine WL.v (RV.assign rfl) rfl ?_
  refine WL.nil ?_
  refine QF.seqNext ?_
  refine WC.seq ?_
  refine WC.seq ?_
  refine WC.region ?_
  refine WL.v (RV.loadAgg (us := encN x) (hc1 w1 (Ext.refl _)) (Tryz.isAgg48 _) (Tryz.sizeOf48 _) rfl) rfl ?_
  refine WL.call Tryz.call49 rfl (right_ret t x w1 (h.ext hE1)) rfl ?_
  rintro v w2 ⟨rfl, hE2⟩
  refine WL.v (RV.not rfl) rfl ?_
  refine WL.nil ?_
  refine QF.seqNext ?_
  cases hr : rightM t with
  | false =>
    refine WC.condT rfl (rfl) ?_
    refine WC.seq ?_
    refine WC.region ?_
    refine WL.v (RV.assign rfl) rfl ?_
    refine WL.nil ?_
    refine QF.seqNext ?_
    refine WC.ret ?_
    refine QF.thenRet ?_
    refine QF.done1 rfl rfl (⟨by unfold printM; rw [if_neg (by rw [hr]; decide)]; rfl, hE1.trans hE2⟩)
  | true =>
    refine WC.condF rfl (rfl) ?_
    refine WC.skip ?_
    refine QF.seqNext ?_
    refine WC.seq ?_
    refine WC.region ?_
    refine WL.v (RV.loadAgg (us := encN x) (hc1 w2 hE2) (Tryz.isAgg48 _) (Tryz.sizeOf48 _) rfl) rfl ?_
    refine WL.call Tryz.call72 rfl (hT hr x w2 (h.ext (hE1.trans hE2))) rfl ?_
    rintro v w3 ⟨rfl, hE3⟩
    refine WL.v (RV.assign rfl) rfl ?_
    refine WL.nil ?_
    refine QF.seqNext ?_
    refine WC.ret ?_
    refine QF.done1 rfl rfl (⟨by unfold printM; rw [if_pos hr], (hE1.trans hE2).trans hE3⟩)
theorem rt_cells {O : Nat → Nat} {w : World} {i b : Nat} {x : X3} {E : TypeId} (h : BlkO O w i b (encR x).toArray E) : (∀ W, Ext w W → ∀ (q : Nat) (u : Value), (encN x.1)[q]? = some u → W.cell? ((⟨b, 0, none⟩ : Addr).add q) = some u) ∧ (∀ W, Ext w W → ∀ (q : Nat) (u : Value), (encN x.2.1)[q]? = some u → W.cell? (((⟨b, 0, none⟩ : Addr).add 3).add q) = some u) ∧ (∀ W, Ext w W → W.cell? ((⟨b, 0, none⟩ : Addr).add 6) = some (.bool x.2.2)) ∧ (∀ W, Ext w W → ∀ (q : Nat) (u : Value), (encR x)[q]? = some u → W.cell? ((⟨b, 0, none⟩ : Addr).add q) = some u) := by
  obtain ⟨x1, x2, brk⟩ := x
  refine ⟨fun W hE q u hu => hE.cell (h.cellsAdd q u ?_), fun W hE q u hu => hE.cell (right_cells h q u hu), fun W hE => hE.cell (h.cellsAdd 6 _ rfl), fun W hE q u hu => hE.cell (h.cellsAdd q u hu)⟩
  simp only [encN] at hu
  match q, hu with
  | 0, hu => exact hu
  | 1, hu => exact hu
  | 2, hu => exact hu
theorem Rt.ext {O : Nat → Nat} {w w' : World} {t : R3} {x : X3} (h : Rt O w t x) (e : Ext w w') : Rt O w' t x := ⟨h.1.ext e, h.2.1.ext e, h.2.2⟩
theorem Rt.zero {O : Nat → Nat} {w : World} {t : R3} {x : X3} (h : Rt O w t x) : Rt (fun _ => 0) w t x := ⟨h.1.zero, h.2.1.zero, h.2.2⟩
theorem rright_ret (t : R3) (x : X3) (w : World) (h : Rt (fun _ => 0) w t x) : Ret Tryz.prog 30 [nr x] w fun v w' => v = .bool (ruleR t) ∧ Ext w w' := by
  have hx1o := h.1.one
  have hx2o := h.2.1.one
  have hone := encR_ones (b := x.2.2) hx1o hx2o
  refine Ret.enter Tryz.func30 Tryz.ntmps30 rfl rfl ?_
  refine WC.seq ?_
  refine WC.region ?_
  refine WL.boxO (Rng.start w) 1 (by omega) rfl rfl ?_
  intro xb w1 O1 hx1 hU1 hR1 hE1
  obtain ⟨lc, rc, bc, _⟩ := rt_cells hx1
  refine WL.v (RV.assign rfl) rfl ?_
  refine WL.nil ?_
  refine QF.seqNext ?_
  refine WC.seq ?_
  refine WC.region ?_
  refine WL.v (RV.fieldAddr 0 Tryz.underlying50 rfl rfl (Tryz.sizeOf48 _) (by decide) rfl) rfl ?_
  refine WL.v (RV.loadAgg (us := encN x.1) (lc w1 (Ext.refl _)) (Tryz.isAgg48 _) (Tryz.sizeOf48 _) rfl) rfl ?_
  refine WL.call Tryz.call49 rfl (right_ret t.1 x.1 w1 (h.1.ext hE1)) rfl ?_
  rintro v w2 ⟨rfl, hE2⟩
  refine WL.v (RV.move rfl) rfl ?_
  refine WL.andBS (Ext w1) (rightM t.2.1) 3 (hE2) rfl rfl rfl rfl rfl ?_ ?_
  · skip
    intro a1
    refine WL.on rfl ?_
    refine WL.v (RV.fieldAddr 3 Tryz.underlying50 rfl rfl (Tryz.sizeOf48 _) (by decide) rfl) rfl ?_
    refine WL.on rfl ?_
    refine WL.v (RV.loadAgg (us := encN x.2.1) (rc _ hE2) (Tryz.isAgg48 _) (Tryz.sizeOf48 _) rfl) rfl ?_
    refine WL.on rfl ?_
    refine WL.call Tryz.call49 rfl (right_ret t.2.1 x.2.1 _ (h.2.1.ext (hE1.trans hE2))) rfl ?_
    rintro v w3 ⟨rfl, hE3⟩
    refine WL.nil ?_
    refine QF.andEnd (tA := 6) 4 (hE2.trans hE3) rfl rfl rfl (fun v hv => (Option.some.inj hv).symm.trans (congrArg Value.bool a1)) rfl
  intro w3 hE3
  refine WL.v (RV.move rfl) rfl ?_
  refine WL.andBS (Ext w1) ((looksM t.2.1 == 0)) 4 (hE3) rfl rfl rfl rfl rfl ?_ ?_
  · skip
    intro a2
    refine WL.on rfl ?_
    refine WL.v (RV.fieldAddr 3 Tryz.underlying50 rfl rfl (Tryz.sizeOf48 _) (by decide) rfl) rfl ?_
    refine WL.on rfl ?_
    refine WL.v (RV.loadAgg (us := encN x.2.1) (rc _ hE3) (Tryz.isAgg48 _) (Tryz.sizeOf48 _) rfl) rfl ?_
    refine WL.on rfl ?_
    refine WL.call Tryz.call50 rfl (looks_ret t.2.1 x.2.1 _ (h.2.1.ext (hE1.trans hE3))) rfl ?_
    rintro v w4 ⟨rfl, hE4⟩
    refine WL.on rfl ?_
    refine WL.v (RV.eql rfl rfl) rfl ?_
    refine WL.nil ?_
    refine QF.andEnd (tA := 11) 5 (hE3.trans hE4) rfl rfl rfl (fun v hv => (Option.some.inj hv).symm.trans (congrArg Value.bool a2)) rfl
  intro w4 hE4
  refine WL.v (RV.assign rfl) rfl ?_
  refine WL.nil ?_
  refine QF.seqNext ?_
  refine WC.ret ?_
  refine QF.done1 rfl rfl (⟨rfl, hE1.trans hE4⟩)
theorem right1_ret (t : R3) (x : X3) (w : World) (h : Rt (fun _ => 0) w t x) : Ret Tryz.prog 29 [nr x] w fun v w' => v = .bool (!(ruleR t)) ∧ Ext w w' := by
  have hx1o := h.1.one
  have hx2o := h.2.1.one
  have hone := encR_ones (b := x.2.2) hx1o hx2o
  refine Ret.enter Tryz.func29 Tryz.ntmps29 rfl rfl ?_
  refine WC.seq ?_
  refine WC.region ?_
  refine WL.boxO (Rng.start w) 1 (by omega) rfl rfl ?_
  intro xb w1 O1 hx1 hU1 hR1 hE1
  obtain ⟨_, _, _, ac⟩ := rt_cells hx1
  refine WL.v (RV.assign rfl) rfl ?_
  refine WL.nil ?_
  refine QF.seqNext ?_
  refine WC.seq ?_
  refine WC.region ?_
  refine WL.v (RV.loadAgg (us := encR x) (ac w1 (Ext.refl _)) (Tryz.isAgg50 _) (Tryz.sizeOf50 _) rfl) rfl ?_
  refine WL.call Tryz.call30 rfl (rright_ret t x w1 (h.ext hE1)) rfl ?_
  rintro v w2 ⟨rfl, hE2⟩
  refine WL.v (RV.not rfl) rfl ?_
  refine WL.v (RV.assign rfl) rfl ?_
  refine WL.nil ?_
  refine QF.seqNext ?_
  refine WC.ret ?_
  refine QF.done1 rfl rfl (⟨rfl, hE1.trans hE2⟩)
/-- 'slices.IndexFunc[[]virgule/rule.Rule,virgule/rule.Rule]': the first place at which a function says yes; the function may make memory. -/
theorem indexFuncRule_ret {F : FuncId} (hF : ∀ (args : Array Value) (w : World), (callFunc F args).run Tryz.prog w = .ok (.enter F args) w) (cs : Array Value) (l : List (X3)) (sv : Value) (q : Nat → Bool) (w : World) (h : Sl encR 7 w sv l)
    (hq : ∀ i, i < l.length → ∀ w', Ext w w' → Ret Tryz.prog F ([nr (nth l i)] ++ cs.toList) w' fun v w'' => v = .bool (q i) ∧ Ext w' w'') :
    Ret Tryz.prog 48 [sv, .func (.func F) #[] cs] w fun v w' => v = .int .i64 (firstN q l.length) ∧ Ext w w' := by
  have hl := h.len_le
  refine Ret.enter Tryz.func48 Tryz.ntmps48 rfl rfl ?_
  refine WC.seq ?_
  refine WC.region ?_
  refine WL.v (RV.assign rfl) rfl ?_
  refine WL.nil ?_
  refine QF.seqNext ?_
  refine WC.seq ?_
  refine WC.seq ?_
  refine WC.region ?_
  refine WL.v (RV.move rfl) rfl ?_
  refine WL.v (RV.len (by first | exact h) Tryz.underlying24 rfl) rfl ?_
  refine WL.v (RV.move rfl) rfl ?_
  refine WL.nil ?_
  refine QF.seqNext ?_
  refine WC.block ?_
  refine WC.loop (fun x : Nat × World => [(0, sv), (1, .func (.func F) #[] cs), (7, .int .i64 l.length), (8, .int .i64 x.1)]) (fun x : Nat × World => x.2) (fun x : Nat × World => x.1 ≤ l.length ∧ Ext w x.2 ∧ ∀ i, i < x.1 → q i = false) (fun x : Nat × World => l.length - x.1) (0, w) (⟨Nat.zero_le _, Ext.refl _, fun i hi => absurd hi (Nat.not_lt_zero i)⟩) ⟨rfl, rfl, rfl, rfl, trivial⟩ rfl ?_
  rintro ⟨k, w1⟩ ⟨hk, hE, hno⟩
  dsimp only at hk hE hno ⊢
  have h1 := h.ext hE
  refine WC.seq ?_
  refine WC.region ?_
  refine WL.v (RV.lss rfl rfl) rfl ?_
  refine WL.nil ?_
  refine QF.seqNext ?_
  refine WC.seq ?_
  refine WC.cond rfl ?_ ?_
  · intro hlt
    replace hlt : k < l.length := by have := of_decide_eq_true hlt; omega
    refine WC.skip ?_
    refine QF.seqNext ?_
    refine WC.seq ?_
    refine WC.block ?_
    refine WC.seq ?_
    refine WC.region ?_
    refine WL.v (RV.move rfl) rfl ?_
    refine WL.v (RV.assign rfl) rfl ?_
    refine WL.nil ?_
    refine QF.seqNext ?_
    refine WC.seq ?_
    refine WC.region ?_
    refine WL.v (RV.move rfl) rfl ?_
    refine WL.v (RV.move rfl) rfl ?_
    refine WL.v (RV.move rfl) rfl ?_
    refine WL.v (RV.indexAddr (by first | exact h1) Tryz.underlying24 (Tryz.sizeOf50 _) rfl rfl _ rfl (by omega)) rfl ?_
    refine WL.v (RV.loadAgg (us := encR (nth l k)) (fun j u hu => h1.cell hlt hu) (Tryz.isAgg50 _) (Tryz.sizeOf50 _) rfl) rfl ?_
    refine WL.callV rfl hF rfl (hq k hlt w1 hE) rfl ?_
    rintro v w2 ⟨rfl, hE2⟩
    refine WL.nil ?_
    refine QF.seqNext ?_
    refine WC.cond rfl ?_ ?_
    · intro hy
      refine WC.seq ?_
      refine WC.region ?_
      refine WL.v (RV.move rfl) rfl ?_
      refine WL.v (RV.assign rfl) rfl ?_
      refine WL.nil ?_
      refine QF.seqNext ?_
      refine WC.ret ?_
      refine QF.blockRet ?_
      refine QF.thenRet ?_
      refine QF.thenRet ?_
      refine QF.blockRet ?_
      refine QF.thenRet ?_
      refine QF.done1 rfl rfl (⟨by rw [firstN_yes hlt hy hno], hE.trans hE2⟩)
    · intro hy
      refine WC.skip ?_
      refine QF.blockNormal ?_
      refine QF.seqNext ?_
      refine WC.region ?_
      refine WL.v (RV.add rfl rfl (Fit.i64 (by omega))) rfl ?_
      refine WL.v (RV.move rfl) rfl ?_
      refine WL.nil ?_
      refine QF.next ((k + 1, w2)) (⟨hlt, hE.trans hE2, fun i hi => (Nat.lt_succ_iff_lt_or_eq.1 hi).elim (hno i) (fun e => by rw [e]; exact hy)⟩) (by omega) ⟨rfl, rfl, rfl, rfl, trivial⟩ rfl
  · intro hge
    replace hge : l.length ≤ k := by have := of_decide_eq_false hge; omega
    refine WC.exit ?_
    refine QF.thenExit ?_
    refine QF.thenExit ?_
    refine QF.blockHit ?_
    refine QF.seqNext ?_
    refine WC.seq ?_
    refine WC.region ?_
    refine WL.v (RV.assign rfl) rfl ?_
    refine WL.nil ?_
    refine QF.seqNext ?_
    refine WC.ret ?_
    refine QF.done1 rfl rfl (⟨by rw [firstN_no fun i hi => hno i (by omega)], hE⟩)
theorem containsFuncRule_ret {F : FuncId} (hF : ∀ (args : Array Value) (w : World), (callFunc F args).run Tryz.prog w = .ok (.enter F args) w) (cs : Array Value) (l : List (X3)) (sv : Value) (q : Nat → Bool) (w : World) (h : Sl encR 7 w sv l)
    (hq : ∀ i, i < l.length → ∀ w', Ext w w' → Ret Tryz.prog F ([nr (nth l i)] ++ cs.toList) w' fun v w'' => v = .bool (q i) ∧ Ext w' w'') :
    Ret Tryz.prog 28 [sv, .func (.func F) #[] cs] w fun v w' => v = .bool (anyN q l.length) ∧ Ext w w' := by
  refine Ret.enter Tryz.func28 Tryz.ntmps28 rfl rfl ?_
  refine WC.seq ?_
  refine WC.region ?_
  refine WL.v (RV.assign rfl) rfl ?_
  refine WL.nil ?_
  refine QF.seqNext ?_
  refine WC.seq ?_
  refine WC.region ?_
  refine WL.v (RV.move rfl) rfl ?_
  refine WL.v (RV.move rfl) rfl ?_
  refine WL.call Tryz.call48 rfl (indexFuncRule_ret hF cs l sv q w h hq) rfl ?_
  rintro v w1 ⟨rfl, hE⟩
  refine WL.v (RV.geq rfl rfl) rfl ?_
  refine WL.v (RV.assign rfl) rfl ?_
  refine WL.nil ?_
  refine QF.seqNext ?_
  refine WC.ret ?_
  refine QF.done1 rfl rfl (⟨by rw [firstN_any], hE⟩)
theorem rightT_ret (li lk : List Int) (ts : List R3) (xs : List X3) (ig kp ru : Value) (w : World) (hi : Sl (fun c : Int => [Value.int .i64 c]) 1 w ig li) (hk : Sl (fun c : Int => [Value.int .i64 c]) 1 w kp lk) (hr : Sl encR 7 w ru xs) (hl : ts.length = xs.length) (hx : ∀ i, i < xs.length → Rt (fun _ => 0) w (nth ts i) (nth xs i)) :
    Ret Tryz.prog 13 [txtV ig kp ru] w fun v w' => v = .bool (rightT li lk ts) ∧ Ext w w' := by
  have hio := hi.one
  have hko := hk.one
  have hro := hr.one
  refine Ret.enter Tryz.func13 Tryz.ntmps13 rfl rfl ?_
  refine WC.seq ?_
  refine WC.region ?_
  refine WL.boxO (Rng.start w) 1 (by omega) rfl rfl ?_
  intro xb w1 O1 hx1 hU1 hR1 hE1
  have c0 : w1.cell? ((⟨xb, 0, none⟩ : Addr).add 0) = some ig := hx1.cell 0 rfl
  have c1 : w1.cell? ((⟨xb, 0, none⟩ : Addr).add 1) = some kp := hx1.cell 1 rfl
  have c2 : w1.cell? ((⟨xb, 0, none⟩ : Addr).add 2) = some ru := hx1.cell 2 rfl
  have hr1 := hr.ext hE1
  refine WL.v (RV.assign rfl) rfl ?_
  refine WL.nil ?_
  refine QF.seqNext ?_
  refine WC.seq ?_
  refine WC.region ?_
  refine WL.v (RV.fieldAddr 2 Tryz.underlying26 rfl rfl (Tryz.sizeOf24 _) (by decide) rfl) rfl ?_
  refine WL.v (RV.load (by first | exact c0 | exact c1 | exact c2) (Tryz.isAgg24 _) rfl) rfl ?_
  refine WL.v (RV.len (by first | exact hr1) Tryz.underlying24 rfl) rfl ?_
  refine WL.v (RV.leq rfl rfl) rfl ?_
  refine WL.v (RV.move rfl) rfl ?_
  refine WL.andBS (fun w1 => _ = w1) (risesM li) 3 (rfl) rfl rfl rfl rfl rfl ?_ ?_
  · skip
    intro a1
    refine WL.on rfl ?_
    refine WL.v (RV.fieldAddr 0 Tryz.underlying26 rfl rfl (Tryz.sizeOf23 _) (by decide) rfl) rfl ?_
    refine WL.on rfl ?_
    refine WL.v (RV.load (by first | exact c0 | exact c1 | exact c2) (Tryz.isAgg23 _) rfl) rfl ?_
    refine WL.on rfl ?_
    refine WL.call Tryz.call27 rfl (rises_ret li ig w1 (hi.ext hE1)) rfl ?_
    rintro v w9 ⟨rfl, hw9⟩
    rw [hw9]
    clear hw9 w9
    refine WL.nil ?_
    refine QF.andEnd (tA := 7) 4 (rfl) rfl rfl rfl (fun v hv => (Option.some.inj hv).symm.trans (congrArg Value.bool a1)) rfl
  rintro _ rfl
  refine WL.v (RV.move rfl) rfl ?_
  refine WL.andBS (fun w1 => _ = w1) (risesM lk) 3 (rfl) rfl rfl rfl rfl rfl ?_ ?_
  · skip
    intro a2
    refine WL.on rfl ?_
    refine WL.v (RV.fieldAddr 1 Tryz.underlying26 rfl rfl (Tryz.sizeOf23 _) (by decide) rfl) rfl ?_
    refine WL.on rfl ?_
    refine WL.v (RV.load (by first | exact c0 | exact c1 | exact c2) (Tryz.isAgg23 _) rfl) rfl ?_
    refine WL.on rfl ?_
    refine WL.call Tryz.call27 rfl (rises_ret lk kp w1 (hk.ext hE1)) rfl ?_
    rintro v w9 ⟨rfl, hw9⟩
    rw [hw9]
    clear hw9 w9
    refine WL.nil ?_
    refine QF.andEnd (tA := 12) 4 (rfl) rfl rfl rfl (fun v hv => (Option.some.inj hv).symm.trans (congrArg Value.bool a2)) rfl
  rintro _ rfl
  refine WL.v (RV.move rfl) rfl ?_
  have hal : allR ts = !(anyN (fun i => !(ruleR (nth ts i))) xs.length) := by unfold allR; rw [hl]
  refine WL.andBS (Ext w1) ((!(anyN (fun i => !(ruleR (nth ts i))) xs.length))) 4 (Ext.refl w1) rfl rfl rfl rfl rfl ?_ ?_
  · skip
    intro a3
    refine WL.on rfl ?_
    refine WL.v (RV.fieldAddr 2 Tryz.underlying26 rfl rfl (Tryz.sizeOf24 _) (by decide) rfl) rfl ?_
    refine WL.on rfl ?_
    refine WL.v (RV.load (by first | exact c0 | exact c1 | exact c2) (Tryz.isAgg24 _) rfl) rfl ?_
    refine WL.on rfl ?_
    refine WL.call Tryz.call28 rfl (containsFuncRule_ret Tryz.call29 #[] xs ru (fun i => !(ruleR (nth ts i))) w1 hr1 (fun i hi w' hE => right1_ret (nth ts i) (nth xs i) w' ((hx i hi).ext (hE1.trans hE)))) rfl ?_
    rintro v w2 ⟨rfl, hE2⟩
    refine WL.on rfl ?_
    refine WL.v (RV.not rfl) rfl ?_
    refine WL.nil ?_
    refine QF.andEnd (tA := 17) 5 (hE2) rfl rfl rfl (fun v hv => (Option.some.inj hv).symm.trans (congrArg Value.bool a3)) rfl
  intro w2 hE2
  refine WL.v (RV.assign rfl) rfl ?_
  refine WL.nil ?_
  refine QF.seqNext ?_
  refine WC.ret ?_
  refine QF.done1 rfl rfl (⟨by unfold rightT; rw [hl, hal], hE1.trans hE2⟩)
end Go.Proofs.YtmohcfjopaccdaaGreatDoor
