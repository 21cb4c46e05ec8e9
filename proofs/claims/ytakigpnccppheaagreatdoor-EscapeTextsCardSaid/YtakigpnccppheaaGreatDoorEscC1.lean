/- Package escape, walked: what Dress asks of each insert. -/
import Derived.Test.YtakigpnccppheaaGreatDoorEscC0
namespace Go.Proofs.YtakigpnccppheaaGreatDoor
open Go.VL Go.Proofs
set_option maxRecDepth 4000
/-- 'slices.IndexFunc[[]virgule/escape.Insert,virgule/escape.Insert]': the first place at which a function says yes; the function may make memory. -/
theorem indexFuncN_ret {F : FuncId} (hF : ∀ (args : Array Value) (w : World), (callFunc F args).run Tryz.prog w = .ok (.enter F args) w) (cs : Array Value) (l : List (Ins)) (sv : Value) (q : Nat → Bool) (w : World) (h : Sl encI 2 w sv l)
    (hq : ∀ i, i < l.length → ∀ w', Ext w w' → Ret Tryz.prog F ([(fun x : Ins => Value.agg #[.int .i64 x.1, .int .i64 x.2]) (nth l i)] ++ cs.toList) w' fun v w'' => v = .bool (q i) ∧ Ext w' w'') :
    Ret Tryz.prog 42 [sv, .func (.func F) #[] cs] w fun v w' => v = .int .i64 (firstN q l.length) ∧ Ext w w' := by
  have hl := h.len_le
  refine Ret.enter Tryz.func42 Tryz.ntmps42 rfl rfl ?_
  refine WC.seq ?_
  refine WC.region ?_
  refine WL.v (RV.assign rfl) rfl ?_
  refine WL.nil ?_
  refine QF.seqNext ?_
  refine WC.seq ?_
  refine WC.seq ?_
  refine WC.region ?_
  refine WL.v (RV.move rfl) rfl ?_
  refine WL.v (RV.len (by first | exact h) Tryz.underlying58 rfl) rfl ?_
  refine WL.v (RV.move rfl) rfl ?_
  refine WL.nil ?_
  refine QF.seqNext ?_
  refine WC.block ?_
  refine WC.loop (fun x : Nat × World => [(0, sv), (1, .func (.func F) #[] cs), (7, .int .i64 l.length), (8, .int .i64 x.1)]) (fun x : Nat × World => x.2) (fun x : Nat × World => x.1 ≤ l.length ∧ Ext w x.2 ∧ ∀ i, i < x.1 → q i = false) (fun x : Nat × World => l.length - x.1) (0, w) (⟨Nat.zero_le _, Ext.refl _, fun i hi => absurd hi (Nat.not_lt_zero i)⟩) ⟨rfl, rfl, rfl, rfl, trivial⟩ rfl ?_
  rintro ⟨k, w1⟩ ⟨hk, hE, hno⟩
  dsimp only at hk hE hno ⊢
  have h1 := h.ext hE
  refine WC.seq ?_
  refine WC.region ?_
  refine WL.v (RV.lss rfl rfl) rfl ?_
  refine WL.nil ?_
  refine QF.seqNext ?_
  refine WC.seq ?_
  refine WC.cond rfl ?_ ?_
  · intro hlt
    replace hlt : k < l.length := by have := of_decide_eq_true hlt; omega
    refine WC.skip ?_
    refine QF.seqNext ?_
    refine WC.seq ?_
    refine WC.block ?_
    refine WC.seq ?_
    refine WC.region ?_
    refine WL.v (RV.move rfl) rfl ?_
    refine WL.v (RV.assign rfl) rfl ?_
    refine WL.nil ?_
    refine QF.seqNext ?_
    refine WC.seq ?_
    refine WC.region ?_
    refine WL.v (RV.move rfl) rfl ?_
    refine WL.v (RV.move rfl) rfl ?_
    refine WL.v (RV.move rfl) rfl ?_
    refine WL.v (RV.indexAddr (by first | exact h1) Tryz.underlying58 (Tryz.sizeOf37 _) rfl rfl _ rfl (by omega)) rfl ?_
    refine WL.v (RV.loadAgg (us := encI (nth l k)) (fun j u hu => h1.cell hlt hu) (Tryz.isAgg37 _) (Tryz.sizeOf37 _) rfl) rfl ?_
    refine WL.callV rfl hF rfl (hq k hlt w1 hE) rfl ?_
    rintro v w2 ⟨rfl, hE2⟩
    refine WL.nil ?_
    refine QF.seqNext ?_
    refine WC.cond rfl ?_ ?_
    · intro hy
      refine WC.seq ?_
      refine WC.region ?_
      refine WL.v (RV.move rfl) rfl ?_
      refine WL.v (RV.assign rfl) rfl ?_
      refine WL.nil ?_
      refine QF.seqNext ?_
      refine WC.ret ?_
      refine QF.blockRet ?_
      refine QF.thenRet ?_
      refine QF.thenRet ?_
      refine QF.blockRet ?_
      refine QF.thenRet ?_
      refine QF.done1 rfl rfl (⟨by rw [firstN_yes hlt hy hno], hE.trans hE2⟩)
    · intro hy
      refine WC.skip ?_
      refine QF.blockNormal ?_
      refine QF.seqNext ?_
      refine WC.region ?_
      refine WL.v (RV.add rfl rfl (Fit.i64 (by omega))) rfl ?_
      refine WL.v (RV.move rfl) rfl ?_
      refine WL.nil ?_
      refine QF.next ((k + 1, w2)) (⟨hlt, hE.trans hE2, fun i hi => (Nat.lt_succ_iff_lt_or_eq.1 hi).elim (hno i) (fun e => by rw [e]; exact hy)⟩) (by omega) ⟨rfl, rfl, rfl, rfl, trivial⟩ rfl
  · intro hge
    replace hge : l.length ≤ k := by have := of_decide_eq_false hge; omega
    refine WC.exit ?_
    refine QF.thenExit ?_
    refine QF.thenExit ?_
    refine QF.blockHit ?_
    refine QF.seqNext ?_
    refine WC.seq ?_
    refine WC.region ?_
    refine WL.v (RV.assign rfl) rfl ?_
    refine WL.nil ?_
    refine QF.seqNext ?_
    refine WC.ret ?_
    refine QF.done1 rfl rfl (⟨by rw [firstN_no fun i hi => hno i (by omega)], hE⟩)
theorem containsFuncN_ret {F : FuncId} (hF : ∀ (args : Array Value) (w : World), (callFunc F args).run Tryz.prog w = .ok (.enter F args) w) (cs : Array Value) (l : List (Ins)) (sv : Value) (q : Nat → Bool) (w : World) (h : Sl encI 2 w sv l)
    (hq : ∀ i, i < l.length → ∀ w', Ext w w' → Ret Tryz.prog F ([(fun x : Ins => Value.agg #[.int .i64 x.1, .int .i64 x.2]) (nth l i)] ++ cs.toList) w' fun v w'' => v = .bool (q i) ∧ Ext w' w'') :
    Ret Tryz.prog 24 [sv, .func (.func F) #[] cs] w fun v w' => v = .bool (anyN q l.length) ∧ Ext w w' := by
  refine Ret.enter Tryz.func24 Tryz.ntmps24 rfl rfl ?_
  refine WC.seq ?_
  refine WC.region ?_
  refine WL.v (RV.assign rfl) rfl ?_
  refine WL.nil ?_
  refine QF.seqNext ?_
  refine WC.seq ?_
  refine WC.region ?_
  refine WL.v (RV.move rfl) rfl ?_
  refine WL.v (RV.move rfl) rfl ?_
  refine WL.call Tryz.call42 rfl (indexFuncN_ret hF cs l sv q w h hq) rfl ?_
  rintro v w1 ⟨rfl, hE⟩
  refine WL.v (RV.geq rfl rfl) rfl ?_
  refine WL.v (RV.assign rfl) rfl ?_
  refine WL.nil ?_
  refine QF.seqNext ?_
  refine WC.ret ?_
  refine QF.done1 rfl rfl (⟨by rw [firstN_any], hE⟩)

theorem dress1_ret (x : Ins) (w : World) : Ret Tryz.prog 25 [.agg #[.int .i64 x.1, .int .i64 x.2]] w fun v w' => v = .bool (!(markOk x.2)) ∧ Ext w w' := by
  refine Ret.enter Tryz.func25 Tryz.ntmps25 rfl rfl ?_
  refine WC.seq ?_
  refine WC.region ?_
  refine WL.boxO (Rng.start w) 1 (by omega) rfl rfl ?_
  intro xb w1 O1 hx hU1 hR1 hE1
  refine WL.v (RV.assign rfl) rfl ?_
  refine WL.nil ?_
  refine QF.seqNext ?_
  refine WC.seq ?_
  refine WC.region ?_
  refine WL.v (RV.fieldAddr 1 Tryz.underlying37 rfl rfl (Tryz.sizeOf3 _) (by decide) rfl) rfl ?_
  refine WL.v (RV.load (by first | exact hx.cell 1 rfl) (Tryz.isAgg3 _) rfl) rfl ?_
  refine WL.call Tryz.call6 rfl (escMark_ret x.2 w1) rfl ?_
  rintro v w2 ⟨rfl, hE2⟩
  refine WL.v (RV.move rfl) rfl ?_
  refine WL.v (RV.extract rfl rfl) rfl ?_
  refine WL.v (RV.extract rfl rfl) rfl ?_
  refine WL.v (RV.assign rfl) rfl ?_
  refine WL.v (RV.assign rfl) rfl ?_
  refine WL.nil ?_
  refine QF.seqNext ?_
  refine WC.seq ?_
  refine WC.region ?_
  refine WL.v (RV.move rfl) rfl ?_
  refine WL.v (RV.not rfl) rfl ?_
  refine WL.v (RV.assign rfl) rfl ?_
  refine WL.nil ?_
  refine QF.seqNext ?_
  refine WC.ret ?_
  refine QF.done1 rfl rfl (⟨rfl, hE1.trans hE2⟩)

theorem pl37 : Places Tryz.prog 37 #[(0, 1), (1, 1)] := ⟨_, Tryz.underlying37, fun w => by kernel_rfl⟩
theorem elIns : Elem Tryz.prog 58 37 2 16 := ⟨Tryz.underlying58, by kernel_rfl, by decide⟩
end Go.Proofs.YtakigpnccppheaaGreatDoor
