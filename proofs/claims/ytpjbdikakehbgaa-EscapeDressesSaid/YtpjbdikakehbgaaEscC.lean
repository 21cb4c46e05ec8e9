/- Package escape, walked: Mark, what Dress asks of each insert; the law's To. -/
import Derived.Test.YtpjbdikakehbgaaEscB
namespace Go.Proofs.Ytpjbdikakehbgaa
open Go.VL Go.Proofs
set_option maxRecDepth 4000

def marksL : List (List UInt8) := [[60, 98, 62], [60, 47, 98, 62], [60, 105, 32, 99, 108, 97, 115, 115, 61, 34, 97, 62, 98, 34, 62], [60, 33, 45, 45, 120, 45, 45, 62], [60, 33, 121, 62], [27, 91, 49, 109], [60, 47, 115, 112, 97, 110, 62]]
@[simp] def encS (x : List UInt8) : List Value := [.string (bs x)]
theorem marks_ret (w : World) : Ret Try.prog 27 [] w fun v w' => Sl encS 1 w' v marksL ∧ Ext w w' := by
  refine Ret.enter Try.func27 Try.ntmps27 rfl rfl ?_
  refine WC.seq ?_
  refine WC.region ?_
  refine WL.v (RV.assign rfl) rfl ?_
  refine WL.nil ?_
  refine QF.seqNext ?_
  refine WC.seq ?_
  refine WC.region ?_
  refine WL.buildSl Try.underlying46 (Try.sizeOf9 _) (Try.zeroValue9 _) encS marksL rfl rfl rfl rfl (by kernel_rfl) (by simp) rfl ?_
  intro v1 w1 h1 hE1
  refine WL.v (RV.assign rfl) rfl ?_
  refine WL.nil ?_
  refine QF.seqNext ?_
  refine WC.ret ?_
  refine QF.done1 rfl rfl (⟨h1, hE1⟩)
def markOk (k : Int) : Bool := decide (0 ≤ k) && decide (k < 7)
theorem marksL_nth (k : Nat) (h : k < 7) : nth marksL k = markM k := by
  have : k = 0 ∨ k = 1 ∨ k = 2 ∨ k = 3 ∨ k = 4 ∨ k = 5 ∨ k = 6 := by omega
  rcases this with rfl | rfl | rfl | rfl | rfl | rfl | rfl <;> rw [nth_eq (by decide)] <;> rfl
theorem markM_no (k : Int) (h : markOk k = false) : markM k = [] := by
  simp only [markOk, Bool.and_eq_false_iff, decide_eq_false_iff_not] at h
  unfold markM
  rw [if_neg (by omega), if_neg (by omega), if_neg (by omega), if_neg (by omega), if_neg (by omega), if_neg (by omega), if_neg (by omega)]
theorem markM_yes (k : Int) (h : markOk k = true) : markM k ≠ [] := by
  simp only [markOk, Bool.and_eq_true, decide_eq_true_eq] at h
  unfold markM
  (repeat' split) <;> first | (simp; done) | omega
theorem escMark_ret (k : Int) (w : World) : Ret Try.prog 15 [.int .i64 k] w fun v w' => v = .tuple #[.string (bs (markM k)), .bool (markOk k)] ∧ Ext w w' := by
  refine Ret.enter Try.func15 Try.ntmps15 rfl rfl ?_
  refine WC.seq ?_
  refine WC.region ?_
  refine WL.v (RV.assign rfl) rfl ?_
  refine WL.v (RV.assign rfl) rfl ?_
  refine WL.nil ?_
  refine QF.seqNext ?_
  refine WC.seq ?_
  refine WC.region ?_
  refine WL.call Try.call27 rfl (marks_ret w) rfl ?_
  rintro lv w1 ⟨hl, hE1⟩
  have hlen : marksL.length = 7 := rfl
  refine WL.v (RV.assign rfl) rfl ?_
  refine WL.nil ?_
  refine QF.seqNext ?_
  refine WC.seq ?_
  refine WC.seq ?_
  refine WC.region ?_
  refine WL.v (RV.move rfl) rfl ?_
  refine WL.v (RV.lss rfl rfl) rfl ?_
  refine WL.v (RV.move rfl) rfl ?_
  refine WL.orBS (fun w1 => _ = w1) (decide ((marksL.length : Int) ≤ k)) 4 (rfl) rfl rfl rfl rfl rfl ?_ ?_
  · skip
    intro h1
    refine WL.on rfl ?_
    refine WL.v (RV.move rfl) rfl ?_
    refine WL.on rfl ?_
    refine WL.v (RV.move rfl) rfl ?_
    refine WL.on rfl ?_
    refine WL.v (RV.len (by first | exact hl) Try.underlying46 rfl) rfl ?_
    refine WL.on rfl ?_
    refine WL.v (RV.geq rfl rfl) rfl ?_
    refine WL.nil ?_
    refine QF.andEnd (tA := 8) 5 (rfl) rfl rfl rfl (fun v hv => (Option.some.inj hv).symm.trans (congrArg Value.bool h1)) rfl
  rintro _ rfl
  refine WL.nil ?_
  refine QF.seqNext ?_
  refine WC.cond rfl ?_ ?_
  · intro hb
    have hno : markOk k = false := by
      simp only [Bool.or_eq_true, decide_eq_true_eq] at hb
      simp only [markOk, Bool.and_eq_false_iff, decide_eq_false_iff_not]; omega
    refine WC.seq ?_
    refine WC.region ?_
    refine WL.v (RV.assign rfl) rfl ?_
    refine WL.v (RV.assign rfl) rfl ?_
    refine WL.nil ?_
    refine QF.seqNext ?_
    refine WC.ret ?_
    refine QF.thenRet ?_
    refine QF.done2 rfl rfl rfl (⟨by rw [hno, markM_no k hno]; rfl, hE1⟩)
  · intro hg
    simp only [Bool.or_eq_false_iff, decide_eq_false_iff_not] at hg
    have hyes : markOk k = true := by simp only [markOk, Bool.and_eq_true, decide_eq_true_eq]; omega
    obtain ⟨n, rfl⟩ := Int.eq_ofNat_of_zero_le (by omega : 0 ≤ k)
    refine WC.skip ?_
    refine QF.seqNext ?_
    refine WC.seq ?_
    refine WC.region ?_
    refine WL.v (RV.move rfl) rfl ?_
    refine WL.v (RV.move rfl) rfl ?_
    refine WL.v (RV.indexAddr (by first | exact hl) Try.underlying46 (Try.sizeOf9 _) rfl rfl _ rfl (by omega)) rfl ?_
    refine WL.v (RV.load (by first | exact hl.cell (i := n) (by omega) (j := 0) rfl) (Try.isAgg9 _) rfl) rfl ?_
    refine WL.v (RV.assign rfl) rfl ?_
    refine WL.v (RV.assign rfl) rfl ?_
    refine WL.nil ?_
    refine QF.seqNext ?_
    refine WC.ret ?_
    refine QF.done2 rfl rfl rfl (⟨by rw [hyes, ← marksL_nth n (by omega)], hE1⟩)

/-- 'slices.IndexFunc[[]virgule/escape.Insert,virgule/escape.Insert]': the first place at which a function says yes; the function may make memory. -/
theorem indexFuncN_ret {F : FuncId} (hF : ∀ (args : Array Value) (w : World), (callFunc F args).run Try.prog w = .ok (.enter F args) w) (cs : Array Value) (l : List (Ins)) (sv : Value) (q : Nat → Bool) (w : World) (h : Sl encI 2 w sv l)
    (hq : ∀ i, i < l.length → ∀ w', Ext w w' → Ret Try.prog F ([(fun x : Ins => Value.agg #[.int .i64 x.1, .int .i64 x.2]) (nth l i)] ++ cs.toList) w' fun v w'' => v = .bool (q i) ∧ Ext w' w'') :
    Ret Try.prog 26 [sv, .func (.func F) #[] cs] w fun v w' => v = .int .i64 (firstN q l.length) ∧ Ext w w' := by
  have hl := h.len_le
  refine Ret.enter Try.func26 Try.ntmps26 rfl rfl ?_
  refine WC.seq ?_
  refine WC.region ?_
  refine WL.v (RV.assign rfl) rfl ?_
  refine WL.nil ?_
  refine QF.seqNext ?_
  refine WC.seq ?_
  refine WC.seq ?_
  refine WC.region ?_
  refine WL.v (RV.move rfl) rfl ?_
  refine WL.v (RV.len (by first | exact h) Try.underlying27 rfl) rfl ?_
  refine WL.v (RV.move rfl) rfl ?_
  refine WL.nil ?_
  refine QF.seqNext ?_
  refine WC.block ?_
  refine WC.loop (fun x : Nat × World => [(0, sv), (1, .func (.func F) #[] cs), (7, .int .i64 l.length), (8, .int .i64 x.1)]) (fun x : Nat × World => x.2) (fun x : Nat × World => x.1 ≤ l.length ∧ Ext w x.2 ∧ ∀ i, i < x.1 → q i = false) (fun x : Nat × World => l.length - x.1) (0, w) (⟨Nat.zero_le _, Ext.refl _, fun i hi => absurd hi (Nat.not_lt_zero i)⟩) ⟨rfl, rfl, rfl, rfl, trivial⟩ rfl ?_
  rintro ⟨k, w1⟩ ⟨hk, hE, hno⟩
  dsimp only at hk hE hno ⊢
  have h1 := h.ext hE
  refine WC.seq ?_
  refine WC.region ?_
  refine WL.v (RV.lss rfl rfl) rfl ?_
  refine WL.nil ?_
  refine QF.seqNext ?_
  refine WC.seq ?_
  refine WC.cond rfl ?_ ?_
  · intro hlt
    replace hlt : k < l.length := by have := of_decide_eq_true hlt; omega
    refine WC.skip ?_
    refine QF.seqNext ?_
    refine WC.seq ?_
    refine WC.block ?_
    refine WC.seq ?_
    refine WC.region ?_
    refine WL.v (RV.move rfl) rfl ?_
    refine WL.v (RV.assign rfl) rfl ?_
    refine WL.nil ?_
    refine QF.seqNext ?_
    refine WC.seq ?_
    refine WC.region ?_
    refine WL.v (RV.move rfl) rfl ?_
    refine WL.v (RV.move rfl) rfl ?_
    refine WL.v (RV.move rfl) rfl ?_
    refine WL.v (RV.indexAddr (by first | exact h1) Try.underlying27 (Try.sizeOf38 _) rfl rfl _ rfl (by omega)) rfl ?_
    refine WL.v (RV.loadAgg (us := encI (nth l k)) (fun j u hu => h1.cell hlt hu) (Try.isAgg38 _) (Try.sizeOf38 _) rfl) rfl ?_
    refine WL.callV rfl hF rfl (hq k hlt w1 hE) rfl ?_
    rintro v w2 ⟨rfl, hE2⟩
    refine WL.nil ?_
    refine QF.seqNext ?_
    refine WC.cond rfl ?_ ?_
    · intro hy
      refine WC.seq ?_
      refine WC.region ?_
      refine WL.v (RV.move rfl) rfl ?_
      refine WL.v (RV.assign rfl) rfl ?_
      refine WL.nil ?_
      refine QF.seqNext ?_
      refine WC.ret ?_
      refine QF.blockRet ?_
      refine QF.thenRet ?_
      refine QF.thenRet ?_
      refine QF.blockRet ?_
      refine QF.thenRet ?_
      refine QF.done1 rfl rfl (⟨by rw [firstN_yes hlt hy hno], hE.trans hE2⟩)
    · intro hy
      refine WC.skip ?_
      refine QF.blockNormal ?_
      refine QF.seqNext ?_
      refine WC.region ?_
      refine WL.v (RV.add rfl rfl (Fit.i64 (by omega))) rfl ?_
      refine WL.v (RV.move rfl) rfl ?_
      refine WL.nil ?_
      refine QF.next ((k + 1, w2)) (⟨hlt, hE.trans hE2, fun i hi => (Nat.lt_succ_iff_lt_or_eq.1 hi).elim (hno i) (fun e => by rw [e]; exact hy)⟩) (by omega) ⟨rfl, rfl, rfl, rfl, trivial⟩ rfl
  · intro hge
    replace hge : l.length ≤ k := by have := of_decide_eq_false hge; omega
    refine WC.exit ?_
    refine QF.thenExit ?_
    refine QF.thenExit ?_
    refine QF.blockHit ?_
    refine QF.seqNext ?_
    refine WC.seq ?_
    refine WC.region ?_
    refine WL.v (RV.assign rfl) rfl ?_
    refine WL.nil ?_
    refine QF.seqNext ?_
    refine WC.ret ?_
    refine QF.done1 rfl rfl (⟨by rw [firstN_no fun i hi => hno i (by omega)], hE⟩)
theorem containsFuncN_ret {F : FuncId} (hF : ∀ (args : Array Value) (w : World), (callFunc F args).run Try.prog w = .ok (.enter F args) w) (cs : Array Value) (l : List (Ins)) (sv : Value) (q : Nat → Bool) (w : World) (h : Sl encI 2 w sv l)
    (hq : ∀ i, i < l.length → ∀ w', Ext w w' → Ret Try.prog F ([(fun x : Ins => Value.agg #[.int .i64 x.1, .int .i64 x.2]) (nth l i)] ++ cs.toList) w' fun v w'' => v = .bool (q i) ∧ Ext w' w'') :
    Ret Try.prog 13 [sv, .func (.func F) #[] cs] w fun v w' => v = .bool (anyN q l.length) ∧ Ext w w' := by
  refine Ret.enter Try.func13 Try.ntmps13 rfl rfl ?_
  refine WC.seq ?_
  refine WC.region ?_
  refine WL.v (RV.assign rfl) rfl ?_
  refine WL.nil ?_
  refine QF.seqNext ?_
  refine WC.seq ?_
  refine WC.region ?_
  refine WL.v (RV.move rfl) rfl ?_
  refine WL.v (RV.move rfl) rfl ?_
  refine WL.call Try.call26 rfl (indexFuncN_ret hF cs l sv q w h hq) rfl ?_
  rintro v w1 ⟨rfl, hE⟩
  refine WL.v (RV.geq rfl rfl) rfl ?_
  refine WL.v (RV.assign rfl) rfl ?_
  refine WL.nil ?_
  refine QF.seqNext ?_
  refine WC.ret ?_
  refine QF.done1 rfl rfl (⟨by rw [firstN_any], hE⟩)

theorem dress1_ret (x : Ins) (w : World) : Ret Try.prog 14 [.agg #[.int .i64 x.1, .int .i64 x.2]] w fun v w' => v = .bool (!(markOk x.2)) ∧ Ext w w' := by
  refine Ret.enter Try.func14 Try.ntmps14 rfl rfl ?_
  refine WC.seq ?_
  refine WC.region ?_
  refine WL.boxO (Rng.start w) 1 (by omega) rfl rfl ?_
  intro xb w1 O1 hx hU1 hR1 hE1
  refine WL.v (RV.assign rfl) rfl ?_
  refine WL.nil ?_
  refine QF.seqNext ?_
  refine WC.seq ?_
  refine WC.region ?_
  refine WL.v (RV.fieldAddr 1 Try.underlying38 rfl rfl (Try.sizeOf3 _) (by decide) rfl) rfl ?_
  refine WL.v (RV.load (by first | exact hx.cell 1 rfl) (Try.isAgg3 _) rfl) rfl ?_
  refine WL.call Try.call15 rfl (escMark_ret x.2 w1) rfl ?_
  rintro v w2 ⟨rfl, hE2⟩
  refine WL.v (RV.move rfl) rfl ?_
  refine WL.v (RV.extract rfl rfl) rfl ?_
  refine WL.v (RV.extract rfl rfl) rfl ?_
  refine WL.v (RV.assign rfl) rfl ?_
  refine WL.v (RV.assign rfl) rfl ?_
  refine WL.nil ?_
  refine QF.seqNext ?_
  refine WC.seq ?_
  refine WC.region ?_
  refine WL.v (RV.move rfl) rfl ?_
  refine WL.v (RV.not rfl) rfl ?_
  refine WL.v (RV.assign rfl) rfl ?_
  refine WL.nil ?_
  refine QF.seqNext ?_
  refine WC.ret ?_
  refine QF.done1 rfl rfl (⟨rfl, hE1.trans hE2⟩)

theorem pl38 : Places Try.prog 38 #[(0, 1), (1, 1)] := ⟨_, Try.underlying38, fun w => by kernel_rfl⟩
theorem elIns : Elem Try.prog 27 38 2 16 := ⟨Try.underlying27, by kernel_rfl, by decide⟩
theorem lawTo_ret (ins : List Ins) (iv : Value) (w : World) (h : Sl encI 2 w iv ins) (hn : ins.length ≤ 1000) :
    Ret Try.prog 6 [iv] w fun v w' => Sl encI 2 w' v ins ∧ Ext w w' := by
  refine Ret.enter Try.func6 Try.ntmps6 rfl rfl ?_
  refine WC.seq ?_
  refine WC.region ?_
  refine WL.v (RV.assign rfl) rfl ?_
  refine WL.nil ?_
  refine QF.seqNext ?_
  refine WC.seq ?_
  refine WC.region ?_
  refine WL.v (RV.assign rfl) rfl ?_
  refine WL.nil ?_
  refine QF.seqNext ?_
  refine WC.seq ?_
  refine WC.seq ?_
  refine WC.region ?_
  refine WL.v (RV.assign rfl) rfl ?_
  refine WL.nil ?_
  refine QF.seqNext ?_
  refine WC.block ?_
  refine WC.loop (fun x : Nat × (Nat → Nat) × World × Value => [(0, iv), (3, x.2.2.2), (4, .int .i64 x.1)]) (fun x : Nat × (Nat → Nat) × World × Value => x.2.2.1) (fun x : Nat × (Nat → Nat) × World × Value => x.1 ≤ ins.length ∧ RowT encI 38 2 x.2.1 x.2.2.1 1 x.2.2.2 (ins.take x.1) ∧ Upd (fun j => j = 1) (fun _ => 0) w x.2.1 x.2.2.1) (fun x : Nat × (Nat → Nat) × World × Value => ins.length - x.1) (0, (fun _ => 0), w, .slice none 0 0) (⟨Nat.zero_le _, RowT.nil _ _ _ _ _ _, Upd.refl (by decide) _ _⟩) ⟨rfl, rfl, rfl, trivial⟩ rfl ?_
  rintro ⟨i, O1, w1, lv⟩ ⟨hi, hl1, hU1⟩
  dsimp only at hi hl1 hU1 ⊢
  have h1 := h.ext hU1.ext
  have hR1 := (Rng.start w).upd hU1
  have htl : (ins.take i).length ≤ i := by simp; omega
  refine WC.seq ?_
  refine WC.seq ?_
  refine WC.region ?_
  refine WL.v (RV.move rfl) rfl ?_
  refine WL.v (RV.move rfl) rfl ?_
  refine WL.v (RV.len (by first | exact h1) Try.underlying22 rfl) rfl ?_
  refine WL.v (RV.lss rfl rfl) rfl ?_
  refine WL.nil ?_
  refine QF.seqNext ?_
  refine WC.cond rfl ?_ ?_
  · intro hlt
    replace hlt : i < ins.length := by have := of_decide_eq_true hlt; omega
    refine WC.skip ?_
    refine QF.seqNext ?_
    refine WC.seq ?_
    refine WC.block ?_
    refine WC.draw (fun W => Sl encI 2 W iv ins) 15 rfl (by kernel_rfl) ?_
    refine WH.take 0 rfl (by kernel_rfl) (by kernel_rfl) (by kernel_rfl) h1.drew (fun w1 hw1 => RV.move rfl) rfl ?_
    refine WH.take 1 rfl (by kernel_rfl) (by kernel_rfl) (by kernel_rfl) h1.drew (fun w1 hw1 => RV.move rfl) rfl ?_
    refine WH.take 2 rfl (by kernel_rfl) (by kernel_rfl) (by kernel_rfl) h1.drew (fun w1 hw1 => RV.move rfl) rfl ?_
    refine WH.take 3 rfl (by kernel_rfl) (by kernel_rfl) (by kernel_rfl) h1.drew (fun w1 hw1 => RV.indexAddr (by first | exact hw1) Try.underlying22 (Try.sizeOf33 _) rfl rfl _ rfl (by omega)) rfl ?_
    refine WH.take 4 rfl (by kernel_rfl) (by kernel_rfl) (by kernel_rfl) h1.drew (fun w1 hw1 => RV.fieldAddr 0 Try.underlying33 rfl rfl (Try.sizeOf3 _) (by decide) rfl) rfl ?_
    refine WH.take 5 rfl (by kernel_rfl) (by kernel_rfl) (by kernel_rfl) h1.drew (fun w1 hw1 => RV.load (by first | exact hw1.cell hlt (j := 0) rfl) (Try.isAgg3 _) rfl) rfl ?_
    refine WH.take 6 rfl (by kernel_rfl) (by kernel_rfl) (by kernel_rfl) h1.drew (fun w1 hw1 => RV.move rfl) rfl ?_
    refine WH.take 7 rfl (by kernel_rfl) (by kernel_rfl) (by kernel_rfl) h1.drew (fun w1 hw1 => RV.move rfl) rfl ?_
    refine WH.take 8 rfl (by kernel_rfl) (by kernel_rfl) (by kernel_rfl) h1.drew (fun w1 hw1 => RV.indexAddr (by first | exact hw1) Try.underlying22 (Try.sizeOf33 _) rfl rfl _ rfl (by omega)) rfl ?_
    refine WH.take 9 rfl (by kernel_rfl) (by kernel_rfl) (by kernel_rfl) h1.drew (fun w1 hw1 => RV.fieldAddr 1 Try.underlying33 rfl rfl (Try.sizeOf3 _) (by decide) rfl) rfl ?_
    refine WH.take 10 rfl (by kernel_rfl) (by kernel_rfl) (by kernel_rfl) h1.drew (fun w1 hw1 => RV.load (by first | exact hw1.cell hlt (j := 1) rfl) (Try.isAgg3 _) rfl) rfl ?_
    refine WH.take 11 rfl (by kernel_rfl) (by kernel_rfl) (by kernel_rfl) h1.drew (fun w1 hw1 => RV.buildF pl38 (Try.zeroValue38 _) rfl (by first | rfl | (simp only [List.all_cons, List.all_nil]; rfl)) rfl rfl) rfl ?_
    refine WH.one 12 (by kernel_rfl) rfl ?_
    refine WL.buildOne elIns (enc := encI) (nth ins i) rfl rfl rfl (by decide) rfl ?_
    intro sv w2 hs2 hE2
    refine WL.nil ?_
    refine QF.after (h1.drew.ext hE2) ?_
    have hX2 : Upd (fun _ => False) O1 w1 O1 w2 := Upd.of_ext (fun h => h) O1 ((Ext.refl w1).drew.trans hE2)
    refine WH.one 13 (by kernel_rfl) rfl ?_
    refine WL.appendSl elIns (hl1.upd hX2 (by decide) (fun h => h)) (hR1.upd hX2) hs2 (by simp) rfl rfl (by simp) (by simp [Value.oneCell']) (by simp; omega) (by simp; omega) (by decide) rfl ?_
    intro lv2 w3 O2 hl2 hU2 hR2
    have hU3 := (hU1.trans (Upd.of_ext (by decide) O1 ((Ext.refl w1).drew.trans hE2))).trans hU2
    refine WL.nil ?_
    refine QF.after (h.ext hU3.ext) ?_
    rw [← take_nth hlt] at hl2
    refine WH.take 14 rfl (by kernel_rfl) (by kernel_rfl) (by kernel_rfl) (h.ext hU3.ext) (fun w1 hw1 => RV.assign rfl) rfl ?_
    refine WH.done (by kernel_rfl) ?_
    refine QF.blockNormal ?_
    refine QF.seqNext ?_
    refine WC.region ?_
    refine WL.v (RV.move rfl) rfl ?_
    refine WL.v (RV.add rfl rfl (Fit.i64 (by omega))) rfl ?_
    refine WL.v (RV.assign rfl) rfl ?_
    refine WL.nil ?_
    refine QF.next ((i + 1, O2, w3, lv2)) (⟨hlt, hl2, hU3⟩) (by dsimp only; omega) ⟨rfl, rfl, rfl, trivial⟩ rfl
  · intro hge
    obtain rfl : i = ins.length := by have := of_decide_eq_false hge; omega
    rw [List.take_length] at hl1
    refine WC.exit ?_
    refine QF.thenExit ?_
    refine QF.thenExit ?_
    refine QF.blockHit ?_
    refine QF.seqNext ?_
    refine WC.seq ?_
    refine WC.region ?_
    refine WL.v (RV.move rfl) rfl ?_
    refine WL.v (RV.assign rfl) rfl ?_
    refine WL.nil ?_
    refine QF.seqNext ?_
    refine WC.ret ?_
    refine QF.done1 rfl rfl (⟨hl1.sl, hU1.ext⟩)
end Go.Proofs.Ytpjbdikakehbgaa
