/- Package pack, walked: within; the library's searches. -/
import Derived.Test.YtahdlfnjnjngaaaPackB
namespace Go.Proofs.Ytahdlfnjnjngaaa
open Go.VL Go.Proofs

/-- 'slices.IndexFunc[[]int,int]': the first place at which a function says yes; the function may make memory. -/
theorem indexFuncI_ret {F : FuncId} (hF : ∀ (args : Array Value) (w : World), (callFunc F args).run Try.prog w = .ok (.enter F args) w) (cs : Array Value) (l : List (Int)) (sv : Value) (q : Nat → Bool) (w : World) (h : Sl (fun x => [Value.int .i64 x]) 1 w sv l)
    (hq : ∀ i, i < l.length → ∀ w', Ext w w' → Ret Try.prog F ([Value.int .i64 (nth l i)] ++ cs.toList) w' fun v w'' => v = .bool (q i) ∧ Ext w' w'') :
    Ret Try.prog 38 [sv, .func (.func F) #[] cs] w fun v w' => v = .int .i64 (firstN q l.length) ∧ Ext w w' := by
  have hl := h.len_le
  refine Ret.enter Try.func38 Try.ntmps38 rfl rfl ?_
  refine WC.seq ?_
  refine WC.region ?_
  refine WL.v (RV.assign rfl) rfl ?_
  refine WL.nil ?_
  refine QF.seqNext ?_
  refine WC.seq ?_
  refine WC.seq ?_
  refine WC.region ?_
  refine WL.v (RV.move rfl) rfl ?_
  refine WL.v (RV.len (by first | exact h) Try.underlying25 rfl) rfl ?_
  refine WL.v (RV.move rfl) rfl ?_
  refine WL.nil ?_
  refine QF.seqNext ?_
  refine WC.block ?_
  refine WC.loop (fun x : Nat × World => [(0, sv), (1, .func (.func F) #[] cs), (7, .int .i64 l.length), (8, .int .i64 x.1)]) (fun x : Nat × World => x.2) (fun x : Nat × World => x.1 ≤ l.length ∧ Ext w x.2 ∧ ∀ i, i < x.1 → q i = false) (fun x : Nat × World => l.length - x.1) (0, w) (⟨Nat.zero_le _, Ext.refl _, fun i hi => absurd hi (Nat.not_lt_zero i)⟩) ⟨rfl, rfl, rfl, rfl, trivial⟩ rfl ?_
  rintro ⟨k, w1⟩ ⟨hk, hE, hno⟩
  dsimp only at hk hE hno ⊢
  have h1 := h.ext hE
  refine WC.seq ?_
  refine WC.region ?_
  refine WL.v (RV.lss rfl rfl) rfl ?_
  refine WL.nil ?_
  refine QF.seqNext ?_
  refine WC.seq ?_
  refine WC.cond rfl ?_ ?_
  · intro hlt
    replace hlt : k < l.length := by have := of_decide_eq_true hlt; omega
    refine WC.skip ?_
    refine QF.seqNext ?_
    refine WC.seq ?_
    refine WC.block ?_
    refine WC.seq ?_
    refine WC.region ?_
    refine WL.v (RV.move rfl) rfl ?_
    refine WL.v (RV.assign rfl) rfl ?_
    refine WL.nil ?_
    refine QF.seqNext ?_
    refine WC.seq ?_
    refine WC.region ?_
    refine WL.v (RV.move rfl) rfl ?_
    refine WL.v (RV.move rfl) rfl ?_
    refine WL.v (RV.move rfl) rfl ?_
    refine WL.v (RV.indexAddr (by first | exact h1) Try.underlying25 (Try.sizeOf3 _) rfl rfl _ rfl (by omega)) rfl ?_
    refine WL.v (RV.load (h1.ld hlt) (Try.isAgg3 _) rfl) rfl ?_
    refine WL.callV rfl hF rfl (hq k hlt w1 hE) rfl ?_
    rintro v w2 ⟨rfl, hE2⟩
    refine WL.nil ?_
    refine QF.seqNext ?_
    refine WC.cond rfl ?_ ?_
    · intro hy
      refine WC.seq ?_
      refine WC.region ?_
      refine WL.v (RV.move rfl) rfl ?_
      refine WL.v (RV.assign rfl) rfl ?_
      refine WL.nil ?_
      refine QF.seqNext ?_
      refine WC.ret ?_
      refine QF.blockRet ?_
      refine QF.thenRet ?_
      refine QF.thenRet ?_
      refine QF.blockRet ?_
      refine QF.thenRet ?_
      refine QF.done1 rfl rfl (⟨by rw [firstN_yes hlt hy hno], hE.trans hE2⟩)
    · intro hy
      refine WC.skip ?_
      refine QF.blockNormal ?_
      refine QF.seqNext ?_
      refine WC.region ?_
      refine WL.v (RV.add rfl rfl (Fit.i64 (by omega))) rfl ?_
      refine WL.v (RV.move rfl) rfl ?_
      refine WL.nil ?_
      refine QF.next ((k + 1, w2)) (⟨hlt, hE.trans hE2, fun i hi => (Nat.lt_succ_iff_lt_or_eq.1 hi).elim (hno i) (fun e => by rw [e]; exact hy)⟩) (by omega) ⟨rfl, rfl, rfl, rfl, trivial⟩ rfl
  · intro hge
    replace hge : l.length ≤ k := by have := of_decide_eq_false hge; omega
    refine WC.exit ?_
    refine QF.thenExit ?_
    refine QF.thenExit ?_
    refine QF.blockHit ?_
    refine QF.seqNext ?_
    refine WC.seq ?_
    refine WC.region ?_
    refine WL.v (RV.assign rfl) rfl ?_
    refine WL.nil ?_
    refine QF.seqNext ?_
    refine WC.ret ?_
    refine QF.done1 rfl rfl (⟨by rw [firstN_no fun i hi => hno i (by omega)], hE⟩)
theorem containsFuncI_ret {F : FuncId} (hF : ∀ (args : Array Value) (w : World), (callFunc F args).run Try.prog w = .ok (.enter F args) w) (cs : Array Value) (l : List (Int)) (sv : Value) (q : Nat → Bool) (w : World) (h : Sl (fun x => [Value.int .i64 x]) 1 w sv l)
    (hq : ∀ i, i < l.length → ∀ w', Ext w w' → Ret Try.prog F ([Value.int .i64 (nth l i)] ++ cs.toList) w' fun v w'' => v = .bool (q i) ∧ Ext w' w'') :
    Ret Try.prog 32 [sv, .func (.func F) #[] cs] w fun v w' => v = .bool (anyN q l.length) ∧ Ext w w' := by
  refine Ret.enter Try.func32 Try.ntmps32 rfl rfl ?_
  refine WC.seq ?_
  refine WC.region ?_
  refine WL.v (RV.assign rfl) rfl ?_
  refine WL.nil ?_
  refine QF.seqNext ?_
  refine WC.seq ?_
  refine WC.region ?_
  refine WL.v (RV.move rfl) rfl ?_
  refine WL.v (RV.move rfl) rfl ?_
  refine WL.call Try.call38 rfl (indexFuncI_ret hF cs l sv q w h hq) rfl ?_
  rintro v w1 ⟨rfl, hE⟩
  refine WL.v (RV.geq rfl rfl) rfl ?_
  refine WL.v (RV.assign rfl) rfl ?_
  refine WL.nil ?_
  refine QF.seqNext ?_
  refine WC.ret ?_
  refine QF.done1 rfl rfl (⟨by rw [firstN_any], hE⟩)
/-- 'slices.IndexFunc[[][]int,[]int]': the first place at which a function says yes; the function may make memory. -/
theorem indexFuncR_ret {F : FuncId} (hF : ∀ (args : Array Value) (w : World), (callFunc F args).run Try.prog w = .ok (.enter F args) w) (cs : Array Value) (l : List (Value)) (sv : Value) (q : Nat → Bool) (w : World) (h : Sl (fun x => [x]) 1 w sv l)
    (hq : ∀ i, i < l.length → ∀ w', Ext w w' → Ret Try.prog F ([id (nth l i)] ++ cs.toList) w' fun v w'' => v = .bool (q i) ∧ Ext w' w'') :
    Ret Try.prog 34 [sv, .func (.func F) #[] cs] w fun v w' => v = .int .i64 (firstN q l.length) ∧ Ext w w' := by
  have hl := h.len_le
  refine Ret.enter Try.func34 Try.ntmps34 rfl rfl ?_
  refine WC.seq ?_
  refine WC.region ?_
  refine WL.v (RV.assign rfl) rfl ?_
  refine WL.nil ?_
  refine QF.seqNext ?_
  refine WC.seq ?_
  refine WC.seq ?_
  refine WC.region ?_
  refine WL.v (RV.move rfl) rfl ?_
  refine WL.v (RV.len (by first | exact h) Try.underlying22 rfl) rfl ?_
  refine WL.v (RV.move rfl) rfl ?_
  refine WL.nil ?_
  refine QF.seqNext ?_
  refine WC.block ?_
  refine WC.loop (fun x : Nat × World => [(0, sv), (1, .func (.func F) #[] cs), (7, .int .i64 l.length), (8, .int .i64 x.1)]) (fun x : Nat × World => x.2) (fun x : Nat × World => x.1 ≤ l.length ∧ Ext w x.2 ∧ ∀ i, i < x.1 → q i = false) (fun x : Nat × World => l.length - x.1) (0, w) (⟨Nat.zero_le _, Ext.refl _, fun i hi => absurd hi (Nat.not_lt_zero i)⟩) ⟨rfl, rfl, rfl, rfl, trivial⟩ rfl ?_
  rintro ⟨k, w1⟩ ⟨hk, hE, hno⟩
  dsimp only at hk hE hno ⊢
  have h1 := h.ext hE
  refine WC.seq ?_
  refine WC.region ?_
  refine WL.v (RV.lss rfl rfl) rfl ?_
  refine WL.nil ?_
  refine QF.seqNext ?_
  refine WC.seq ?_
  refine WC.cond rfl ?_ ?_
  · intro hlt
    replace hlt : k < l.length := by have := of_decide_eq_true hlt; omega
    refine WC.skip ?_
    refine QF.seqNext ?_
    refine WC.seq ?_
    refine WC.block ?_
    refine WC.seq ?_
    refine WC.region ?_
    refine WL.v (RV.move rfl) rfl ?_
    refine WL.v (RV.assign rfl) rfl ?_
    refine WL.nil ?_
    refine QF.seqNext ?_
    refine WC.seq ?_
    refine WC.region ?_
    refine WL.v (RV.move rfl) rfl ?_
    refine WL.v (RV.move rfl) rfl ?_
    refine WL.v (RV.move rfl) rfl ?_
    refine WL.v (RV.indexAddr (by first | exact h1) Try.underlying22 (Try.sizeOf25 _) rfl rfl _ rfl (by omega)) rfl ?_
    refine WL.v (RV.load (h1.ld hlt) (Try.isAgg25 _) rfl) rfl ?_
    refine WL.callV rfl hF rfl (hq k hlt w1 hE) rfl ?_
    rintro v w2 ⟨rfl, hE2⟩
    refine WL.nil ?_
    refine QF.seqNext ?_
    refine WC.cond rfl ?_ ?_
    · intro hy
      refine WC.seq ?_
      refine WC.region ?_
      refine WL.v (RV.move rfl) rfl ?_
      refine WL.v (RV.assign rfl) rfl ?_
      refine WL.nil ?_
      refine QF.seqNext ?_
      refine WC.ret ?_
      refine QF.blockRet ?_
      refine QF.thenRet ?_
      refine QF.thenRet ?_
      refine QF.blockRet ?_
      refine QF.thenRet ?_
      refine QF.done1 rfl rfl (⟨by rw [firstN_yes hlt hy hno], hE.trans hE2⟩)
    · intro hy
      refine WC.skip ?_
      refine QF.blockNormal ?_
      refine QF.seqNext ?_
      refine WC.region ?_
      refine WL.v (RV.add rfl rfl (Fit.i64 (by omega))) rfl ?_
      refine WL.v (RV.move rfl) rfl ?_
      refine WL.nil ?_
      refine QF.next ((k + 1, w2)) (⟨hlt, hE.trans hE2, fun i hi => (Nat.lt_succ_iff_lt_or_eq.1 hi).elim (hno i) (fun e => by rw [e]; exact hy)⟩) (by omega) ⟨rfl, rfl, rfl, rfl, trivial⟩ rfl
  · intro hge
    replace hge : l.length ≤ k := by have := of_decide_eq_false hge; omega
    refine WC.exit ?_
    refine QF.thenExit ?_
    refine QF.thenExit ?_
    refine QF.blockHit ?_
    refine QF.seqNext ?_
    refine WC.seq ?_
    refine WC.region ?_
    refine WL.v (RV.assign rfl) rfl ?_
    refine WL.nil ?_
    refine QF.seqNext ?_
    refine WC.ret ?_
    refine QF.done1 rfl rfl (⟨by rw [firstN_no fun i hi => hno i (by omega)], hE⟩)
theorem containsFuncR_ret {F : FuncId} (hF : ∀ (args : Array Value) (w : World), (callFunc F args).run Try.prog w = .ok (.enter F args) w) (cs : Array Value) (l : List (Value)) (sv : Value) (q : Nat → Bool) (w : World) (h : Sl (fun x => [x]) 1 w sv l)
    (hq : ∀ i, i < l.length → ∀ w', Ext w w' → Ret Try.prog F ([id (nth l i)] ++ cs.toList) w' fun v w'' => v = .bool (q i) ∧ Ext w' w'') :
    Ret Try.prog 25 [sv, .func (.func F) #[] cs] w fun v w' => v = .bool (anyN q l.length) ∧ Ext w w' := by
  refine Ret.enter Try.func25 Try.ntmps25 rfl rfl ?_
  refine WC.seq ?_
  refine WC.region ?_
  refine WL.v (RV.assign rfl) rfl ?_
  refine WL.nil ?_
  refine QF.seqNext ?_
  refine WC.seq ?_
  refine WC.region ?_
  refine WL.v (RV.move rfl) rfl ?_
  refine WL.v (RV.move rfl) rfl ?_
  refine WL.call Try.call34 rfl (indexFuncR_ret hF cs l sv q w h hq) rfl ?_
  rintro v w1 ⟨rfl, hE⟩
  refine WL.v (RV.geq rfl rfl) rfl ?_
  refine WL.v (RV.assign rfl) rfl ?_
  refine WL.nil ?_
  refine QF.seqNext ?_
  refine WC.ret ?_
  refine QF.done1 rfl rfl (⟨by rw [firstN_any], hE⟩)

theorem within1_ret (a : Int) (b1 b2 : Addr) (lo hi : Int) (w : World) (h1 : w.cell? b1 = some (.int .i64 lo)) (h2 : w.cell? b2 = some (.int .i64 hi)) :
    Ret Try.prog 33 [.int .i64 a, .pointer (some b1), .pointer (some b2)] w fun v w' => v = .bool (decide (a < lo) || decide (hi < a)) ∧ w = w' := by
  refine Ret.enter Try.func33 Try.ntmps33 rfl rfl ?_
  refine WC.seq ?_
  refine WC.region ?_
  refine WL.v (RV.assign rfl) rfl ?_
  refine WL.nil ?_
  refine QF.seqNext ?_
  refine WC.seq ?_
  refine WC.region ?_
  refine WL.v (RV.move rfl) rfl ?_
  refine WL.v (RV.load (by first | exact h1 | exact h2) (Try.isAgg3 _) rfl) rfl ?_
  refine WL.v (RV.lss rfl rfl) rfl ?_
  refine WL.v (RV.move rfl) rfl ?_
  by_cases hlt : a < lo
  · skip
    refine WL.know (d := 8) rfl (b' := true) (decide_eq_true hlt) ?_
    refine WL.off rfl rfl rfl ?_
    refine WL.off rfl rfl rfl ?_
    refine WL.off rfl rfl rfl ?_
    refine WL.v (RV.pickT rfl rfl) rfl ?_
    refine WL.v (RV.assign rfl) rfl ?_
    refine WL.nil ?_
    refine QF.seqNext ?_
    refine WC.ret ?_
    refine QF.done1 rfl rfl (⟨by simp [hlt], rfl⟩)
  · skip
    refine WL.know (d := 8) rfl (b' := false) (decide_eq_false hlt) ?_
    refine WL.on rfl ?_
    refine WL.v (RV.move rfl) rfl ?_
    refine WL.on rfl ?_
    refine WL.v (RV.load (by first | exact h1 | exact h2) (Try.isAgg3 _) rfl) rfl ?_
    refine WL.on rfl ?_
    refine WL.v (RV.gtr rfl rfl) rfl ?_
    refine WL.v (RV.pickF rfl rfl) rfl ?_
    refine WL.v (RV.assign rfl) rfl ?_
    refine WL.nil ?_
    refine QF.seqNext ?_
    refine WC.ret ?_
    refine QF.done1 rfl rfl (⟨by simp [hlt], rfl⟩)

def inB (lo hi : Int) (l : List Int) : Bool := l.all fun n => decide (lo ≤ n) && decide (n ≤ hi)
theorem within_ret (lo hi : Int) (l : List Int) (lv : Value) (w : World) (h : Ints w lv l) :
    Ret Try.prog 24 [lv, .int .i64 lo, .int .i64 hi] w fun v w' => v = .bool (inB lo hi l) ∧ Ext w w' := by
  refine Ret.enter Try.func24 Try.ntmps24 rfl rfl ?_
  refine WC.seq ?_
  refine WC.region ?_
  refine WL.box rfl rfl ?_
  refine WL.box rfl rfl ?_
  refine WL.v (RV.assign rfl) rfl ?_
  refine WL.nil ?_
  refine QF.seqNext ?_
  refine WC.seq ?_
  refine WC.region ?_
  refine WL.v (RV.move rfl) rfl ?_
  refine WL.v (RV.mkFunc rfl rfl) rfl ?_
  have hE : Ext w ((w.alloc (.cells #[.int .i64 lo] 3)).alloc (.cells #[.int .i64 hi] 3)) := (Ext.alloc _ _).trans (Ext.alloc _ _)
  have c2 : ((w.alloc (.cells #[.int .i64 lo] 3)).alloc (.cells #[.int .i64 hi] 3)).cell? ⟨w.heap.size, 0, none⟩ = some (.int .i64 lo) := (Ext.alloc _ _).cell (by rw [World.cell?_alloc_at _ _ _ _ rfl]; rfl)
  have c3 : ((w.alloc (.cells #[.int .i64 lo] 3)).alloc (.cells #[.int .i64 hi] 3)).cell? ⟨(w.alloc (.cells #[.int .i64 lo] 3)).heap.size, 0, none⟩ = some (.int .i64 hi) := by rw [World.cell?_alloc_at _ _ _ _ rfl]; rfl
  refine WL.call Try.call32 rfl (containsFuncI_ret Try.call33 _ l lv (fun i => decide (nth l i < lo) || decide (hi < nth l i)) _ (h.ext hE) (fun i hi w' hw' => (within1_ret _ _ _ _ _ w' (hw'.cell c2) (hw'.cell c3)).mono fun v w'' ⟨e1, e2⟩ => ⟨e1, e2 ▸ Ext.refl _⟩)) rfl ?_
  rintro v w1 ⟨rfl, hE1⟩
  refine WL.v (RV.not rfl) rfl ?_
  refine WL.v (RV.assign rfl) rfl ?_
  refine WL.nil ?_
  refine QF.seqNext ?_
  refine WC.ret ?_
  refine QF.done1 rfl rfl (⟨?_, hE.trans hE1⟩)
  rw [anyN_list (l := l) (p := fun n => decide (n < lo) || decide (hi < n)), inB, List.all_eq_not_any_not]
  congr 3
  funext n
  rw [Bool.eq_iff_iff]; simp
end Go.Proofs.Ytahdlfnjnjngaaa
