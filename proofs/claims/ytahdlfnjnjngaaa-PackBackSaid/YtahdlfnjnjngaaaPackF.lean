/- Chapter 12's statements, walked: what they call. -/
import Derived.Test.YtahdlfnjnjngaaaPackE
import Derived.Test.YtahdlfnjnjngaaaVa
namespace Go.Proofs.Ytahdlfnjnjngaaa
open Go.VL Go.Proofs

/-- 'virgule/virguleref12.Same': are two lists the same? -/
theorem same12_ret (la lb : List Int) (av bv : Value) (w : World) (ha : Ints w av la) (hb : Ints w bv lb) :
    Ret Try.prog 22 [av, bv] w fun v w' => v = .bool (la == lb) ∧ Ext w w' := by
  have hal := ha.len_le
  refine Ret.enter Try.func22 Try.ntmps22 rfl rfl ?_
  refine WC.seq ?_
  refine WC.region ?_
  refine WL.v (RV.assign rfl) rfl ?_
  refine WL.nil ?_
  refine QF.seqNext ?_
  refine WC.seq ?_
  refine WC.seq ?_
  refine WC.region ?_
  refine WL.v (RV.move rfl) rfl ?_
  refine WL.v (RV.len (by first | exact ha | exact hb) Try.underlying25 rfl) rfl ?_
  refine WL.v (RV.move rfl) rfl ?_
  refine WL.v (RV.len (by first | exact ha | exact hb) Try.underlying25 rfl) rfl ?_
  refine WL.v (RV.neq rfl rfl) rfl ?_
  refine WL.nil ?_
  refine QF.seqNext ?_
  refine WC.cond rfl ?_ ?_
  · intro hne
    refine WC.seq ?_
    refine WC.region ?_
    refine WL.v (RV.assign rfl) rfl ?_
    refine WL.nil ?_
    refine QF.seqNext ?_
    refine WC.ret ?_
    refine QF.thenRet ?_
    refine QF.done1 rfl rfl (⟨?_, Ext.refl _⟩)
    have : la ≠ lb := fun e => by subst e; simp at hne
    simpa using this.symm ∘ Eq.symm
  · intro heq
    replace heq : la.length = lb.length := by have : (la.length : Int) = lb.length := by simpa using heq
                                              omega
    refine WC.skip ?_
    refine QF.seqNext ?_
    refine WC.seq ?_
    refine WC.seq ?_
    refine WC.region ?_
    refine WL.v (RV.assign rfl) rfl ?_
    refine WL.nil ?_
    refine QF.seqNext ?_
    refine WC.block ?_
    refine WC.loop (fun x : Nat × World => [(0, av), (1, bv), (5, .int .i64 x.1)]) (fun x : Nat × World => x.2) (fun x : Nat × World => x.1 ≤ la.length ∧ Ext w x.2 ∧ la.take x.1 = lb.take x.1) (fun x : Nat × World => la.length - x.1) (0, w) (⟨Nat.zero_le _, Ext.refl _, rfl⟩) ⟨rfl, rfl, rfl, trivial⟩ rfl ?_
    rintro ⟨k, w1⟩ ⟨hk, hE, htk⟩
    dsimp only at hk hE htk ⊢
    have ha1 := ha.ext hE
    have hb1 := hb.ext hE
    refine WC.seq ?_
    refine WC.seq ?_
    refine WC.region ?_
    refine WL.v (RV.move rfl) rfl ?_
    refine WL.v (RV.move rfl) rfl ?_
    refine WL.v (RV.len (by first | exact ha1 | exact hb1) Try.underlying25 rfl) rfl ?_
    refine WL.v (RV.lss rfl rfl) rfl ?_
    refine WL.nil ?_
    refine QF.seqNext ?_
    refine WC.cond rfl ?_ ?_
    · intro hlt
      replace hlt : k < la.length := by have := of_decide_eq_true hlt; omega
      refine WC.skip ?_
      refine QF.seqNext ?_
      refine WC.seq ?_
      refine WC.block ?_
      refine WC.seq ?_
      refine WC.still (by kernel_rfl) (by kernel_rfl) ?_
      refine WS.v (RV.move rfl) rfl ?_
      refine WS.v (RV.move rfl) rfl ?_
      refine WS.v (RV.indexAddr (by first | exact (ha1).drew | exact (hb1).drew) Try.underlying25 (Try.sizeOf3 _) rfl rfl _ rfl (by omega)) rfl ?_
      refine WS.v (RV.load (by first | exact ha1.ld (by omega) | exact hb1.ld (by omega)) (Try.isAgg3 _) rfl) rfl ?_
      refine WS.v (RV.move rfl) rfl ?_
      refine WS.v (RV.move rfl) rfl ?_
      refine WS.v (RV.indexAddr (by first | exact (ha1).drew | exact (hb1).drew) Try.underlying25 (Try.sizeOf3 _) rfl rfl _ rfl (by omega)) rfl ?_
      refine WS.v (RV.load (by first | exact ha1.ld (by omega) | exact hb1.ld (by omega)) (Try.isAgg3 _) rfl) rfl ?_
      refine WS.v (RV.neq rfl rfl) rfl ?_
      refine WS.nil ?_
      refine QF.seqNext ?_
      refine WC.cond rfl ?_ ?_
      · intro hne
        refine WC.seq ?_
        refine WC.region ?_
        refine WL.v (RV.assign rfl) rfl ?_
        refine WL.nil ?_
        refine QF.seqNext ?_
        refine WC.ret ?_
        refine QF.blockRet ?_
        refine QF.thenRet ?_
        refine QF.thenRet ?_
        refine QF.blockRet ?_
        refine QF.thenRet ?_
        refine QF.done1 rfl rfl (⟨?_, hE.drew⟩)
        have : la ≠ lb := fun e => by subst e; simp at hne
        simpa using this
      · intro hee
        refine WC.skip ?_
        refine QF.blockNormal ?_
        refine QF.seqNext ?_
        refine WC.region ?_
        refine WL.v (RV.move rfl) rfl ?_
        refine WL.v (RV.add rfl rfl (Fit.i64 (by omega))) rfl ?_
        refine WL.v (RV.assign rfl) rfl ?_
        refine WL.nil ?_
        refine QF.next ((k + 1, w1.drew)) (⟨hlt, hE.drew, by rw [take_nth hlt, take_nth (by omega : k < lb.length), htk]; simpa using hee⟩) (by omega) ⟨rfl, rfl, rfl, trivial⟩ rfl
    · intro hge
      replace hge : la.length ≤ k := by have := of_decide_eq_false hge; omega
      refine WC.exit ?_
      refine QF.thenExit ?_
      refine QF.thenExit ?_
      refine QF.blockHit ?_
      refine QF.seqNext ?_
      refine WC.seq ?_
      refine WC.region ?_
      refine WL.v (RV.assign rfl) rfl ?_
      refine WL.nil ?_
      refine QF.seqNext ?_
      refine WC.ret ?_
      refine QF.done1 rfl rfl (⟨?_, hE⟩)
      rw [List.take_of_length_le hge, List.take_of_length_le (by omega)] at htk
      simp [htk]

theorem beq_ne {la lb : List Int} (h : la ≠ lb) : Value.bool false = Value.bool (la == lb) := by
  have : (la == lb) = false := by simpa using h
  rw [this]

def great30 (L : List (List Int)) : Bool := (L.take 30).any (fun r => decide (70 < r.length)) || decide (30 < L.length)

theorem great_ret (L : List (List Int)) (rv : Value) (w : World) (h : Rows w rv L) :
    Ret Try.prog 8 [rv] w fun v w' => v = .bool (great30 L) ∧ w = w' := by
  obtain ⟨rvs, hr, hrl, hri⟩ := h
  have hlm := hr.len_le
  refine Ret.enter Try.func8 Try.ntmps8 rfl rfl ?_
  refine WC.seq ?_
  refine WC.region ?_
  refine WL.v (RV.assign rfl) rfl ?_
  refine WL.nil ?_
  refine QF.seqNext ?_
  refine WC.seq ?_
  refine WC.seq ?_
  refine WC.region ?_
  refine WL.v (RV.assign rfl) rfl ?_
  refine WL.nil ?_
  refine QF.seqNext ?_
  refine WC.block ?_
  refine WC.loop (fun k : Nat => [(0, rv), (3, .int .i64 k)]) (fun k : Nat => w) (fun k : Nat => k ≤ L.length ∧ k ≤ 30 ∧ (L.take k).any (fun r => decide (70 < r.length)) = false) (fun k : Nat => 30 - k) 0 (⟨Nat.zero_le _, by omega, rfl⟩) ⟨rfl, rfl, trivial⟩ rfl ?_
  intro k ⟨hk, hk30, hno⟩
  refine WC.seq ?_
  refine WC.seq ?_
  refine WC.region ?_
  refine WL.v (RV.move rfl) rfl ?_
  refine WL.v (RV.move rfl) rfl ?_
  refine WL.v (RV.len (by first | exact hr) Try.underlying22 rfl) rfl ?_
  refine WL.v (RV.lss rfl rfl) rfl ?_
  refine WL.v (RV.move rfl) rfl ?_
  refine WL.andBS (fun w1 => _ = w1) (decide ((k : Int) < 30)) 2 (rfl) rfl rfl rfl rfl rfl ?_ ?_
  · skip
    intro h1
    refine WL.on rfl ?_
    refine WL.v (RV.move rfl) rfl ?_
    refine WL.on rfl ?_
    refine WL.v (RV.lss rfl rfl) rfl ?_
    refine WL.nil ?_
    refine QF.andEnd (tA := 8) 3 (rfl) rfl rfl rfl (fun v hv => (Option.some.inj hv).symm.trans (congrArg Value.bool h1)) rfl
  rintro _ rfl
  refine WL.nil ?_
  refine QF.seqNext ?_
  refine WC.cond rfl ?_ ?_
  · intro hlt
    replace hlt : k < L.length ∧ k < 30 := by
      simp only [Bool.and_eq_true, decide_eq_true_eq, hrl] at hlt; omega
    have hri' := hri k hlt.1
    refine WC.skip ?_
    refine QF.seqNext ?_
    refine WC.seq ?_
    refine WC.block ?_
    refine WC.seq ?_
    refine WC.region ?_
    refine WL.v (RV.move rfl) rfl ?_
    refine WL.v (RV.move rfl) rfl ?_
    refine WL.v (RV.indexAddr (by first | exact hr | exact hri') Try.underlying22 (Try.sizeOf25 _) rfl rfl _ rfl (by omega)) rfl ?_
    refine WL.v (RV.load (by first | exact hr.ld (by omega)) (Try.isAgg25 _) rfl) rfl ?_
    refine WL.v (RV.len (by first | exact hr | exact hri') Try.underlying25 rfl) rfl ?_
    refine WL.v (RV.gtr rfl rfl) rfl ?_
    refine WL.nil ?_
    refine QF.seqNext ?_
    refine WC.cond rfl ?_ ?_
    · intro hy
      replace hy : 70 < (nth L k).length := by have := of_decide_eq_true hy; omega
      refine WC.seq ?_
      refine WC.region ?_
      refine WL.v (RV.assign rfl) rfl ?_
      refine WL.nil ?_
      refine QF.seqNext ?_
      refine WC.ret ?_
      refine QF.blockRet ?_
      refine QF.thenRet ?_
      refine QF.thenRet ?_
      refine QF.blockRet ?_
      refine QF.thenRet ?_
      refine QF.done1 rfl rfl (⟨?_, rfl⟩)
      have : (L.take 30).any (fun r => decide (70 < r.length)) = true := List.any_eq_true.2 ⟨nth L k, by
        have := nth_mem (l := L.take 30) (j := k) (by simp; omega)
        rwa [nth_eq (by simp; omega), List.getElem_take, ← nth_eq hlt.1] at this, by simpa using hy⟩
      simp [great30, this]
    · intro hn
      replace hn : ¬ 70 < (nth L k).length := by have := of_decide_eq_false hn; omega
      refine WC.skip ?_
      refine QF.blockNormal ?_
      refine QF.seqNext ?_
      refine WC.region ?_
      refine WL.v (RV.move rfl) rfl ?_
      refine WL.v (RV.add rfl rfl (Fit.i64 (by omega))) rfl ?_
      refine WL.v (RV.assign rfl) rfl ?_
      refine WL.nil ?_
      refine QF.next (k + 1) (⟨hlt.1, hlt.2, by rw [take_nth hlt.1, List.any_append, hno]; simpa using hn⟩) (by omega) ⟨rfl, rfl, trivial⟩ rfl
  · intro hge
    have hge' : L.length ≤ k ∨ 30 ≤ k := by
      simp only [Bool.and_eq_false_iff, decide_eq_false_iff_not, hrl] at hge; omega
    refine WC.exit ?_
    refine QF.thenExit ?_
    refine QF.thenExit ?_
    refine QF.blockHit ?_
    refine QF.seqNext ?_
    refine WC.seq ?_
    refine WC.region ?_
    refine WL.v (RV.move rfl) rfl ?_
    refine WL.v (RV.len (by first | exact hr | exact hri') Try.underlying22 rfl) rfl ?_
    refine WL.v (RV.gtr rfl rfl) rfl ?_
    refine WL.v (RV.assign rfl) rfl ?_
    refine WL.nil ?_
    refine QF.seqNext ?_
    refine WC.ret ?_
    refine QF.done1 rfl rfl (⟨?_, rfl⟩)
    have e : L.take 30 = L.take k := by
      rcases hge' with h | h
      · rw [List.take_of_length_le h, List.take_of_length_le (by omega)]
      · rw [show k = 30 from by omega]
    rw [great30, e, hno, hrl, Bool.false_or]
    congr 1
    exact decide_eq_decide.2 (by omega)

/-- Is a packed value just so? -/
def PSt.same (p q : PSt) : Bool := p.width == q.width && p.usual == q.usual && p.base == q.base && p.check == q.check && p.next == q.next

theorem is_ret (p q : PSt) (pv qv : Value) (w : World) (hp : PkV w pv p) (hq : PkV w qv q) :
    Ret Try.prog 12 [pv, qv] w fun v w' => v = .bool (p.same q) ∧ Ext w w' := by
  obtain ⟨u1, b1, k1, n1, rfl, hu1, hb1, hk1, hn1⟩ := hp
  obtain ⟨u2, b2, k2, n2, rfl, hu2, hb2, hk2, hn2⟩ := hq
  refine Ret.enter Try.func12 Try.ntmps12 rfl rfl ?_
  refine WC.seq ?_
  refine WC.region ?_
  refine WL.boxO (Rng.start w) 1 (by omega) rfl rfl ?_
  intro x1 w1 O1 hx1 hU1 hR1 hE1
  refine WL.boxO hR1 2 (by omega) rfl rfl ?_
  intro x2 w2 O2 hx2 hU2 hR2 hE2
  have hx1' := hx1.upd hU2 (by decide) (by decide)
  have hE := hE1.trans hE2
  have c : ∀ w', Ext w2 w' → (∀ j u, (#[.int .i64 p.width, u1, b1, k1, n1] : Array Value)[j]? = some u → w'.cell? ⟨x1, j, none⟩ = some u) ∧ (∀ j u, (#[.int .i64 q.width, u2, b2, k2, n2] : Array Value)[j]? = some u → w'.cell? ⟨x2, j, none⟩ = some u) :=
    fun w' e => ⟨fun j u hu => e.cell (hx1'.cell j hu), fun j u hu => e.cell (hx2.cell j hu)⟩
  refine WL.v (RV.assign rfl) rfl ?_
  refine WL.nil ?_
  refine QF.seqNext ?_
  refine WC.seq ?_
  refine WC.region ?_
  refine WL.v (RV.fieldAddr 0 Try.underlying32 rfl rfl (Try.sizeOf3 _) (by decide) rfl) rfl ?_
  refine WL.v (RV.load (by first | exact (c _ (Ext.refl _)).1 0 _ rfl | exact (c _ (Ext.refl _)).2 0 _ rfl) (Try.isAgg3 _) rfl) rfl ?_
  refine WL.v (RV.fieldAddr 0 Try.underlying34 rfl rfl (Try.sizeOf3 _) (by decide) rfl) rfl ?_
  refine WL.v (RV.load (by first | exact (c _ (Ext.refl _)).1 0 _ rfl | exact (c _ (Ext.refl _)).2 0 _ rfl) (Try.isAgg3 _) rfl) rfl ?_
  refine WL.v (RV.eql rfl rfl) rfl ?_
  refine WL.v (RV.move rfl) rfl ?_
  refine WL.andBS (Ext w2) (p.usual == q.usual) 5 (Ext.refl _) rfl rfl rfl rfl rfl ?_ ?_
  · skip
    intro h1
    refine WL.on rfl ?_
    refine WL.v (RV.fieldAddr 1 Try.underlying32 rfl rfl (Try.sizeOf25 _) (by decide) rfl) rfl ?_
    refine WL.on rfl ?_
    refine WL.v (RV.load (by first | exact (c _ (Ext.refl _)).1 1 _ rfl | exact (c _ (Ext.refl _)).2 1 _ rfl) (Try.isAgg25 _) rfl) rfl ?_
    refine WL.on rfl ?_
    refine WL.v (RV.fieldAddr 1 Try.underlying34 rfl rfl (Try.sizeOf25 _) (by decide) rfl) rfl ?_
    refine WL.on rfl ?_
    refine WL.v (RV.load (by first | exact (c _ (Ext.refl _)).1 1 _ rfl | exact (c _ (Ext.refl _)).2 1 _ rfl) (Try.isAgg25 _) rfl) rfl ?_
    refine WL.on rfl ?_
    refine WL.call Try.call22 rfl (same12_ret p.usual q.usual u1 u2 _ (hu1.ext hE) (hu2.ext hE)) rfl ?_
    rintro v w3 ⟨rfl, hE3⟩
    refine WL.nil ?_
    refine QF.andEnd (tA := 10) 6 (hE3) rfl rfl rfl (fun v hv => (Option.some.inj hv).symm.trans (congrArg Value.bool h1)) rfl
  intro w3 hE3
  refine WL.v (RV.move rfl) rfl ?_
  refine WL.andBS (Ext w2) (p.base == q.base) 5 (hE3) rfl rfl rfl rfl rfl ?_ ?_
  · skip
    intro h2
    refine WL.on rfl ?_
    refine WL.v (RV.fieldAddr 2 Try.underlying32 rfl rfl (Try.sizeOf25 _) (by decide) rfl) rfl ?_
    refine WL.on rfl ?_
    refine WL.v (RV.load (by first | exact (c _ hE3).1 2 _ rfl | exact (c _ hE3).2 2 _ rfl) (Try.isAgg25 _) rfl) rfl ?_
    refine WL.on rfl ?_
    refine WL.v (RV.fieldAddr 2 Try.underlying34 rfl rfl (Try.sizeOf25 _) (by decide) rfl) rfl ?_
    refine WL.on rfl ?_
    refine WL.v (RV.load (by first | exact (c _ hE3).1 2 _ rfl | exact (c _ hE3).2 2 _ rfl) (Try.isAgg25 _) rfl) rfl ?_
    refine WL.on rfl ?_
    refine WL.call Try.call22 rfl (same12_ret p.base q.base b1 b2 _ ((hb1.ext hE).ext hE3) ((hb2.ext hE).ext hE3)) rfl ?_
    rintro v w4 ⟨rfl, hE4⟩
    refine WL.nil ?_
    refine QF.andEnd (tA := 17) 6 (hE3.trans hE4) rfl rfl rfl (fun v hv => (Option.some.inj hv).symm.trans (congrArg Value.bool h2)) rfl
  intro w4 hE4
  refine WL.v (RV.move rfl) rfl ?_
  refine WL.andBS (Ext w2) (p.check == q.check) 5 (hE4) rfl rfl rfl rfl rfl ?_ ?_
  · skip
    intro h3
    refine WL.on rfl ?_
    refine WL.v (RV.fieldAddr 3 Try.underlying32 rfl rfl (Try.sizeOf25 _) (by decide) rfl) rfl ?_
    refine WL.on rfl ?_
    refine WL.v (RV.load (by first | exact (c _ hE4).1 3 _ rfl | exact (c _ hE4).2 3 _ rfl) (Try.isAgg25 _) rfl) rfl ?_
    refine WL.on rfl ?_
    refine WL.v (RV.fieldAddr 3 Try.underlying34 rfl rfl (Try.sizeOf25 _) (by decide) rfl) rfl ?_
    refine WL.on rfl ?_
    refine WL.v (RV.load (by first | exact (c _ hE4).1 3 _ rfl | exact (c _ hE4).2 3 _ rfl) (Try.isAgg25 _) rfl) rfl ?_
    refine WL.on rfl ?_
    refine WL.call Try.call22 rfl (same12_ret p.check q.check k1 k2 _ ((hk1.ext hE).ext hE4) ((hk2.ext hE).ext hE4)) rfl ?_
    rintro v w5 ⟨rfl, hE5⟩
    refine WL.nil ?_
    refine QF.andEnd (tA := 24) 6 (hE4.trans hE5) rfl rfl rfl (fun v hv => (Option.some.inj hv).symm.trans (congrArg Value.bool h3)) rfl
  intro w5 hE5
  refine WL.v (RV.move rfl) rfl ?_
  refine WL.andBS (Ext w2) (p.next == q.next) 5 (hE5) rfl rfl rfl rfl rfl ?_ ?_
  · skip
    intro h4
    refine WL.on rfl ?_
    refine WL.v (RV.fieldAddr 4 Try.underlying32 rfl rfl (Try.sizeOf25 _) (by decide) rfl) rfl ?_
    refine WL.on rfl ?_
    refine WL.v (RV.load (by first | exact (c _ hE5).1 4 _ rfl | exact (c _ hE5).2 4 _ rfl) (Try.isAgg25 _) rfl) rfl ?_
    refine WL.on rfl ?_
    refine WL.v (RV.fieldAddr 4 Try.underlying34 rfl rfl (Try.sizeOf25 _) (by decide) rfl) rfl ?_
    refine WL.on rfl ?_
    refine WL.v (RV.load (by first | exact (c _ hE5).1 4 _ rfl | exact (c _ hE5).2 4 _ rfl) (Try.isAgg25 _) rfl) rfl ?_
    refine WL.on rfl ?_
    refine WL.call Try.call22 rfl (same12_ret p.next q.next n1 n2 _ ((hn1.ext hE).ext hE5) ((hn2.ext hE).ext hE5)) rfl ?_
    rintro v w6 ⟨rfl, hE6⟩
    refine WL.nil ?_
    refine QF.andEnd (tA := 31) 6 (hE5.trans hE6) rfl rfl rfl (fun v hv => (Option.some.inj hv).symm.trans (congrArg Value.bool h4)) rfl
  intro w6 hE6
  refine WL.v (RV.assign rfl) rfl ?_
  refine WL.nil ?_
  refine QF.seqNext ?_
  refine WC.ret ?_
  refine QF.done1 rfl rfl (⟨rfl, hE.trans hE6⟩)
end Go.Proofs.Ytahdlfnjnjngaaa
