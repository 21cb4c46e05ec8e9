/- Chapter 12: PackSame, walked. -/
import Derived.Test.YtahdlfnjnjngaaaPackG
namespace Go.Proofs.Ytahdlfnjnjngaaa
open Go.VL Go.Proofs

/-- 'slices.Equal[[]int,int]'. -/
theorem equalI_ret (la lb : List Int) (av bv : Value) (w : World) (ha : Sl (fun x : Int => [Value.int .i64 x]) 1 w av la) (hb : Sl (fun x : Int => [Value.int .i64 x]) 1 w bv lb) :
    Ret Try.prog 29 [av, bv] w fun v w' => v = .bool (la == lb) ∧ Ext w w' := by
  have hal := ha.len_le
  refine Ret.enter Try.func29 Try.ntmps29 rfl rfl ?_
  refine WC.seq ?_
  refine WC.region ?_
  refine WL.v (RV.assign rfl) rfl ?_
  refine WL.nil ?_
  refine QF.seqNext ?_
  refine WC.seq ?_
  refine WC.seq ?_
  refine WC.region ?_
  refine WL.v (RV.move rfl) rfl ?_
  refine WL.v (RV.len (by first | exact ha | exact hb) Try.underlying25 rfl) rfl ?_
  refine WL.v (RV.move rfl) rfl ?_
  refine WL.v (RV.len (by first | exact ha | exact hb) Try.underlying25 rfl) rfl ?_
  refine WL.v (RV.neq rfl rfl) rfl ?_
  refine WL.nil ?_
  refine QF.seqNext ?_
  refine WC.cond rfl ?_ ?_
  · intro hne
    refine WC.seq ?_
    refine WC.region ?_
    refine WL.v (RV.assign rfl) rfl ?_
    refine WL.nil ?_
    refine QF.seqNext ?_
    refine WC.ret ?_
    refine QF.thenRet ?_
    refine QF.done1 rfl rfl (⟨?_, Ext.refl _⟩)
    have : la ≠ lb := fun e => by subst e; simp at hne
    simpa using this.symm ∘ Eq.symm
  · intro heq
    replace heq : la.length = lb.length := by have : (la.length : Int) = lb.length := by simpa using heq
                                              omega
    refine WC.skip ?_
    refine QF.seqNext ?_
    refine WC.seq ?_
    refine WC.seq ?_
    refine WC.region ?_
    refine WL.v (RV.move rfl) rfl ?_
    refine WL.v (RV.len (by first | exact ha | exact hb) Try.underlying25 rfl) rfl ?_
    refine WL.v (RV.move rfl) rfl ?_
    refine WL.nil ?_
    refine QF.seqNext ?_
    refine WC.block ?_
    refine WC.loop (fun x : Nat × World => [(0, av), (1, bv), (12, .int .i64 la.length), (13, .int .i64 x.1)]) (fun x : Nat × World => x.2) (fun x : Nat × World => x.1 ≤ la.length ∧ Ext w x.2 ∧ la.take x.1 = lb.take x.1) (fun x : Nat × World => la.length - x.1) (0, w) (⟨Nat.zero_le _, Ext.refl _, rfl⟩) ⟨rfl, rfl, rfl, rfl, trivial⟩ rfl ?_
    rintro ⟨k, w1⟩ ⟨hk, hE, htk⟩
    dsimp only at hk hE htk ⊢
    have ha1 := ha.ext hE
    have hb1 := hb.ext hE
    refine WC.seq ?_
    refine WC.region ?_
    refine WL.v (RV.lss rfl rfl) rfl ?_
    refine WL.nil ?_
    refine QF.seqNext ?_
    refine WC.seq ?_
    refine WC.cond rfl ?_ ?_
    · intro hlt
      replace hlt : k < la.length := by have := of_decide_eq_true hlt; omega
      refine WC.skip ?_
      refine QF.seqNext ?_
      refine WC.seq ?_
      refine WC.block ?_
      refine WC.seq ?_
      refine WC.region ?_
      refine WL.v (RV.move rfl) rfl ?_
      refine WL.v (RV.assign rfl) rfl ?_
      refine WL.nil ?_
      refine QF.seqNext ?_
      refine WC.seq ?_
      refine WC.still (by kernel_rfl) (by kernel_rfl) ?_
      refine WS.v (RV.move rfl) rfl ?_
      refine WS.v (RV.move rfl) rfl ?_
      refine WS.v (RV.indexAddr (by first | exact (ha1).drew | exact (hb1).drew) Try.underlying25 (Try.sizeOf3 _) rfl rfl _ rfl (by omega)) rfl ?_
      refine WS.v (RV.load (by first | exact ha1.ld (by omega) | exact hb1.ld (by omega)) (Try.isAgg3 _) rfl) rfl ?_
      refine WS.v (RV.move rfl) rfl ?_
      refine WS.v (RV.move rfl) rfl ?_
      refine WS.v (RV.indexAddr (by first | exact (ha1).drew | exact (hb1).drew) Try.underlying25 (Try.sizeOf3 _) rfl rfl _ rfl (by omega)) rfl ?_
      refine WS.v (RV.load (by first | exact ha1.ld (by omega) | exact hb1.ld (by omega)) (Try.isAgg3 _) rfl) rfl ?_
      refine WS.v (RV.neq rfl rfl) rfl ?_
      refine WS.nil ?_
      refine QF.seqNext ?_
      refine WC.cond rfl ?_ ?_
      · intro hne
        refine WC.seq ?_
        refine WC.region ?_
        refine WL.v (RV.assign rfl) rfl ?_
        refine WL.nil ?_
        refine QF.seqNext ?_
        refine WC.ret ?_
        refine QF.blockRet ?_
        refine QF.thenRet ?_
        refine QF.thenRet ?_
        refine QF.blockRet ?_
        refine QF.thenRet ?_
        refine QF.done1 rfl rfl (⟨?_, hE.drew⟩)
        have : la ≠ lb := fun e => by subst e; simp at hne
        simpa using this
      · intro hee
        refine WC.skip ?_
        refine QF.blockNormal ?_
        refine QF.seqNext ?_
        refine WC.region ?_
        refine WL.v (RV.add rfl rfl (Fit.i64 (by omega))) rfl ?_
        refine WL.v (RV.move rfl) rfl ?_
        refine WL.nil ?_
        refine QF.next ((k + 1, w1.drew)) (⟨hlt, hE.drew, by rw [take_nth hlt, take_nth (by omega : k < lb.length), htk]; simpa using hee⟩) (by omega) ⟨rfl, rfl, rfl, rfl, trivial⟩ rfl
    · intro hge
      replace hge : la.length ≤ k := by have := of_decide_eq_false hge; omega
      refine WC.exit ?_
      refine QF.thenExit ?_
      refine QF.thenExit ?_
      refine QF.blockHit ?_
      refine QF.seqNext ?_
      refine WC.seq ?_
      refine WC.region ?_
      refine WL.v (RV.assign rfl) rfl ?_
      refine WL.nil ?_
      refine QF.seqNext ?_
      refine WC.ret ?_
      refine QF.done1 rfl rfl (⟨?_, hE⟩)
      rw [List.take_of_length_le hge, List.take_of_length_le (by omega)] at htk
      simp [htk]

theorem psame_ret (p q : PSt) (pv qv : Value) (w : World) (hp : PkV w pv p) (hq : PkV w qv q) :
    Ret Try.prog 16 [pv, qv] w fun v w' => v = .bool (p.same q) ∧ Ext w w' := by
  obtain ⟨u1, b1, k1, n1, rfl, hu1, hb1, hk1, hn1⟩ := hp
  obtain ⟨u2, b2, k2, n2, rfl, hu2, hb2, hk2, hn2⟩ := hq
  refine Ret.enter Try.func16 Try.ntmps16 rfl rfl ?_
  refine WC.seq ?_
  refine WC.region ?_
  refine WL.boxO (Rng.start w) 1 (by omega) rfl rfl ?_
  intro x1 w1 O1 hx1 hU1 hR1 hE1
  refine WL.boxO hR1 2 (by omega) rfl rfl ?_
  intro x2 w2 O2 hx2 hU2 hR2 hE2
  have hx1' := hx1.upd hU2 (by decide) (by decide)
  have hE := hE1.trans hE2
  have c : ∀ w', Ext w2 w' → (∀ j u, (#[.int .i64 p.width, u1, b1, k1, n1] : Array Value)[j]? = some u → w'.cell? ⟨x1, j, none⟩ = some u) ∧ (∀ j u, (#[.int .i64 q.width, u2, b2, k2, n2] : Array Value)[j]? = some u → w'.cell? ⟨x2, j, none⟩ = some u) :=
    fun w' e => ⟨fun j u hu => e.cell (hx1'.cell j hu), fun j u hu => e.cell (hx2.cell j hu)⟩
  refine WL.v (RV.assign rfl) rfl ?_
  refine WL.nil ?_
  refine QF.seqNext ?_
  refine WC.seq ?_
  refine WC.region ?_
  refine WL.v (RV.fieldAddr 0 Try.underlying27 rfl rfl (Try.sizeOf3 _) (by decide) rfl) rfl ?_
  refine WL.v (RV.load (by first | exact (c _ (Ext.refl _)).1 0 _ rfl | exact (c _ (Ext.refl _)).2 0 _ rfl) (Try.isAgg3 _) rfl) rfl ?_
  refine WL.v (RV.fieldAddr 0 Try.underlying27 rfl rfl (Try.sizeOf3 _) (by decide) rfl) rfl ?_
  refine WL.v (RV.load (by first | exact (c _ (Ext.refl _)).1 0 _ rfl | exact (c _ (Ext.refl _)).2 0 _ rfl) (Try.isAgg3 _) rfl) rfl ?_
  refine WL.v (RV.eql rfl rfl) rfl ?_
  refine WL.v (RV.move rfl) rfl ?_
  refine WL.andBS (Ext w2) (p.usual == q.usual) 5 (Ext.refl _) rfl rfl rfl rfl rfl ?_ ?_
  · skip
    intro h1
    refine WL.on rfl ?_
    refine WL.v (RV.fieldAddr 1 Try.underlying27 rfl rfl (Try.sizeOf25 _) (by decide) rfl) rfl ?_
    refine WL.on rfl ?_
    refine WL.v (RV.load (by first | exact (c _ (Ext.refl _)).1 1 _ rfl | exact (c _ (Ext.refl _)).2 1 _ rfl) (Try.isAgg25 _) rfl) rfl ?_
    refine WL.on rfl ?_
    refine WL.v (RV.fieldAddr 1 Try.underlying27 rfl rfl (Try.sizeOf25 _) (by decide) rfl) rfl ?_
    refine WL.on rfl ?_
    refine WL.v (RV.load (by first | exact (c _ (Ext.refl _)).1 1 _ rfl | exact (c _ (Ext.refl _)).2 1 _ rfl) (Try.isAgg25 _) rfl) rfl ?_
    refine WL.on rfl ?_
    refine WL.call Try.call29 rfl (equalI_ret p.usual q.usual u1 u2 _ (hu1.ext hE) (hu2.ext hE)) rfl ?_
    rintro v w3 ⟨rfl, hE3⟩
    refine WL.nil ?_
    refine QF.andEnd (tA := 10) 6 (hE3) rfl rfl rfl (fun v hv => (Option.some.inj hv).symm.trans (congrArg Value.bool h1)) rfl
  intro w3 hE3
  refine WL.v (RV.move rfl) rfl ?_
  refine WL.andBS (Ext w2) (p.base == q.base) 5 (hE3) rfl rfl rfl rfl rfl ?_ ?_
  · skip
    intro h2
    refine WL.on rfl ?_
    refine WL.v (RV.fieldAddr 2 Try.underlying27 rfl rfl (Try.sizeOf25 _) (by decide) rfl) rfl ?_
    refine WL.on rfl ?_
    refine WL.v (RV.load (by first | exact (c _ hE3).1 2 _ rfl | exact (c _ hE3).2 2 _ rfl) (Try.isAgg25 _) rfl) rfl ?_
    refine WL.on rfl ?_
    refine WL.v (RV.fieldAddr 2 Try.underlying27 rfl rfl (Try.sizeOf25 _) (by decide) rfl) rfl ?_
    refine WL.on rfl ?_
    refine WL.v (RV.load (by first | exact (c _ hE3).1 2 _ rfl | exact (c _ hE3).2 2 _ rfl) (Try.isAgg25 _) rfl) rfl ?_
    refine WL.on rfl ?_
    refine WL.call Try.call29 rfl (equalI_ret p.base q.base b1 b2 _ ((hb1.ext hE).ext hE3) ((hb2.ext hE).ext hE3)) rfl ?_
    rintro v w4 ⟨rfl, hE4⟩
    refine WL.nil ?_
    refine QF.andEnd (tA := 17) 6 (hE3.trans hE4) rfl rfl rfl (fun v hv => (Option.some.inj hv).symm.trans (congrArg Value.bool h2)) rfl
  intro w4 hE4
  refine WL.v (RV.move rfl) rfl ?_
  refine WL.andBS (Ext w2) (p.check == q.check) 5 (hE4) rfl rfl rfl rfl rfl ?_ ?_
  · skip
    intro h3
    refine WL.on rfl ?_
    refine WL.v (RV.fieldAddr 3 Try.underlying27 rfl rfl (Try.sizeOf25 _) (by decide) rfl) rfl ?_
    refine WL.on rfl ?_
    refine WL.v (RV.load (by first | exact (c _ hE4).1 3 _ rfl | exact (c _ hE4).2 3 _ rfl) (Try.isAgg25 _) rfl) rfl ?_
    refine WL.on rfl ?_
    refine WL.v (RV.fieldAddr 3 Try.underlying27 rfl rfl (Try.sizeOf25 _) (by decide) rfl) rfl ?_
    refine WL.on rfl ?_
    refine WL.v (RV.load (by first | exact (c _ hE4).1 3 _ rfl | exact (c _ hE4).2 3 _ rfl) (Try.isAgg25 _) rfl) rfl ?_
    refine WL.on rfl ?_
    refine WL.call Try.call29 rfl (equalI_ret p.check q.check k1 k2 _ ((hk1.ext hE).ext hE4) ((hk2.ext hE).ext hE4)) rfl ?_
    rintro v w5 ⟨rfl, hE5⟩
    refine WL.nil ?_
    refine QF.andEnd (tA := 24) 6 (hE4.trans hE5) rfl rfl rfl (fun v hv => (Option.some.inj hv).symm.trans (congrArg Value.bool h3)) rfl
  intro w5 hE5
  refine WL.v (RV.move rfl) rfl ?_
  refine WL.andBS (Ext w2) (p.next == q.next) 5 (hE5) rfl rfl rfl rfl rfl ?_ ?_
  · skip
    intro h4
    refine WL.on rfl ?_
    refine WL.v (RV.fieldAddr 4 Try.underlying27 rfl rfl (Try.sizeOf25 _) (by decide) rfl) rfl ?_
    refine WL.on rfl ?_
    refine WL.v (RV.load (by first | exact (c _ hE5).1 4 _ rfl | exact (c _ hE5).2 4 _ rfl) (Try.isAgg25 _) rfl) rfl ?_
    refine WL.on rfl ?_
    refine WL.v (RV.fieldAddr 4 Try.underlying27 rfl rfl (Try.sizeOf25 _) (by decide) rfl) rfl ?_
    refine WL.on rfl ?_
    refine WL.v (RV.load (by first | exact (c _ hE5).1 4 _ rfl | exact (c _ hE5).2 4 _ rfl) (Try.isAgg25 _) rfl) rfl ?_
    refine WL.on rfl ?_
    refine WL.call Try.call29 rfl (equalI_ret p.next q.next n1 n2 _ ((hn1.ext hE).ext hE5) ((hn2.ext hE).ext hE5)) rfl ?_
    rintro v w6 ⟨rfl, hE6⟩
    refine WL.nil ?_
    refine QF.andEnd (tA := 31) 6 (hE5.trans hE6) rfl rfl rfl (fun v hv => (Option.some.inj hv).symm.trans (congrArg Value.bool h4)) rfl
  intro w6 hE6
  refine WL.v (RV.assign rfl) rfl ?_
  refine WL.nil ?_
  refine QF.seqNext ?_
  refine WC.ret ?_
  refine QF.done1 rfl rfl (⟨rfl, hE.trans hE6⟩)

def PSt.huge (p : PSt) : Bool := decide (60 < p.usual.length) || decide (60 < p.base.length) || decide (200 < p.check.length) || decide (200 < p.next.length)
theorem dnat (a : Nat) (n : Nat) : decide ((n : Int) < (a : Int)) = decide (n < a) := decide_eq_decide.2 (by omega)

theorem huge_ret (p : PSt) (pv : Value) (w : World) (hp : PkV w pv p) :
    Ret Try.prog 15 [pv] w fun v w' => v = .bool p.huge ∧ Ext w w' := by
  obtain ⟨u1, b1, k1, n1, rfl, hu1, hb1, hk1, hn1⟩ := hp
  refine Ret.enter Try.func15 Try.ntmps15 rfl rfl ?_
  refine WC.seq ?_
  refine WC.region ?_
  refine WL.boxO (Rng.start w) 1 (by omega) rfl rfl ?_
  intro x1 w1 O1 hx1 hU1 hR1 hE1
  replace hu1 := hu1.ext hE1
  replace hb1 := hb1.ext hE1
  replace hk1 := hk1.ext hE1
  replace hn1 := hn1.ext hE1
  refine WL.v (RV.assign rfl) rfl ?_
  refine WL.nil ?_
  refine QF.seqNext ?_
  refine WC.seq ?_
  refine WC.region ?_
  refine WL.v (RV.fieldAddr 1 Try.underlying34 rfl rfl (Try.sizeOf25 _) (by decide) rfl) rfl ?_
  refine WL.v (RV.load (by first | exact hx1.cell 1 rfl) (Try.isAgg25 _) rfl) rfl ?_
  refine WL.v (RV.len (by first | exact hu1 | exact hb1 | exact hk1 | exact hn1) Try.underlying25 rfl) rfl ?_
  refine WL.v (RV.gtr rfl rfl) rfl ?_
  refine WL.v (RV.move rfl) rfl ?_
  refine WL.orBS (fun w1 => _ = w1) (decide ((60 : Int) < p.base.length)) 4 (rfl) rfl rfl rfl rfl rfl ?_ ?_
  · skip
    intro h1
    refine WL.on rfl ?_
    refine WL.v (RV.fieldAddr 2 Try.underlying34 rfl rfl (Try.sizeOf25 _) (by decide) rfl) rfl ?_
    refine WL.on rfl ?_
    refine WL.v (RV.load (by first | exact hx1.cell 2 rfl) (Try.isAgg25 _) rfl) rfl ?_
    refine WL.on rfl ?_
    refine WL.v (RV.len (by first | exact hu1 | exact hb1 | exact hk1 | exact hn1) Try.underlying25 rfl) rfl ?_
    refine WL.on rfl ?_
    refine WL.v (RV.gtr rfl rfl) rfl ?_
    refine WL.nil ?_
    refine QF.andEnd (tA := 7) 5 (rfl) rfl rfl rfl (fun v hv => (Option.some.inj hv).symm.trans (congrArg Value.bool h1)) rfl
  rintro _ rfl
  refine WL.v (RV.move rfl) rfl ?_
  refine WL.orBS (fun w1 => _ = w1) (decide ((200 : Int) < p.check.length)) 4 (rfl) rfl rfl rfl rfl rfl ?_ ?_
  · skip
    intro h2
    refine WL.on rfl ?_
    refine WL.v (RV.fieldAddr 3 Try.underlying34 rfl rfl (Try.sizeOf25 _) (by decide) rfl) rfl ?_
    refine WL.on rfl ?_
    refine WL.v (RV.load (by first | exact hx1.cell 3 rfl) (Try.isAgg25 _) rfl) rfl ?_
    refine WL.on rfl ?_
    refine WL.v (RV.len (by first | exact hu1 | exact hb1 | exact hk1 | exact hn1) Try.underlying25 rfl) rfl ?_
    refine WL.on rfl ?_
    refine WL.v (RV.gtr rfl rfl) rfl ?_
    refine WL.nil ?_
    refine QF.andEnd (tA := 13) 5 (rfl) rfl rfl rfl (fun v hv => (Option.some.inj hv).symm.trans (congrArg Value.bool h2)) rfl
  rintro _ rfl
  refine WL.v (RV.move rfl) rfl ?_
  refine WL.orBS (fun w1 => _ = w1) (decide ((200 : Int) < p.next.length)) 4 (rfl) rfl rfl rfl rfl rfl ?_ ?_
  · skip
    intro h3
    refine WL.on rfl ?_
    refine WL.v (RV.fieldAddr 4 Try.underlying34 rfl rfl (Try.sizeOf25 _) (by decide) rfl) rfl ?_
    refine WL.on rfl ?_
    refine WL.v (RV.load (by first | exact hx1.cell 4 rfl) (Try.isAgg25 _) rfl) rfl ?_
    refine WL.on rfl ?_
    refine WL.v (RV.len (by first | exact hu1 | exact hb1 | exact hk1 | exact hn1) Try.underlying25 rfl) rfl ?_
    refine WL.on rfl ?_
    refine WL.v (RV.gtr rfl rfl) rfl ?_
    refine WL.nil ?_
    refine QF.andEnd (tA := 19) 5 (rfl) rfl rfl rfl (fun v hv => (Option.some.inj hv).symm.trans (congrArg Value.bool h3)) rfl
  rintro _ rfl
  refine WL.v (RV.assign rfl) rfl ?_
  refine WL.nil ?_
  refine QF.seqNext ?_
  refine WC.ret ?_
  refine QF.done1 rfl rfl (⟨?_, hE1⟩)
  simp only [PSt.huge, ← dnat]; rfl

theorem to_ret (width : Int) (u1 b1 k1 n1 : Value) (w : World) (o1 : u1.oneCell' = true) (o2 : b1.oneCell' = true) (o3 : k1.oneCell' = true) (o4 : n1.oneCell' = true) :
    Ret Try.prog 17 [.agg #[.int .i64 width, u1, b1, k1, n1]] w fun v w' => v = .agg #[.int .i64 width, u1, b1, k1, n1] ∧ Ext w w' := by
  refine Ret.enter Try.func17 Try.ntmps17 rfl rfl ?_
  refine WC.seq ?_
  refine WC.region ?_
  refine WL.boxO (Rng.start w) 1 (by omega) rfl rfl ?_
  intro x1 w1 O1 hx1 hU1 hR1 hE1
  refine WL.allocO hR1 2 (by omega) (Try.zeroValue27 _) rfl ?_
  intro x2 w2 O2 hx2 hU2 hR2 hE2
  have hx1' := hx1.upd hU2 (by decide) (by decide)
  refine WL.nil ?_
  refine QF.seqNext ?_
  refine WC.seq ?_
  refine WC.region ?_
  refine WL.v (RV.fieldAddr 0 Try.underlying34 rfl rfl (Try.sizeOf3 _) (by decide) rfl) rfl ?_
  refine WL.v (RV.load (by first | exact hx1'.cell 0 rfl) (Try.isAgg3 _) rfl) rfl ?_
  refine WL.v (RV.fieldAddr 1 Try.underlying34 rfl rfl (Try.sizeOf25 _) (by decide) rfl) rfl ?_
  refine WL.v (RV.load (u := u1) (hx1'.cell 1 rfl) (Try.isAgg25 _) rfl) rfl ?_
  refine WL.v (RV.fieldAddr 2 Try.underlying34 rfl rfl (Try.sizeOf25 _) (by decide) rfl) rfl ?_
  refine WL.v (RV.load (u := b1) (hx1'.cell 2 rfl) (Try.isAgg25 _) rfl) rfl ?_
  refine WL.v (RV.fieldAddr 3 Try.underlying34 rfl rfl (Try.sizeOf25 _) (by decide) rfl) rfl ?_
  refine WL.v (RV.load (u := k1) (hx1'.cell 3 rfl) (Try.isAgg25 _) rfl) rfl ?_
  refine WL.v (RV.fieldAddr 4 Try.underlying34 rfl rfl (Try.sizeOf25 _) (by decide) rfl) rfl ?_
  refine WL.v (RV.load (u := n1) (hx1'.cell 4 rfl) (Try.isAgg25 _) rfl) rfl ?_
  refine WL.v (RV.buildF pl27 (Try.zeroValue27 _) rfl (by first | rfl | (simp only [List.all_cons, o1, o2, o3, o4]; rfl)) rfl rfl) rfl ?_
  refine WL.storeAgg (us := #[.int .i64 width, u1, b1, k1, n1]) hx2 rfl (Try.sizeOf27 _) (by simp only [List.all_cons, o1, o2, o3, o4]; rfl) rfl rfl rfl ?_
  refine WL.nil ?_
  refine QF.seqNext ?_
  refine WC.ret ?_
  refine QF.doneC1 rfl rfl ((hx2.setRow).cellsAdd) (Try.isAgg27 _) (Try.sizeOf27 _) (⟨rfl, (((hU1.mono (S' := fun j => 1 ≤ j ∧ j ≤ 2) (by omega) (by omega)).trans (hU2.mono (by omega) (by omega))).trans (Upd.setRow (by omega) hx2.tag (by omega))).ext⟩)
end Go.Proofs.Ytahdlfnjnjngaaa
