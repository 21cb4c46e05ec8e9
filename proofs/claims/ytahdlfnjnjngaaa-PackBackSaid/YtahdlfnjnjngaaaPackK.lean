/- Chapter 12: PackSame, walked to its end. -/
import Derived.Test.YtahdlfnjnjngaaaPackJ
import Derived.Test.YtahdlfnjnjngaaaVe
namespace Go.Proofs.Ytahdlfnjnjngaaa
open Go.VL Go.Proofs

theorem PSt.same_self (p : PSt) : p.same p = true := by simp [PSt.same]

theorem packSame_ret (p q : PSt) (pv qv : Value) (w : World) (hp : PkV w pv p) (hq : PkV w qv q) :
    Ret Try.prog 5 [pv, qv] w fun v w' => v = .bool true ∧ Ext w w' := by
  have hp0 := hp
  have hq0 := hq
  obtain ⟨u1, b1, k1, n1, rfl, hu1, hb1, hk1, hn1⟩ := hp
  obtain ⟨u2, b2, k2, n2, rfl, hu2, hb2, hk2, hn2⟩ := hq
  refine Ret.enter Try.func5 Try.ntmps5 rfl rfl ?_
  refine WC.seq ?_
  refine WC.region ?_
  refine WL.boxO (Rng.start w) 1 (by omega) rfl rfl ?_
  intro x1 w1 O1 hx1 hU1 hR1 hE1
  refine WL.boxO hR1 2 (by omega) rfl rfl ?_
  intro x2 w2 O2 hx2 hU2 hR2 hE2
  have hx1' := hx1.upd hU2 (by decide) (by decide)
  have hE := hE1.trans hE2
  have c1 : ∀ w', Ext w2 w' → ∀ (j : Nat) u, [Value.int .i64 p.width, u1, b1, k1, n1][j]? = some u → w'.cell? ((⟨x1, 0, none⟩ : Addr).add j) = some u := fun w' e j u h => e.cell (hx1'.cellsAdd j u h)
  have c2 : ∀ w', Ext w2 w' → ∀ (j : Nat) u, [Value.int .i64 q.width, u2, b2, k2, n2][j]? = some u → w'.cell? ((⟨x2, 0, none⟩ : Addr).add j) = some u := fun w' e j u h => e.cell (hx2.cellsAdd j u h)
  refine WL.v (RV.assign rfl) rfl ?_
  refine WL.nil ?_
  refine QF.seqNext ?_
  refine WC.seq ?_
  refine WC.seq ?_
  refine WC.region ?_
  refine WL.v (RV.loadAgg (c1 _ (Ext.refl _)) (Try.isAgg34 _) (Try.sizeOf34 _) rfl) rfl ?_
  refine WL.call Try.call15 rfl (huge_ret p _ _ (hp0.ext hE)) rfl ?_
  rintro v w3 ⟨rfl, hE3⟩
  refine WL.v (RV.move rfl) rfl ?_
  refine WL.orBS (Ext w2) (q.huge) 2 (hE3) rfl rfl rfl rfl rfl ?_ ?_
  · skip
    intro h1
    refine WL.on rfl ?_
    refine WL.v (RV.loadAgg (c2 _ hE3) (Try.isAgg34 _) (Try.sizeOf34 _) rfl) rfl ?_
    refine WL.on rfl ?_
    refine WL.call Try.call15 rfl (huge_ret q _ _ ((hq0.ext hE).ext hE3)) rfl ?_
    rintro v w4 ⟨rfl, hE4⟩
    refine WL.nil ?_
    refine QF.andEnd (tA := 7) 3 (hE3.trans hE4) rfl rfl rfl (fun v hv => (Option.some.inj hv).symm.trans (congrArg Value.bool h1)) rfl
  intro w4 hE4
  refine WL.v (RV.move rfl) rfl ?_
  refine WL.orBS (Ext w2) (false) 2 (hE4) rfl rfl rfl rfl rfl ?_ ?_
  · skip
    intro h2
    refine WL.on rfl ?_
    refine WL.call Try.call9 rfl (awake_ret _) rfl ?_
    rintro v w5 ⟨rfl, hE5⟩
    refine WL.on rfl ?_
    refine WL.v (RV.not rfl) rfl ?_
    refine WL.nil ?_
    refine QF.andEnd (tA := 11) 3 (hE4.trans hE5) rfl rfl rfl (fun v hv => (Option.some.inj hv).symm.trans (congrArg Value.bool h2)) rfl
  intro w5 hE5
  refine WL.nil ?_
  refine QF.seqNext ?_
  refine WC.cond rfl ?_ ?_
  · intro hg
    refine WC.seq ?_
    refine WC.region ?_
    refine WL.call Try.call9 rfl (awake_ret _) rfl ?_
    rintro v w6 ⟨rfl, hE6⟩
    refine WL.v (RV.assign rfl) rfl ?_
    refine WL.nil ?_
    refine QF.seqNext ?_
    refine WC.ret ?_
    refine QF.thenRet ?_
    refine QF.done1 rfl rfl (⟨rfl, (hE.trans hE5).trans hE6⟩)
  · intro hg
    refine WC.skip ?_
    refine QF.seqNext ?_
    refine WC.seq ?_
    refine WC.quiet (Ext w2) (by kernel_rfl) (by kernel_rfl) (hE5.drew) ?_
    refine WQ.v (fun w1 hw1 => RV.loadAgg (c1 _ hw1) (Try.isAgg34 _) (Try.sizeOf34 _) rfl) rfl ?_
    refine WQ.call Try.call17 rfl (fun w1 hw1 => (to_ret p.width u1 b1 k1 n1 _ hu1.one hb1.one hk1.one hn1.one).mono fun v w' h => ⟨h.1, hw1.trans h.2⟩) rfl ?_
    refine WQ.v (fun w1 hw1 => RV.loadAgg (c2 _ hw1) (Try.isAgg34 _) (Try.sizeOf34 _) rfl) rfl ?_
    refine WQ.call Try.call17 rfl (fun w1 hw1 => (to_ret q.width u2 b2 k2 n2 _ hu2.one hb2.one hk2.one hn2.one).mono fun v w' h => ⟨h.1, hw1.trans h.2⟩) rfl ?_
    refine WQ.call Try.call16 rfl (fun w1 hw1 => (psame_ret p q _ _ _ ((hp0.ext hE).ext hw1) ((hq0.ext hE).ext hw1)).mono fun v w' h => ⟨h.1, hw1.trans h.2⟩) rfl ?_
    refine WQ.v (fun w1 hw1 => RV.loadAgg (c1 _ hw1) (Try.isAgg34 _) (Try.sizeOf34 _) rfl) rfl ?_
    refine WQ.call Try.call17 rfl (fun w1 hw1 => (to_ret p.width u1 b1 k1 n1 _ hu1.one hb1.one hk1.one hn1.one).mono fun v w' h => ⟨h.1, hw1.trans h.2⟩) rfl ?_
    refine WQ.v (fun w1 hw1 => RV.loadAgg (c2 _ hw1) (Try.isAgg34 _) (Try.sizeOf34 _) rfl) rfl ?_
    refine WQ.call Try.call12 rfl (fun w1 hw1 => (is_ret p q _ _ _ ((hp0.ext hE).ext hw1) ((hq0.ext hE).ext hw1)).mono fun v w' h => ⟨h.1, hw1.trans h.2⟩) rfl ?_
    refine WQ.v (fun w1 hw1 => RV.eqlB Try.underlying4 rfl rfl) rfl ?_
    refine WQ.v (fun w1 hw1 => RV.move rfl) rfl ?_
    refine WQ.know (d := 26) rfl (b' := true) (by simp) ?_
    refine WQ.on rfl ?_
    refine WQ.v (fun w1 hw1 => RV.loadAgg (c1 _ hw1) (Try.isAgg34 _) (Try.sizeOf34 _) rfl) rfl ?_
    refine WQ.on rfl ?_
    refine WQ.call Try.call17 rfl (fun w1 hw1 => (to_ret p.width u1 b1 k1 n1 _ hu1.one hb1.one hk1.one hn1.one).mono fun v w' h => ⟨h.1, hw1.trans h.2⟩) rfl ?_
    refine WQ.on rfl ?_
    refine WQ.v (fun w1 hw1 => RV.loadAgg (c1 _ hw1) (Try.isAgg34 _) (Try.sizeOf34 _) rfl) rfl ?_
    refine WQ.on rfl ?_
    refine WQ.call Try.call17 rfl (fun w1 hw1 => (to_ret p.width u1 b1 k1 n1 _ hu1.one hb1.one hk1.one hn1.one).mono fun v w' h => ⟨h.1, hw1.trans h.2⟩) rfl ?_
    refine WQ.on rfl ?_
    refine WQ.call Try.call16 rfl (fun w1 hw1 => (psame_ret p p _ _ _ ((hp0.ext hE).ext hw1) ((hp0.ext hE).ext hw1)).mono fun v w' h => ⟨h.1, hw1.trans h.2⟩) rfl ?_
    refine WQ.v (fun w1 hw1 => RV.pickT rfl rfl) rfl ?_
    refine WQ.v (fun w1 hw1 => RV.assign rfl) rfl ?_
    refine WQ.nil ?_
    intro w6 hE6
    refine QF.seqNext ?_
    refine WC.ret ?_
    refine QF.done1 rfl rfl (⟨by rw [PSt.same_self], hE.trans hE6⟩)
end Go.Proofs.Ytahdlfnjnjngaaa
