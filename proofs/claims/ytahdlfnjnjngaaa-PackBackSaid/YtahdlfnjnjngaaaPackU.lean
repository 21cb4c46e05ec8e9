/- Chapter 12 by the document: May; PackGets, walked. -/
import Derived.Test.YtahdlfnjnjngaaaPackT
import Derived.Test.YtahdlfnjnjngaaaPackK
namespace Go.Proofs.Ytahdlfnjnjngaaa
open Go.VL Go.Proofs

def mayM (p : PSt) : Bool :=
  decide (1 ≤ p.width) && decide (p.width ≤ 64) && decide ((p.usual.length : Int) ≤ 1000) && ((p.base.length : Int) == p.usual.length) && ((p.check.length : Int) == p.next.length) && decide ((p.check.length : Int) ≤ 65599) &&
  inB 0 65535 p.usual && inB 0 65535 p.base && inB 0 65535 p.next && inB (-1) ((p.usual.length : Int) - 1) p.check
theorem dneg (a b : Int) : (!decide (a < b)) = decide (b ≤ a) := by
  by_cases h : a < b
  · simp [h]
  · simp [h, Int.not_lt.1 h]
theorem mayM_right (p : PSt) : mayM p = rightM p := by
  simp only [mayM, rightM, Bool.not_or, dneg, bne, Bool.not_not, Bool.and_assoc]

theorem may_ret (p : PSt) (pv : Value) (w : World) (hp : PkV w pv p) :
    Ret Try.prog 20 [pv] w fun v w' => v = .bool (rightM p) ∧ Ext w w' := by
  obtain ⟨u1, b1, k1, n1, rfl, hu, hb, hk, hn⟩ := hp
  have hum := hu.len_le
  refine Ret.enter Try.func20 Try.ntmps20 rfl rfl ?_
  refine WC.seq ?_
  refine WC.region ?_
  refine WL.boxO (Rng.start w) 1 (by omega) rfl rfl ?_
  intro x1 w1 O1 hx1 hU1 hR1 hE1
  replace hu := hu.ext hE1
  replace hb := hb.ext hE1
  replace hk := hk.ext hE1
  replace hn := hn.ext hE1
  refine WL.v (RV.assign rfl) rfl ?_
  refine WL.nil ?_
  refine QF.seqNext ?_
  refine WC.seq ?_
  refine WC.region ?_
  refine WL.v (RV.fieldAddr 1 Try.underlying34 rfl rfl (Try.sizeOf25 _) (by decide) rfl) rfl ?_
  refine WL.v (RV.load (by first | exact hx1.cell 1 rfl) (Try.isAgg25 _) rfl) rfl ?_
  refine WL.v (RV.len (by first | exact hu | exact hb | exact hk | exact hn) Try.underlying25 rfl) rfl ?_
  refine WL.v (RV.assign rfl) rfl ?_
  refine WL.nil ?_
  refine QF.seqNext ?_
  refine WC.seq ?_
  refine WC.region ?_
  refine WL.v (RV.fieldAddr 0 Try.underlying34 rfl rfl (Try.sizeOf3 _) (by decide) rfl) rfl ?_
  refine WL.v (RV.load (by first | exact hx1.cell 0 rfl) (Try.isAgg3 _) rfl) rfl ?_
  refine WL.v (RV.geq rfl rfl) rfl ?_
  refine WL.v (RV.move rfl) rfl ?_
  refine WL.andBS (fun w1 => _ = w1) (decide (p.width ≤ 64)) 3 (rfl) rfl rfl rfl rfl rfl ?_ ?_
  · skip
    intro h1
    refine WL.on rfl ?_
    refine WL.v (RV.fieldAddr 0 Try.underlying34 rfl rfl (Try.sizeOf3 _) (by decide) rfl) rfl ?_
    refine WL.on rfl ?_
    refine WL.v (RV.load (by first | exact hx1.cell 0 rfl) (Try.isAgg3 _) rfl) rfl ?_
    refine WL.on rfl ?_
    refine WL.v (RV.leq rfl rfl) rfl ?_
    refine WL.nil ?_
    refine QF.andEnd (tA := 10) 4 (rfl) rfl rfl rfl (fun v hv => (Option.some.inj hv).symm.trans (congrArg Value.bool h1)) rfl
  rintro _ rfl
  refine WL.v (RV.move rfl) rfl ?_
  refine WL.andBS (fun w1 => _ = w1) (decide ((p.usual.length : Int) ≤ 1000)) 2 (rfl) rfl rfl rfl rfl rfl ?_ ?_
  · skip
    intro h2
    refine WL.on rfl ?_
    refine WL.v (RV.move rfl) rfl ?_
    refine WL.on rfl ?_
    refine WL.v (RV.leq rfl rfl) rfl ?_
    refine WL.nil ?_
    refine QF.andEnd (tA := 15) 3 (rfl) rfl rfl rfl (fun v hv => (Option.some.inj hv).symm.trans (congrArg Value.bool h2)) rfl
  rintro _ rfl
  refine WL.v (RV.move rfl) rfl ?_
  refine WL.andBS (fun w1 => _ = w1) ((p.base.length : Int) == p.usual.length) 5 (rfl) rfl rfl rfl rfl rfl ?_ ?_
  · skip
    intro h3
    refine WL.on rfl ?_
    refine WL.v (RV.fieldAddr 2 Try.underlying34 rfl rfl (Try.sizeOf25 _) (by decide) rfl) rfl ?_
    refine WL.on rfl ?_
    refine WL.v (RV.load (by first | exact hx1.cell 2 rfl) (Try.isAgg25 _) rfl) rfl ?_
    refine WL.on rfl ?_
    refine WL.v (RV.len (by first | exact hu | exact hb | exact hk | exact hn) Try.underlying25 rfl) rfl ?_
    refine WL.on rfl ?_
    refine WL.v (RV.move rfl) rfl ?_
    refine WL.on rfl ?_
    refine WL.v (RV.eql rfl rfl) rfl ?_
    refine WL.nil ?_
    refine QF.andEnd (tA := 19) 6 (rfl) rfl rfl rfl (fun v hv => (Option.some.inj hv).symm.trans (congrArg Value.bool h3)) rfl
  rintro _ rfl
  refine WL.v (RV.move rfl) rfl ?_
  refine WL.andBS (fun w1 => _ = w1) ((p.check.length : Int) == p.next.length) 7 (rfl) rfl rfl rfl rfl rfl ?_ ?_
  · skip
    intro h4
    refine WL.on rfl ?_
    refine WL.v (RV.fieldAddr 3 Try.underlying34 rfl rfl (Try.sizeOf25 _) (by decide) rfl) rfl ?_
    refine WL.on rfl ?_
    refine WL.v (RV.load (by first | exact hx1.cell 3 rfl) (Try.isAgg25 _) rfl) rfl ?_
    refine WL.on rfl ?_
    refine WL.v (RV.len (by first | exact hu | exact hb | exact hk | exact hn) Try.underlying25 rfl) rfl ?_
    refine WL.on rfl ?_
    refine WL.v (RV.fieldAddr 4 Try.underlying34 rfl rfl (Try.sizeOf25 _) (by decide) rfl) rfl ?_
    refine WL.on rfl ?_
    refine WL.v (RV.load (by first | exact hx1.cell 4 rfl) (Try.isAgg25 _) rfl) rfl ?_
    refine WL.on rfl ?_
    refine WL.v (RV.len (by first | exact hu | exact hb | exact hk | exact hn) Try.underlying25 rfl) rfl ?_
    refine WL.on rfl ?_
    refine WL.v (RV.eql rfl rfl) rfl ?_
    refine WL.nil ?_
    refine QF.andEnd (tA := 26) 8 (rfl) rfl rfl rfl (fun v hv => (Option.some.inj hv).symm.trans (congrArg Value.bool h4)) rfl
  rintro _ rfl
  refine WL.v (RV.move rfl) rfl ?_
  refine WL.andBS (fun w1 => _ = w1) (decide ((p.check.length : Int) ≤ 65599)) 4 (rfl) rfl rfl rfl rfl rfl ?_ ?_
  · skip
    intro h5
    refine WL.on rfl ?_
    refine WL.v (RV.fieldAddr 3 Try.underlying34 rfl rfl (Try.sizeOf25 _) (by decide) rfl) rfl ?_
    refine WL.on rfl ?_
    refine WL.v (RV.load (by first | exact hx1.cell 3 rfl) (Try.isAgg25 _) rfl) rfl ?_
    refine WL.on rfl ?_
    refine WL.v (RV.len (by first | exact hu | exact hb | exact hk | exact hn) Try.underlying25 rfl) rfl ?_
    refine WL.on rfl ?_
    refine WL.v (RV.leq rfl rfl) rfl ?_
    refine WL.nil ?_
    refine QF.andEnd (tA := 35) 5 (rfl) rfl rfl rfl (fun v hv => (Option.some.inj hv).symm.trans (congrArg Value.bool h5)) rfl
  rintro _ rfl
  refine WL.v (RV.move rfl) rfl ?_
  refine WL.andBS (fun w1 => _ = w1) (inB 0 65535 p.usual) 3 (rfl) rfl rfl rfl rfl rfl ?_ ?_
  · skip
    intro h6
    refine WL.on rfl ?_
    refine WL.v (RV.fieldAddr 1 Try.underlying34 rfl rfl (Try.sizeOf25 _) (by decide) rfl) rfl ?_
    refine WL.on rfl ?_
    refine WL.v (RV.load (by first | exact hx1.cell 1 rfl) (Try.isAgg25 _) rfl) rfl ?_
    refine WL.on rfl ?_
    refine WL.call Try.call31 rfl (in_ret 0 65535 p.usual u1 w1 hu) rfl ?_
    rintro v _ ⟨rfl, rfl⟩
    refine WL.nil ?_
    refine QF.andEnd (tA := 41) 4 (rfl) rfl rfl rfl (fun v hv => (Option.some.inj hv).symm.trans (congrArg Value.bool h6)) rfl
  rintro _ rfl
  refine WL.v (RV.move rfl) rfl ?_
  refine WL.andBS (fun w1 => _ = w1) (inB 0 65535 p.base) 3 (rfl) rfl rfl rfl rfl rfl ?_ ?_
  · skip
    intro h7
    refine WL.on rfl ?_
    refine WL.v (RV.fieldAddr 2 Try.underlying34 rfl rfl (Try.sizeOf25 _) (by decide) rfl) rfl ?_
    refine WL.on rfl ?_
    refine WL.v (RV.load (by first | exact hx1.cell 2 rfl) (Try.isAgg25 _) rfl) rfl ?_
    refine WL.on rfl ?_
    refine WL.call Try.call31 rfl (in_ret 0 65535 p.base b1 w1 hb) rfl ?_
    rintro v _ ⟨rfl, rfl⟩
    refine WL.nil ?_
    refine QF.andEnd (tA := 46) 4 (rfl) rfl rfl rfl (fun v hv => (Option.some.inj hv).symm.trans (congrArg Value.bool h7)) rfl
  rintro _ rfl
  refine WL.v (RV.move rfl) rfl ?_
  refine WL.andBS (fun w1 => _ = w1) (inB 0 65535 p.next) 3 (rfl) rfl rfl rfl rfl rfl ?_ ?_
  · skip
    intro h8
    refine WL.on rfl ?_
    refine WL.v (RV.fieldAddr 4 Try.underlying34 rfl rfl (Try.sizeOf25 _) (by decide) rfl) rfl ?_
    refine WL.on rfl ?_
    refine WL.v (RV.load (by first | exact hx1.cell 4 rfl) (Try.isAgg25 _) rfl) rfl ?_
    refine WL.on rfl ?_
    refine WL.call Try.call31 rfl (in_ret 0 65535 p.next n1 w1 hn) rfl ?_
    rintro v _ ⟨rfl, rfl⟩
    refine WL.nil ?_
    refine QF.andEnd (tA := 51) 4 (rfl) rfl rfl rfl (fun v hv => (Option.some.inj hv).symm.trans (congrArg Value.bool h8)) rfl
  rintro _ rfl
  refine WL.v (RV.move rfl) rfl ?_
  refine WL.andBS (fun w1 => _ = w1) (inB (-1) ((p.usual.length : Int) - 1) p.check) 5 (rfl) rfl rfl rfl rfl rfl ?_ ?_
  · skip
    intro h9
    refine WL.on rfl ?_
    refine WL.v (RV.fieldAddr 3 Try.underlying34 rfl rfl (Try.sizeOf25 _) (by decide) rfl) rfl ?_
    refine WL.on rfl ?_
    refine WL.v (RV.load (by first | exact hx1.cell 3 rfl) (Try.isAgg25 _) rfl) rfl ?_
    refine WL.on rfl ?_
    refine WL.v (RV.move rfl) rfl ?_
    refine WL.on rfl ?_
    refine WL.v (RV.sub rfl rfl (Fit.i64 (by omega))) rfl ?_
    refine WL.on rfl ?_
    refine WL.call Try.call31 rfl (in_ret (-1) ((p.usual.length : Int) - 1) p.check k1 w1 hk) rfl ?_
    rintro v _ ⟨rfl, rfl⟩
    refine WL.nil ?_
    refine QF.andEnd (tA := 56) 6 (rfl) rfl rfl rfl (fun v hv => (Option.some.inj hv).symm.trans (congrArg Value.bool h9)) rfl
  rintro _ rfl
  refine WL.v (RV.assign rfl) rfl ?_
  refine WL.nil ?_
  refine QF.seqNext ?_
  refine WC.ret ?_
  refine QF.done1 rfl rfl (⟨by rw [← mayM_right, mayM], hE1⟩)

theorem getOk_right {p : PSt} {row col : Int} (h : getOk p row col = true) : rightM p = true := by
  cases hr : rightM p with
  | true => rfl
  | false => simp [getOk, hr] at h

theorem packGets_ret (p : PSt) (pv : Value) (row col : Int) (w : World) (hp : PkV w pv p) :
    Ret Try.prog 6 [pv, .int .i64 row, .int .i64 col] w fun v w' => v = .bool true ∧ Ext w w' := by
  have hp0 := hp
  obtain ⟨u1, b1, k1, n1, rfl, hu, hb, hk, hn⟩ := hp
  refine Ret.enter Try.func6 Try.ntmps6 rfl rfl ?_
  refine WC.seq ?_
  refine WC.region ?_
  refine WL.boxO (Rng.start w) 1 (by omega) rfl rfl ?_
  intro x1 w1 O1 hx1 hU1 hR1 hE1
  refine WL.v (RV.assign rfl) rfl ?_
  refine WL.nil ?_
  refine QF.seqNext ?_
  refine WC.seq ?_
  refine WC.seq ?_
  refine WC.region ?_
  refine WL.v (RV.loadAgg hx1.cellsAdd (Try.isAgg34 _) (Try.sizeOf34 _) rfl) rfl ?_
  refine WL.call Try.call15 rfl (huge_ret p _ _ (hp0.ext hE1)) rfl ?_
  rintro v w2 ⟨rfl, hE2⟩
  have hE := hE1.trans hE2
  refine WL.v (RV.move rfl) rfl ?_
  refine WL.orBS (Ext w2) (false) 2 (Ext.refl w2) rfl rfl rfl rfl rfl ?_ ?_
  · skip
    intro h1
    refine WL.on rfl ?_
    refine WL.call Try.call9 rfl (awake_ret _) rfl ?_
    rintro v w3 ⟨rfl, hE3⟩
    refine WL.on rfl ?_
    refine WL.v (RV.not rfl) rfl ?_
    refine WL.nil ?_
    refine QF.andEnd (tA := 16) 3 (hE3) rfl rfl rfl (fun v hv => (Option.some.inj hv).symm.trans (congrArg Value.bool h1)) rfl
  intro w3 hE3
  refine WL.nil ?_
  refine QF.seqNext ?_
  refine WC.cond rfl ?_ ?_
  · intro hg
    refine WC.seq ?_
    refine WC.region ?_
    refine WL.call Try.call9 rfl (awake_ret _) rfl ?_
    rintro v w4 ⟨rfl, hE4⟩
    refine WL.v (RV.assign rfl) rfl ?_
    refine WL.nil ?_
    refine QF.seqNext ?_
    refine WC.ret ?_
    refine QF.thenRet ?_
    refine QF.done1 rfl rfl (⟨rfl, (hE.trans hE3).trans hE4⟩)
  · intro hg
    have hEa := hE2.trans hE3
    have cs : ∀ w', Ext w3 w' → ∀ (j : Nat) u, [Value.int .i64 p.width, u1, b1, k1, n1][j]? = some u → w'.cell? ((⟨x1, 0, none⟩ : Addr).add j) = some u := fun w' e j u h => (hEa.trans e).cell (hx1.cellsAdd j u h)
    have c1 : ∀ w', Ext w3 w' → ∀ j u, (#[.int .i64 p.width, u1, b1, k1, n1] : Array Value)[j]? = some u → w'.cell? ⟨x1, j, none⟩ = some u := fun w' e j u hu => (hEa.trans e).cell (hx1.cell j hu)
    have hE13 := hE1.trans hEa
    refine WC.skip ?_
    refine QF.seqNext ?_
    refine WC.seq ?_
    refine WC.region ?_
    refine WL.v (RV.loadAgg (cs _ (Ext.refl _)) (Try.isAgg34 _) (Try.sizeOf34 _) rfl) rfl ?_
    refine WL.call Try.call17 rfl (to_ret p.width u1 b1 k1 n1 _ hu.one hb.one hk.one hn.one) rfl ?_
    rintro v w4 ⟨rfl, hE4⟩
    refine WL.allocO (Rng.start w4) 1 (by omega) (Try.zeroValue27 _) rfl ?_
    intro x5 w5 O5 hx5 hU5 hR5 hE5
    refine WL.storeAgg (us := #[.int .i64 p.width, u1, b1, k1, n1]) hx5 rfl (Try.sizeOf27 _) (by simp only [List.all_cons, hu.one, hb.one, hk.one, hn.one]; rfl) rfl rfl rfl ?_
    have hx6 := hx5.setRow (us := #[.int .i64 p.width, u1, b1, k1, n1])
    have hE6 : Ext w3 (w5.setRow x5 #[.int .i64 p.width, u1, b1, k1, n1]) := hE4.trans (hU5.trans (Upd.setRow (by decide) hx5.tag rfl)).ext
    generalize w5.setRow x5 #[.int .i64 p.width, u1, b1, k1, n1] = w6 at *
    have cp : ∀ w', Ext w6 w' → ∀ (j : Nat) u, [Value.int .i64 p.width, u1, b1, k1, n1][j]? = some u → w'.cell? ((⟨x5, 0, none⟩ : Addr).add j) = some u := fun w' e j u h => e.cell (hx6.cellsAdd j u h)
    have hP6 := hp0.ext (hE13.trans hE6)
    have hE16 := hE13.trans hE6
    refine WL.nil ?_
    refine QF.seqNext ?_
    refine WC.seq ?_
    refine WC.region ?_
    refine WL.v (RV.loadAgg (cp _ (Ext.refl _)) (Try.isAgg27 _) (Try.sizeOf27 _) rfl) rfl ?_
    refine WL.v (RV.move rfl) rfl ?_
    refine WL.v (RV.move rfl) rfl ?_
    refine WL.call Try.call18 rfl (packGet_ret p _ row col w6 hP6) rfl ?_
    rintro v w7 ⟨rfl, hE7⟩
    generalize hgn : (if getOk p row col = true then getM p row.toNat col.toNat else 0) = gn at *
    refine WL.v (RV.move rfl) rfl ?_
    refine WL.v (RV.extract rfl rfl) rfl ?_
    refine WL.v (RV.extract rfl rfl) rfl ?_
    refine WL.v (RV.assign rfl) rfl ?_
    refine WL.v (RV.assign rfl) rfl ?_
    refine WL.nil ?_
    refine QF.seqNext ?_
    refine WC.seq ?_
    refine WC.region ?_
    refine WL.v (RV.loadAgg (cp _ hE7) (Try.isAgg27 _) (Try.sizeOf27 _) rfl) rfl ?_
    refine WL.call Try.call19 rfl (packRows_ret p _ w7 (hP6.ext hE7)) rfl ?_
    rintro v w8 ⟨rv, rfl, hrv, hE8⟩
    have hE68 := hE7.trans hE8
    have hE38 := hE6.trans hE68
    refine WL.v (RV.move rfl) rfl ?_
    refine WL.v (RV.extract rfl rfl) rfl ?_
    refine WL.v (RV.extract rfl rfl) rfl ?_
    refine WL.v (RV.assign rfl) rfl ?_
    refine WL.v (RV.assign rfl) rfl ?_
    refine WL.nil ?_
    refine QF.seqNext ?_
    refine WC.seq ?_
    refine WC.seq ?_
    refine WC.region ?_
    refine WL.v (RV.loadAgg (cs _ hE38) (Try.isAgg34 _) (Try.sizeOf34 _) rfl) rfl ?_
    refine WL.call Try.call20 rfl (may_ret p _ w8 (hP6.ext hE68)) rfl ?_
    rintro v w9 ⟨rfl, hE9⟩
    have hE69 := hE68.trans hE9
    have hE39 := hE38.trans hE9
    have hE19 := hE16.trans hE69
    refine WL.v (RV.not rfl) rfl ?_
    refine WL.nil ?_
    refine QF.seqNext ?_
    refine WC.cond rfl ?_ ?_
    · intro hr
      replace hr : rightM p = false := by simpa using hr
      have hno : getOk p row col = false := by
        cases h : getOk p row col with
        | false => rfl
        | true => rw [getOk_right h] at hr; cases hr
      rw [hr, if_neg Bool.false_ne_true] at hrv
      rw [hno, if_neg Bool.false_ne_true] at hgn
      subst hgn; subst hrv
      refine WC.seq ?_
      refine WC.region ?_
      refine WL.v (RV.loadAgg (cp _ hE69) (Try.isAgg27 _) (Try.sizeOf27 _) rfl) rfl ?_
      refine WL.call Try.call14 rfl (right_ret p _ w9 (hP6.ext hE69)) rfl ?_
      rintro v w10 ⟨rfl, hE10⟩
      have hnil : Ints w10 (.slice none 0 0) [] := (RowT.nil (fun x => [Value.int .i64 x]) 3 1 (fun _ => 0) w10 1).sl
      refine WL.v (RV.not rfl) rfl ?_
      refine WL.v (RV.move rfl) rfl ?_
      refine WL.know (d := 41) rfl (b' := true) (by rw [hr]; rfl) ?_
      refine WL.on rfl ?_
      refine WL.v (RV.move rfl) rfl ?_
      refine WL.on rfl ?_
      refine WL.v (RV.eql rfl rfl) rfl ?_
      refine WL.v (RV.pickT rfl rfl) rfl ?_
      refine WL.v (RV.move rfl) rfl ?_
      refine WL.know (d := 45) rfl (b' := true) (rfl) ?_
      refine WL.on rfl ?_
      refine WL.v (RV.move rfl) rfl ?_
      refine WL.on rfl ?_
      refine WL.v (RV.not rfl) rfl ?_
      refine WL.v (RV.pickT rfl rfl) rfl ?_
      refine WL.v (RV.move rfl) rfl ?_
      refine WL.know (d := 49) rfl (b' := true) (by rw [hno]; rfl) ?_
      refine WL.on rfl ?_
      refine WL.v (RV.move rfl) rfl ?_
      refine WL.on rfl ?_
      refine WL.v (RV.len (by first | exact hnil) Try.underlying22 rfl) rfl ?_
      refine WL.on rfl ?_
      refine WL.v (RV.eql rfl rfl) rfl ?_
      refine WL.v (RV.pickT rfl rfl) rfl ?_
      refine WL.v (RV.move rfl) rfl ?_
      refine WL.know (d := 54) rfl (b' := true) (rfl) ?_
      refine WL.on rfl ?_
      refine WL.v (RV.move rfl) rfl ?_
      refine WL.on rfl ?_
      refine WL.v (RV.not rfl) rfl ?_
      refine WL.v (RV.pickT rfl rfl) rfl ?_
      refine WL.v (RV.assign rfl) rfl ?_
      refine WL.nil ?_
      refine QF.seqNext ?_
      refine WC.ret ?_
      refine QF.thenRet ?_
      refine QF.done1 rfl rfl (⟨by rw [hr]; rfl, hE19.trans hE10⟩)
    · intro hr
      replace hr : rightM p = true := by simpa using hr
      have ok := okP p hr
      obtain ⟨o1, o2, o3, o4, o5, o6, o7⟩ := ok
      have ok := okP p hr
      obtain ⟨n, hn0⟩ : ∃ n : Nat, p.width = n := Int.eq_ofNat_of_zero_le (by omega)
      have hnt : p.width.toNat = n := by omega
      rw [hr, if_pos rfl] at hrv
      obtain ⟨rvs, hrs, hrl, hri⟩ := hrv.ext hE9
      have hrl2 : (rowsM p).length = p.usual.length := by simp [rowsM]
      rw [hrl2] at hrl
      refine WC.skip ?_
      refine QF.seqNext ?_
      refine WC.seq ?_
      refine WC.seq ?_
      refine WC.region ?_
      refine WL.v (RV.loadAgg (cp _ hE69) (Try.isAgg27 _) (Try.sizeOf27 _) rfl) rfl ?_
      refine WL.call Try.call14 rfl (right_ret p _ w9 (hP6.ext hE69)) rfl ?_
      rintro v w10 ⟨rfl, hE10⟩
      have hE3t := hE39.trans hE10
      have hE1t := hE19.trans hE10
      have hu10 := hu.ext hE1t
      have hrs10 := hrs.ext hE10
      refine WL.v (RV.not rfl) rfl ?_
      refine WL.v (RV.move rfl) rfl ?_
      refine WL.know (d := 61) rfl (b' := false) (by rw [hr]; rfl) ?_
      refine WL.on rfl ?_
      refine WL.v (RV.move rfl) rfl ?_
      refine WL.on rfl ?_
      refine WL.v (RV.not rfl) rfl ?_
      refine WL.v (RV.pickF rfl rfl) rfl ?_
      refine WL.v (RV.move rfl) rfl ?_
      refine WL.know (d := 65) rfl (b' := false) (by rw [hr]; rfl) ?_
      refine WL.on rfl ?_
      refine WL.v (RV.move rfl) rfl ?_
      refine WL.on rfl ?_
      refine WL.v (RV.len (by first | exact hrs10 | exact hu10) Try.underlying22 rfl) rfl ?_
      refine WL.on rfl ?_
      refine WL.v (RV.fieldAddr 1 Try.underlying34 rfl rfl (Try.sizeOf25 _) (by decide) rfl) rfl ?_
      refine WL.on rfl ?_
      refine WL.v (RV.load (by first | exact c1 _ hE3t 1 _ rfl) (Try.isAgg25 _) rfl) rfl ?_
      refine WL.on rfl ?_
      refine WL.v (RV.len (by first | exact hrs10 | exact hu10) Try.underlying25 rfl) rfl ?_
      refine WL.on rfl ?_
      refine WL.v (RV.neq rfl rfl) rfl ?_
      refine WL.v (RV.pickF rfl rfl) rfl ?_
      refine WL.nil ?_
      refine QF.seqNext ?_
      refine WC.condF rfl (by rw [hrl]; simp) ?_
      refine WC.skip ?_
      refine QF.seqNext ?_
      refine WC.seq ?_
      refine WC.seq ?_
      refine WC.region ?_
      refine WL.v (RV.assign rfl) rfl ?_
      refine WL.nil ?_
      refine QF.seqNext ?_
      refine WC.block ?_
      have rowk : ∀ i, i < p.usual.length → ∀ w', Ext w10 w' → Ints w' (nth rvs i) (rowM p i) := fun i hi w' e => by
        have := ((hri i (by omega)).ext hE10).ext e
        rwa [rowsM, nth_map_range _ _ _ hi] at this
      have rowl : ∀ i, (rowM p i).length = n := fun i => by simp [rowM, hnt]
      refine WC.loop (fun x : Nat × World => [(1, .int .i64 row), (2, .int .i64 col), (3, .pointer (some ⟨x1, 0, none⟩)), (8, .int .i64 gn), (9, .bool (getOk p row col)), (10, rv), (12, .int .i64 x.1)]) (fun x : Nat × World => x.2) (fun x : Nat × World => x.1 ≤ p.usual.length ∧ Ext w10 x.2) (fun x : Nat × World => p.usual.length - x.1) (0, w10) (⟨Nat.zero_le _, Ext.refl _⟩) ⟨rfl, rfl, rfl, rfl, rfl, rfl, rfl, trivial⟩ rfl ?_
      rintro ⟨i, w11⟩ ⟨hi, hE11⟩
      dsimp only at hi hE11 ⊢
      have hrs11 := hrs10.ext hE11
      refine WC.seq ?_
      refine WC.seq ?_
      refine WC.region ?_
      refine WL.v (RV.move rfl) rfl ?_
      refine WL.v (RV.move rfl) rfl ?_
      refine WL.v (RV.len (by first | exact hrs11) Try.underlying22 rfl) rfl ?_
      refine WL.v (RV.lss rfl rfl) rfl ?_
      refine WL.nil ?_
      refine QF.seqNext ?_
      refine WC.cond rfl ?_ ?_
      · intro hlt
        replace hlt : i < p.usual.length := by have := of_decide_eq_true hlt; omega
        have hrow := rowk i hlt _ hE11.drew
        have hri11 := hrs11.drew.ld (i := i) (by omega)
        refine WC.skip ?_
        refine QF.seqNext ?_
        refine WC.seq ?_
        refine WC.block ?_
        refine WC.seq ?_
        refine WC.seq ?_
        refine WC.still (by kernel_rfl) (by kernel_rfl) ?_
        refine WS.v (RV.move rfl) rfl ?_
        refine WS.v (RV.move rfl) rfl ?_
        refine WS.v (RV.indexAddr (by first | exact (hrs11).drew | exact (rowk i hlt _ hE11).drew) Try.underlying22 (Try.sizeOf25 _) rfl rfl _ rfl (by omega)) rfl ?_
        refine WS.v (RV.load (by first | exact hri11 | exact c1 _ (hE3t.trans hE11.drew) 0 _ rfl) (Try.isAgg25 _) rfl) rfl ?_
        refine WS.v (RV.len (by first | exact (hrs11).drew | exact (rowk i hlt _ hE11).drew) Try.underlying25 rfl) rfl ?_
        refine WS.v (RV.fieldAddr 0 Try.underlying34 rfl rfl (Try.sizeOf3 _) (by decide) rfl) rfl ?_
        refine WS.v (RV.load (by first | exact hri11 | exact c1 _ (hE3t.trans hE11.drew) 0 _ rfl) (Try.isAgg3 _) rfl) rfl ?_
        refine WS.v (RV.neq rfl rfl) rfl ?_
        refine WS.nil ?_
        refine QF.seqNext ?_
        refine WC.condF rfl (by rw [rowl, hn0]; simp) ?_
        refine WC.skip ?_
        refine QF.seqNext ?_
        refine WC.seq ?_
        refine WC.region ?_
        refine WL.v (RV.assign rfl) rfl ?_
        refine WL.nil ?_
        refine QF.seqNext ?_
        refine WC.block ?_
        refine WC.loop (fun y : Nat × World => [(1, .int .i64 row), (2, .int .i64 col), (3, .pointer (some ⟨x1, 0, none⟩)), (8, .int .i64 gn), (9, .bool (getOk p row col)), (10, rv), (12, .int .i64 i), (13, .int .i64 y.1)]) (fun y : Nat × World => y.2) (fun y : Nat × World => y.1 ≤ n ∧ Ext w10 y.2) (fun y : Nat × World => n - y.1) (0, w11.drew) (⟨Nat.zero_le _, hE11.drew⟩) ⟨rfl, rfl, rfl, rfl, rfl, rfl, rfl, rfl, trivial⟩ rfl ?_
        rintro ⟨c, w12⟩ ⟨hc, hE12⟩
        dsimp only at hc hE12 ⊢
        refine WC.seq ?_
        refine WC.seq ?_
        refine WC.region ?_
        refine WL.v (RV.move rfl) rfl ?_
        refine WL.v (RV.fieldAddr 0 Try.underlying34 rfl rfl (Try.sizeOf3 _) (by decide) rfl) rfl ?_
        refine WL.v (RV.load (by first | exact c1 _ (hE3t.trans hE12) 0 _ rfl) (Try.isAgg3 _) rfl) rfl ?_
        refine WL.v (RV.lss rfl rfl) rfl ?_
        refine WL.nil ?_
        refine QF.seqNext ?_
        refine WC.cond rfl ?_ ?_
        · intro hltc
          replace hltc : c < n := by have := of_decide_eq_true hltc; omega
          have hrs12 := hrs10.ext hE12
          have hrow12 := rowk i hlt _ hE12
          refine WC.skip ?_
          refine QF.seqNext ?_
          refine WC.seq ?_
          refine WC.block ?_
          refine WC.seq ?_
          refine WC.quiet (Ext w12) (by kernel_rfl) (by kernel_rfl) ((Ext.refl w12).drew) ?_
          refine WQ.v (fun w1 hw1 => RV.move rfl) rfl ?_
          refine WQ.v (fun w1 hw1 => RV.move rfl) rfl ?_
          refine WQ.v (fun w1 hw1 => RV.indexAddr (by first | exact hrs12.ext hw1 | exact hrow12.ext hw1) Try.underlying22 (Try.sizeOf25 _) rfl rfl _ rfl (by omega)) rfl ?_
          refine WQ.v (fun w1 hw1 => RV.load (by first | exact (hrs12.ext hw1).ld (i := i) (by omega) | exact (hrow12.ext hw1).ld (i := c) (by rw [rowl]; exact hltc)) (Try.isAgg25 _) rfl) rfl ?_
          refine WQ.v (fun w1 hw1 => RV.move rfl) rfl ?_
          refine WQ.v (fun w1 hw1 => RV.indexAddr (hrow12.ext hw1) Try.underlying25 (Try.sizeOf3 _) rfl rfl c rfl (by rw [rowl]; exact hltc)) rfl ?_
          refine WQ.v (fun w1 hw1 => RV.load (by first | exact (hrs12.ext hw1).ld (i := i) (by omega) | exact (hrow12.ext hw1).ld (i := c) (by rw [rowl]; exact hltc)) (Try.isAgg3 _) rfl) rfl ?_
          refine WQ.v (fun w1 hw1 => RV.loadAgg (cs _ (hE3t.trans (hE12.trans hw1))) (Try.isAgg34 _) (Try.sizeOf34 _) rfl) rfl ?_
          refine WQ.v (fun w1 hw1 => RV.move rfl) rfl ?_
          refine WQ.v (fun w1 hw1 => RV.move rfl) rfl ?_
          refine WQ.call Try.call21 rfl (fun w1 hw1 => (refGet_ret p ok _ i c _ (hp0.ext ((hE1t.trans hE12).trans hw1)) (by omega) (by omega)).mono fun v w' h => ⟨h.1, hw1.trans h.2⟩) rfl ?_
          refine WQ.v (fun w1 hw1 => RV.neq rfl rfl) rfl ?_
          refine WQ.nil ?_
          intro w13 hE13b
          refine QF.seqNext ?_
          refine WC.condF rfl (by rw [rowM, nth_map_int _ _ _ (by omega)]; simp) ?_
          refine WC.skip ?_
          refine QF.blockNormal ?_
          refine QF.seqNext ?_
          refine WC.region ?_
          refine WL.v (RV.move rfl) rfl ?_
          refine WL.v (RV.add rfl rfl (Fit.i64 (by omega))) rfl ?_
          refine WL.v (RV.assign rfl) rfl ?_
          refine WL.nil ?_
          refine QF.next ((c + 1, w13)) (⟨hltc, hE12.trans hE13b⟩) (by dsimp only; omega) ⟨rfl, rfl, rfl, rfl, rfl, rfl, rfl, rfl, trivial⟩ rfl
        · intro hgec
          refine WC.exit ?_
          refine QF.thenExit ?_
          refine QF.thenExit ?_
          refine QF.blockHit ?_
          refine QF.blockNormal ?_
          refine QF.seqNext ?_
          refine WC.region ?_
          refine WL.v (RV.move rfl) rfl ?_
          refine WL.v (RV.add rfl rfl (Fit.i64 (by omega))) rfl ?_
          refine WL.v (RV.assign rfl) rfl ?_
          refine WL.nil ?_
          refine QF.next ((i + 1, w12)) (⟨hlt, hE12⟩) (by dsimp only; omega) ⟨rfl, rfl, rfl, rfl, rfl, rfl, rfl, trivial⟩ rfl
      · intro hgei
        obtain rfl : i = p.usual.length := by have := of_decide_eq_false hgei; omega
        have hu11 := hu10.ext hE11
        have hE3u := hE3t.trans hE11
        refine WC.exit ?_
        refine QF.thenExit ?_
        refine QF.thenExit ?_
        refine QF.blockHit ?_
        refine QF.seqNext ?_
        refine WC.seq ?_
        refine WC.seq ?_
        refine WC.region ?_
        refine WL.v (RV.move rfl) rfl ?_
        refine WL.v (RV.lss rfl rfl) rfl ?_
        refine WL.v (RV.move rfl) rfl ?_
        refine WL.orBS (fun w1 => _ = w1) (decide ((p.usual.length : Int) ≤ row)) 5 (rfl) rfl rfl rfl rfl rfl ?_ ?_
        · skip
          intro g1
          refine WL.on rfl ?_
          refine WL.v (RV.move rfl) rfl ?_
          refine WL.on rfl ?_
          refine WL.v (RV.fieldAddr 1 Try.underlying34 rfl rfl (Try.sizeOf25 _) (by decide) rfl) rfl ?_
          refine WL.on rfl ?_
          refine WL.v (RV.load (by first | exact c1 _ hE3u 1 _ rfl) (Try.isAgg25 _) rfl) rfl ?_
          refine WL.on rfl ?_
          refine WL.v (RV.len (by first | exact hu11) Try.underlying25 rfl) rfl ?_
          refine WL.on rfl ?_
          refine WL.v (RV.geq rfl rfl) rfl ?_
          refine WL.nil ?_
          refine QF.andEnd (tA := 107) 6 (rfl) rfl rfl rfl (fun v hv => (Option.some.inj hv).symm.trans (congrArg Value.bool g1)) rfl
        rintro _ rfl
        refine WL.v (RV.move rfl) rfl ?_
        refine WL.orBS (fun w1 => _ = w1) (decide (col < 0)) 2 (rfl) rfl rfl rfl rfl rfl ?_ ?_
        · skip
          intro g2
          refine WL.on rfl ?_
          refine WL.v (RV.move rfl) rfl ?_
          refine WL.on rfl ?_
          refine WL.v (RV.lss rfl rfl) rfl ?_
          refine WL.nil ?_
          refine QF.andEnd (tA := 114) 3 (rfl) rfl rfl rfl (fun v hv => (Option.some.inj hv).symm.trans (congrArg Value.bool g2)) rfl
        rintro _ rfl
        refine WL.v (RV.move rfl) rfl ?_
        refine WL.orBS (fun w1 => _ = w1) (decide (p.width ≤ col)) 4 (rfl) rfl rfl rfl rfl rfl ?_ ?_
        · skip
          intro g3
          refine WL.on rfl ?_
          refine WL.v (RV.move rfl) rfl ?_
          refine WL.on rfl ?_
          refine WL.v (RV.fieldAddr 0 Try.underlying34 rfl rfl (Try.sizeOf3 _) (by decide) rfl) rfl ?_
          refine WL.on rfl ?_
          refine WL.v (RV.load (by first | exact c1 _ hE3u 0 _ rfl) (Try.isAgg3 _) rfl) rfl ?_
          refine WL.on rfl ?_
          refine WL.v (RV.geq rfl rfl) rfl ?_
          refine WL.nil ?_
          refine QF.andEnd (tA := 118) 5 (rfl) rfl rfl rfl (fun v hv => (Option.some.inj hv).symm.trans (congrArg Value.bool g3)) rfl
        rintro _ rfl
        have hgo : getOk p row col = !(decide (row < 0) || decide ((p.usual.length : Int) ≤ row) || decide (col < 0) || decide (p.width ≤ col)) := by simp only [getOk, hr, Bool.not_true, Bool.false_or]
        refine WL.nil ?_
        refine QF.seqNext ?_
        refine WC.cond rfl ?_ ?_
        · intro hbad
          have hno : getOk p row col = false := by rw [hgo, hbad]; rfl
          rw [hno, if_neg Bool.false_ne_true] at hgn
          subst hgn
          refine WC.seq ?_
          refine WC.region ?_
          refine WL.v (RV.move rfl) rfl ?_
          refine WL.v (RV.eql rfl rfl) rfl ?_
          refine WL.v (RV.move rfl) rfl ?_
          refine WL.know (d := 126) rfl (b' := true) (rfl) ?_
          refine WL.on rfl ?_
          refine WL.v (RV.move rfl) rfl ?_
          refine WL.on rfl ?_
          refine WL.v (RV.not rfl) rfl ?_
          refine WL.v (RV.pickT rfl rfl) rfl ?_
          refine WL.v (RV.assign rfl) rfl ?_
          refine WL.nil ?_
          refine QF.seqNext ?_
          refine WC.ret ?_
          refine QF.thenRet ?_
          refine QF.done1 rfl rfl (⟨by rw [hno]; rfl, hE1t.trans hE11⟩)
        · intro hgood
          have hyes : getOk p row col = true := by rw [hgo, hgood]; rfl
          rw [hyes, if_pos rfl] at hgn
          simp only [Bool.or_eq_false_iff, decide_eq_false_iff_not] at hgood
          obtain ⟨⟨⟨q2, q3⟩, q4⟩, q5⟩ := hgood
          obtain ⟨r, rfl⟩ := Int.eq_ofNat_of_zero_le (by omega : 0 ≤ row)
          obtain ⟨c, rfl⟩ := Int.eq_ofNat_of_zero_le (by omega : 0 ≤ col)
          refine WC.skip ?_
          refine QF.seqNext ?_
          refine WC.seq ?_
          refine WC.region ?_
          refine WL.v (RV.move rfl) rfl ?_
          refine WL.v (RV.move rfl) rfl ?_
          refine WL.know (d := 131) rfl (b' := true) (hyes) ?_
          refine WL.on rfl ?_
          refine WL.v (RV.move rfl) rfl ?_
          refine WL.on rfl ?_
          refine WL.v (RV.loadAgg (cs _ hE3u) (Try.isAgg34 _) (Try.sizeOf34 _) rfl) rfl ?_
          refine WL.on rfl ?_
          refine WL.v (RV.move rfl) rfl ?_
          refine WL.on rfl ?_
          refine WL.v (RV.move rfl) rfl ?_
          refine WL.on rfl ?_
          refine WL.call Try.call21 rfl (refGet_ret p ok _ r c w11 (hp0.ext (hE1t.trans hE11)) (by omega) (by omega)) rfl ?_
          rintro v w14 ⟨rfl, hE14⟩
          refine WL.on rfl ?_
          refine WL.v (RV.eql rfl rfl) rfl ?_
          refine WL.v (RV.pickT rfl rfl) rfl ?_
          refine WL.v (RV.assign rfl) rfl ?_
          refine WL.nil ?_
          refine QF.seqNext ?_
          refine WC.ret ?_
          refine QF.done1 rfl rfl (⟨by rw [← hgn]; simp, (hE1t.trans hE11).trans hE14⟩)
end Go.Proofs.Ytahdlfnjnjngaaa
