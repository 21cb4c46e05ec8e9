/- Package expr, walked: text. -/
import Derived.Test.YtmohcfjopaccdaaGreatDoorExT
namespace Go.Proofs.YtmohcfjopaccdaaGreatDoor
open Go.VL Go.Proofs
set_option maxRecDepth 10000

theorem nth1_3 (a b c : UInt8) : nth [a, b, c] 1 = b := by rw [nth_cons, nth_cons0]
theorem nth2_3 (a b c : UInt8) : nth [a, b, c] 2 = c := by rw [nth_cons, nth_cons, nth_cons0]
theorem kids1_of {l : List Nd} (h : l.length = 1) : l = [nth l 0] := by
  obtain ⟨a, rfl⟩ := List.length_eq_one_iff.1 h
  rw [nth_cons0]
theorem text_all : ∀ (n : Nat), n ≤ 2000 → ∀ (t : Nd), nsz t ≤ n → (∃ wi, fitsM t wi = true) → TextC t
  | 0, _, t, hn, _ => by have := nsz_pos t; omega
  | n + 1, hn2, .mk k c kids, hn, ⟨wi, hfit⟩ => by
    have ih := text_all n (by omega)
    intro x w h
    have hx0 := h.ones
    have hxo := h.one
    obtain ⟨xs, hs, hf, hl, hk⟩ := h.kids
    simp only [Nd.kids] at hl hk
    simp only [nsz] at hn
    simp only [fitsM, Bool.and_eq_true] at hfit
    obtain ⟨hhead, hkids⟩ := hfit
    have hkf : ∀ i, i < kids.length → fitsM (nth kids i) true = true := fun i hi => by
      have h2 := fitsL_any kids
      rw [hkids, Bool.not_eq_true'] at h2
      have := anyN_false.1 h2 i hi
      simpa using this
    have hTk : ∀ i, i < xs.length → TextC (nth kids i) := fun i hi => ih (nth kids i) (by have := nszL_nth kids i (by omega); omega) ⟨true, hkf i (by omega)⟩
    generalize x.2.2 = sv at *
    subst hx0
    simp only [Nd.kind, Nd.cls]
    have hn1 := nameM_le c
    refine Ret.enter Tryz.func72 Tryz.ntmps72 rfl rfl ?_
    refine WC.seq ?_
    refine WC.region ?_
    refine WL.boxO (Rng.start w) 1 (by omega) rfl rfl ?_
    intro xb w1 O1 hx1 hU1 hR1 hE1
    have c0 : w1.cell? ((⟨xb, 0, none⟩ : Addr).add 0) = some (.int .i64 k) := hx1.cell 0 rfl
    have c1 : w1.cell? ((⟨xb, 0, none⟩ : Addr).add 1) = some (.int .i64 c) := hx1.cell 1 rfl
    have c2 : w1.cell? ((⟨xb, 0, none⟩ : Addr).add 2) = some sv := hx1.cell 2 rfl
    have hs1 := hs.ext hE1
    refine WL.v (RV.assign rfl) rfl ?_
    refine WL.nil ?_
    refine QF.seqNext ?_
    refine WC.seq ?_
    refine WC.seq ?_
    refine WC.region ?_
    refine WL.v (RV.fieldAddr 0 Tryz.underlying48 rfl rfl (Tryz.sizeOf3 _) (by decide) rfl) rfl ?_
    refine WL.v (RV.load (by first | exact c0 | exact c1 | exact c2) (Tryz.isAgg3 _) rfl) rfl ?_
    refine WL.nil ?_
    refine QF.seqNext ?_
    refine WC.block ?_
    refine WC.seq ?_
    refine WC.region ?_
    refine WL.v (RV.eql rfl rfl) rfl ?_
    refine WL.v (RV.assign rfl) rfl ?_
    refine WL.nil ?_
    refine QF.seqNext ?_
    have hkk : k = 0 ∨ k = 1 ∨ k = 2 ∨ k = 3 ∨ k = 4 ∨ k = 5 ∨ k = 6 ∨ k = 7 ∨ k = 8 ∨ k = 9 := by
      simp only [headOK, Bool.and_eq_true, Bool.not_eq_true', Bool.or_eq_false_iff, decide_eq_false_iff_not] at hhead
      omega
    rcases hkk with rfl | rfl | rfl | rfl | rfl | rfl | rfl | rfl | rfl | rfl
    · skip
      refine WC.condT rfl (rfl) ?_
      refine WC.seq ?_
      refine WC.region ?_
      refine WL.v (RV.fieldAddr 1 Tryz.underlying48 rfl rfl (Tryz.sizeOf3 _) (by decide) rfl) rfl ?_
      refine WL.v (RV.load (by first | exact c0 | exact c1 | exact c2) (Tryz.isAgg3 _) rfl) rfl ?_
      refine WL.call Tryz.call43 rfl (name1_ret c w1) rfl ?_
      rintro v w2 ⟨rfl, hE2⟩
      refine WL.v (RV.assign rfl) rfl ?_
      refine WL.nil ?_
      refine QF.seqNext ?_
      refine WC.ret ?_
      refine QF.blockRet ?_
      refine QF.thenRet ?_
      refine QF.done1 rfl rfl (⟨rfl, hE1.trans hE2⟩)
    · skip
      refine WC.condF rfl (rfl) ?_
      refine WC.seq ?_
      refine WC.region ?_
      refine WL.v (RV.eql rfl rfl) rfl ?_
      refine WL.v (RV.assign rfl) rfl ?_
      refine WL.nil ?_
      refine QF.seqNext ?_
      refine WC.condT rfl (rfl) ?_
      refine WC.seq ?_
      refine WC.region ?_
      refine WL.v (RV.assign rfl) rfl ?_
      refine WL.nil ?_
      refine QF.seqNext ?_
      refine WC.ret ?_
      refine QF.blockRet ?_
      refine QF.thenRet ?_
      refine QF.done1 rfl rfl (⟨rfl, hE1⟩)
    · skip
      refine WC.condF rfl (rfl) ?_
      refine WC.seq ?_
      refine WC.region ?_
      refine WL.v (RV.eql rfl rfl) rfl ?_
      refine WL.v (RV.assign rfl) rfl ?_
      refine WL.nil ?_
      refine QF.seqNext ?_
      refine WC.condF rfl (rfl) ?_
      refine WC.seq ?_
      refine WC.region ?_
      refine WL.v (RV.eql rfl rfl) rfl ?_
      refine WL.v (RV.assign rfl) rfl ?_
      refine WL.nil ?_
      refine QF.seqNext ?_
      refine WC.condT rfl (rfl) ?_
      refine WC.seq ?_
      refine WC.region ?_
      refine WL.v (RV.fieldAddr 1 Tryz.underlying48 rfl rfl (Tryz.sizeOf3 _) (by decide) rfl) rfl ?_
      refine WL.v (RV.load (by first | exact c0 | exact c1 | exact c2) (Tryz.isAgg3 _) rfl) rfl ?_
      refine WL.call Tryz.call43 rfl (name1_ret c w1) rfl ?_
      rintro v w2 ⟨rfl, hE2⟩
      refine WL.v (RV.addS rfl rfl (by simp; omega)) rfl ?_
      refine WL.v (RV.assign rfl) rfl ?_
      refine WL.nil ?_
      refine QF.seqNext ?_
      refine WC.ret ?_
      refine QF.blockRet ?_
      refine QF.thenRet ?_
      refine QF.done1 rfl rfl (⟨rfl, hE1.trans hE2⟩)
    · skip
      refine WC.condF rfl (rfl) ?_
      refine WC.seq ?_
      refine WC.region ?_
      refine WL.v (RV.eql rfl rfl) rfl ?_
      refine WL.v (RV.assign rfl) rfl ?_
      refine WL.nil ?_
      refine QF.seqNext ?_
      refine WC.condF rfl (rfl) ?_
      refine WC.seq ?_
      refine WC.region ?_
      refine WL.v (RV.eql rfl rfl) rfl ?_
      refine WL.v (RV.assign rfl) rfl ?_
      refine WL.nil ?_
      refine QF.seqNext ?_
      refine WC.condF rfl (rfl) ?_
      refine WC.seq ?_
      refine WC.region ?_
      refine WL.v (RV.eql rfl rfl) rfl ?_
      refine WL.v (RV.assign rfl) rfl ?_
      refine WL.nil ?_
      refine QF.seqNext ?_
      refine WC.condT rfl (rfl) ?_
      refine WC.seq ?_
      refine WC.region ?_
      refine WL.v (RV.assign rfl) rfl ?_
      refine WL.nil ?_
      refine QF.seqNext ?_
      refine WC.ret ?_
      refine QF.blockRet ?_
      refine QF.thenRet ?_
      refine QF.done1 rfl rfl (⟨rfl, hE1⟩)
    · skip
      refine WC.condF rfl (rfl) ?_
      refine WC.seq ?_
      refine WC.region ?_
      refine WL.v (RV.eql rfl rfl) rfl ?_
      refine WL.v (RV.assign rfl) rfl ?_
      refine WL.nil ?_
      refine QF.seqNext ?_
      refine WC.condF rfl (rfl) ?_
      refine WC.seq ?_
      refine WC.region ?_
      refine WL.v (RV.eql rfl rfl) rfl ?_
      refine WL.v (RV.assign rfl) rfl ?_
      refine WL.nil ?_
      refine QF.seqNext ?_
      refine WC.condF rfl (rfl) ?_
      refine WC.seq ?_
      refine WC.region ?_
      refine WL.v (RV.eql rfl rfl) rfl ?_
      refine WL.v (RV.assign rfl) rfl ?_
      refine WL.nil ?_
      refine QF.seqNext ?_
      refine WC.condF rfl (rfl) ?_
      refine WC.seq ?_
      refine WC.region ?_
      refine WL.v (RV.eql rfl rfl) rfl ?_
      refine WL.v (RV.assign rfl) rfl ?_
      refine WL.nil ?_
      refine QF.seqNext ?_
      refine WC.condT rfl (rfl) ?_
      refine WC.seq ?_
      refine WC.region ?_
      refine WL.v (RV.fieldAddr 2 Tryz.underlying48 rfl rfl (Tryz.sizeOf46 _) (by decide) rfl) rfl ?_
      refine WL.v (RV.load (by first | exact c0 | exact c1 | exact c2) (Tryz.isAgg46 _) rfl) rfl ?_
      refine WL.buildSl Tryz.underlying23 (Tryz.sizeOf3 _) (Tryz.zeroValue3 _) encI [4, 5] rfl rfl rfl rfl (by kernel_rfl) (by simp) rfl ?_
      intro kv w2 hkv hE2
      refine WL.call Tryz.call93 rfl (joined_ret kids xs sv 32 [4, 5] kv w2 (hs1.ext hE2) hl (fun i hi => (hk i hi).ext (hE1.trans hE2)) hkv hTk (by omega)) rfl ?_
      rintro v w3 ⟨rfl, hE3⟩
      refine WL.v (RV.assign rfl) rfl ?_
      refine WL.nil ?_
      refine QF.seqNext ?_
      refine WC.ret ?_
      refine QF.blockRet ?_
      refine QF.thenRet ?_
      refine QF.done1 rfl rfl (⟨rfl, (hE1.trans hE2).trans hE3⟩)
    · skip
      refine WC.condF rfl (rfl) ?_
      refine WC.seq ?_
      refine WC.region ?_
      refine WL.v (RV.eql rfl rfl) rfl ?_
      refine WL.v (RV.assign rfl) rfl ?_
      refine WL.nil ?_
      refine QF.seqNext ?_
      refine WC.condF rfl (rfl) ?_
      refine WC.seq ?_
      refine WC.region ?_
      refine WL.v (RV.eql rfl rfl) rfl ?_
      refine WL.v (RV.assign rfl) rfl ?_
      refine WL.nil ?_
      refine QF.seqNext ?_
      refine WC.condF rfl (rfl) ?_
      refine WC.seq ?_
      refine WC.region ?_
      refine WL.v (RV.eql rfl rfl) rfl ?_
      refine WL.v (RV.assign rfl) rfl ?_
      refine WL.nil ?_
      refine QF.seqNext ?_
      refine WC.condF rfl (rfl) ?_
      refine WC.seq ?_
      refine WC.region ?_
      refine WL.v (RV.eql rfl rfl) rfl ?_
      refine WL.v (RV.assign rfl) rfl ?_
      refine WL.nil ?_
      refine QF.seqNext ?_
      refine WC.condF rfl (rfl) ?_
      refine WC.seq ?_
      refine WC.region ?_
      refine WL.v (RV.eql rfl rfl) rfl ?_
      refine WL.v (RV.assign rfl) rfl ?_
      refine WL.nil ?_
      refine QF.seqNext ?_
      refine WC.condT rfl (rfl) ?_
      refine WC.seq ?_
      refine WC.region ?_
      refine WL.v (RV.fieldAddr 2 Tryz.underlying48 rfl rfl (Tryz.sizeOf46 _) (by decide) rfl) rfl ?_
      refine WL.v (RV.load (by first | exact c0 | exact c1 | exact c2) (Tryz.isAgg46 _) rfl) rfl ?_
      refine WL.buildSl Tryz.underlying23 (Tryz.sizeOf3 _) (Tryz.zeroValue3 _) encI [5] rfl rfl rfl rfl (by kernel_rfl) (by simp) rfl ?_
      intro kv w2 hkv hE2
      refine WL.call Tryz.call93 rfl (joined_ret kids xs sv 124 [5] kv w2 (hs1.ext hE2) hl (fun i hi => (hk i hi).ext (hE1.trans hE2)) hkv hTk (by omega)) rfl ?_
      rintro v w3 ⟨rfl, hE3⟩
      refine WL.v (RV.assign rfl) rfl ?_
      refine WL.nil ?_
      refine QF.seqNext ?_
      refine WC.ret ?_
      refine QF.blockRet ?_
      refine QF.thenRet ?_
      refine QF.done1 rfl rfl (⟨rfl, (hE1.trans hE2).trans hE3⟩)
    · skip
      refine WC.condF rfl (rfl) ?_
      refine WC.seq ?_
      refine WC.region ?_
      refine WL.v (RV.eql rfl rfl) rfl ?_
      refine WL.v (RV.assign rfl) rfl ?_
      refine WL.nil ?_
      refine QF.seqNext ?_
      refine WC.condF rfl (rfl) ?_
      refine WC.seq ?_
      refine WC.region ?_
      refine WL.v (RV.eql rfl rfl) rfl ?_
      refine WL.v (RV.assign rfl) rfl ?_
      refine WL.nil ?_
      refine QF.seqNext ?_
      refine WC.condF rfl (rfl) ?_
      refine WC.seq ?_
      refine WC.region ?_
      refine WL.v (RV.eql rfl rfl) rfl ?_
      refine WL.v (RV.assign rfl) rfl ?_
      refine WL.nil ?_
      refine QF.seqNext ?_
      refine WC.condF rfl (rfl) ?_
      refine WC.seq ?_
      refine WC.region ?_
      refine WL.v (RV.eql rfl rfl) rfl ?_
      refine WL.v (RV.assign rfl) rfl ?_
      refine WL.nil ?_
      refine QF.seqNext ?_
      refine WC.condF rfl (rfl) ?_
      refine WC.seq ?_
      refine WC.region ?_
      refine WL.v (RV.eql rfl rfl) rfl ?_
      refine WL.v (RV.assign rfl) rfl ?_
      refine WL.nil ?_
      refine QF.seqNext ?_
      refine WC.condF rfl (rfl) ?_
      refine WC.seq ?_
      refine WC.seq ?_
      refine WC.region ?_
      refine WL.v (RV.eql rfl rfl) rfl ?_
      refine WL.v (RV.assign rfl) rfl ?_
      refine WL.nil ?_
      refine QF.seqNext ?_
      refine WC.condT rfl (rfl) ?_
      refine WC.skip ?_
      refine QF.seqNext ?_
      refine WC.condT rfl (rfl) ?_
      have hlen1 : xs.length = 1 := by simp [headOK, least, most] at hhead; omega
      have hM : textM (.mk 6 c kids) = toldM [4, 5, 6, 7, 8] (nth kids 0) ++ [42] := by
        rw [kids1_of (l := kids) (by omega)]
        simp [textM, toldL, toldM, nth_cons0, nth1_3, nth2_3]
      rw [hM]
      have hkid := hk 0 (by omega)
      have hT0 := ih (nth kids 0) (by have := nszL_nth kids 0 (by omega); omega) ⟨true, hkf 0 (by omega)⟩
      have hkz := nszL_nth kids 0 (by omega)
      have htl := toldM_len [4, 5, 6, 7, 8] (nth kids 0)
      have hd1 : Ext w1 w1.drew := (Ext.refl w1).drew
      refine WC.seq ?_
      refine WC.draw (Ext w1) 16 rfl (by kernel_rfl) ?_
      refine WH.take 0 rfl (by kernel_rfl) (by kernel_rfl) (by kernel_rfl) hd1 (fun w1 hw1 => RV.fieldAddr 2 Tryz.underlying48 rfl rfl (Tryz.sizeOf46 _) (by decide) rfl) rfl ?_
      refine WH.take 1 rfl (by kernel_rfl) (by kernel_rfl) (by kernel_rfl) hd1 (fun w1 hw1 => RV.load (by first | exact hw1.cell c0 | exact hw1.cell c2) (Tryz.isAgg46 _) rfl) rfl ?_
      refine WH.take 2 rfl (by kernel_rfl) (by kernel_rfl) (by kernel_rfl) hd1 (fun w1 hw1 => RV.indexAddr (hs1.ext hw1) Tryz.underlying46 (Tryz.sizeOf48 _) rfl rfl 0 rfl (by omega)) rfl ?_
      refine WH.take 3 rfl (by kernel_rfl) (by kernel_rfl) (by kernel_rfl) hd1 (fun w1 hw1 => RV.loadAgg (us := encN (nth xs 0)) (fun j u hu => (hs1.ext hw1).cell (by omega) hu) (Tryz.isAgg48 _) (Tryz.sizeOf48 _) rfl) rfl ?_
      refine WH.take 6 rfl (by kernel_rfl) (by kernel_rfl) (by kernel_rfl) hd1 (fun w1 hw1 => RV.fieldAddr 0 Tryz.underlying48 rfl rfl (Tryz.sizeOf3 _) (by decide) rfl) rfl ?_
      refine WH.take 7 rfl (by kernel_rfl) (by kernel_rfl) (by kernel_rfl) hd1 (fun w1 hw1 => RV.load (by first | exact hw1.cell c0 | exact hw1.cell c2) (Tryz.isAgg3 _) rfl) rfl ?_
      refine WH.take 8 rfl (by kernel_rfl) (by kernel_rfl) (by kernel_rfl) hd1 (fun w1 hw1 => RV.sub rfl rfl (Fit.i64 (by omega))) rfl ?_
      refine WH.take 9 rfl (by kernel_rfl) (by kernel_rfl) (by kernel_rfl) hd1 (fun w1 hw1 => RV.fieldAddr 0 Tryz.underlying48 rfl rfl (Tryz.sizeOf3 _) (by decide) rfl) rfl ?_
      refine WH.take 10 rfl (by kernel_rfl) (by kernel_rfl) (by kernel_rfl) hd1 (fun w1 hw1 => RV.load (by first | exact hw1.cell c0 | exact hw1.cell c2) (Tryz.isAgg3 _) rfl) rfl ?_
      refine WH.take 11 rfl (by kernel_rfl) (by kernel_rfl) (by kernel_rfl) hd1 (fun w1 hw1 => RV.sub rfl rfl (Fit.i64 (by omega))) rfl ?_
      refine WH.take 12 rfl (by kernel_rfl) (by kernel_rfl) (by kernel_rfl) hd1 (fun w1 hw1 => RV.add rfl rfl (Fit.i64 (by omega))) rfl ?_
      refine WH.take 13 rfl (by kernel_rfl) (by kernel_rfl) (by kernel_rfl) hd1 (fun w1 hw1 => RV.sliceS Tryz.underlying9 rfl rfl rfl 0 (0 + 1) rfl rfl (by decide) (by decide)) rfl ?_
      generalize w1.drew = wD at *
      refine WH.one 4 (by kernel_rfl) rfl ?_
      refine WL.buildSl Tryz.underlying23 (Tryz.sizeOf3 _) (Tryz.zeroValue3 _) encI [4, 5, 6, 7, 8] rfl rfl rfl rfl (by kernel_rfl) (by simp) rfl ?_
      intro kv w3 hkv hE3
      have hE13 := hd1.trans hE3
      refine WL.nil ?_
      refine QF.after hE13 ?_
      refine WH.one 5 (by kernel_rfl) rfl ?_
      refine WL.call Tryz.call94 rfl (told_ret (nth kids 0) [4, 5, 6, 7, 8] kv (nth xs 0) w3 (hkid.ext (hE1.trans hE13)) hkv hT0 (by omega)) rfl ?_
      rintro v w4 ⟨rfl, hE4⟩
      have hE14 := hE13.trans hE4
      refine WL.nil ?_
      refine QF.after hE14 ?_
      refine WH.take 14 rfl (by kernel_rfl) (by kernel_rfl) (by kernel_rfl) hE14 (fun w1 hw1 => RV.addS rfl rfl (by simp; omega)) rfl ?_
      refine WH.one 15 (by kernel_rfl) rfl ?_
      refine WL.v (RV.assign rfl) rfl ?_
      refine WL.nil ?_
      refine QF.after hE14 ?_
      refine WH.done (by kernel_rfl) ?_
      refine QF.seqNext ?_
      refine WC.ret ?_
      refine QF.blockRet ?_
      refine QF.thenRet ?_
      refine QF.done1 rfl rfl (⟨rfl, hE1.trans hE14⟩)
    · skip
      refine WC.condF rfl (rfl) ?_
      refine WC.seq ?_
      refine WC.region ?_
      refine WL.v (RV.eql rfl rfl) rfl ?_
      refine WL.v (RV.assign rfl) rfl ?_
      refine WL.nil ?_
      refine QF.seqNext ?_
      refine WC.condF rfl (rfl) ?_
      refine WC.seq ?_
      refine WC.region ?_
      refine WL.v (RV.eql rfl rfl) rfl ?_
      refine WL.v (RV.assign rfl) rfl ?_
      refine WL.nil ?_
      refine QF.seqNext ?_
      refine WC.condF rfl (rfl) ?_
      refine WC.seq ?_
      refine WC.region ?_
      refine WL.v (RV.eql rfl rfl) rfl ?_
      refine WL.v (RV.assign rfl) rfl ?_
      refine WL.nil ?_
      refine QF.seqNext ?_
      refine WC.condF rfl (rfl) ?_
      refine WC.seq ?_
      refine WC.region ?_
      refine WL.v (RV.eql rfl rfl) rfl ?_
      refine WL.v (RV.assign rfl) rfl ?_
      refine WL.nil ?_
      refine QF.seqNext ?_
      refine WC.condF rfl (rfl) ?_
      refine WC.seq ?_
      refine WC.region ?_
      refine WL.v (RV.eql rfl rfl) rfl ?_
      refine WL.v (RV.assign rfl) rfl ?_
      refine WL.nil ?_
      refine QF.seqNext ?_
      refine WC.condF rfl (rfl) ?_
      refine WC.seq ?_
      refine WC.seq ?_
      refine WC.region ?_
      refine WL.v (RV.eql rfl rfl) rfl ?_
      refine WL.v (RV.assign rfl) rfl ?_
      refine WL.nil ?_
      refine QF.seqNext ?_
      refine WC.condF rfl (rfl) ?_
      refine WC.seq ?_
      refine WC.region ?_
      refine WL.v (RV.eql rfl rfl) rfl ?_
      refine WL.v (RV.assign rfl) rfl ?_
      refine WL.nil ?_
      refine QF.seqNext ?_
      refine WC.condT rfl (rfl) ?_
      refine WC.skip ?_
      refine QF.seqNext ?_
      refine WC.condT rfl (rfl) ?_
      have hlen1 : xs.length = 1 := by simp [headOK, least, most] at hhead; omega
      have hM : textM (.mk 7 c kids) = toldM [4, 5, 6, 7, 8] (nth kids 0) ++ [43] := by
        rw [kids1_of (l := kids) (by omega)]
        simp [textM, toldL, toldM, nth_cons0, nth1_3, nth2_3]
      rw [hM]
      have hkid := hk 0 (by omega)
      have hT0 := ih (nth kids 0) (by have := nszL_nth kids 0 (by omega); omega) ⟨true, hkf 0 (by omega)⟩
      have hkz := nszL_nth kids 0 (by omega)
      have htl := toldM_len [4, 5, 6, 7, 8] (nth kids 0)
      have hd1 : Ext w1 w1.drew := (Ext.refl w1).drew
      refine WC.seq ?_
      refine WC.draw (Ext w1) 16 rfl (by kernel_rfl) ?_
      refine WH.take 0 rfl (by kernel_rfl) (by kernel_rfl) (by kernel_rfl) hd1 (fun w1 hw1 => RV.fieldAddr 2 Tryz.underlying48 rfl rfl (Tryz.sizeOf46 _) (by decide) rfl) rfl ?_
      refine WH.take 1 rfl (by kernel_rfl) (by kernel_rfl) (by kernel_rfl) hd1 (fun w1 hw1 => RV.load (by first | exact hw1.cell c0 | exact hw1.cell c2) (Tryz.isAgg46 _) rfl) rfl ?_
      refine WH.take 2 rfl (by kernel_rfl) (by kernel_rfl) (by kernel_rfl) hd1 (fun w1 hw1 => RV.indexAddr (hs1.ext hw1) Tryz.underlying46 (Tryz.sizeOf48 _) rfl rfl 0 rfl (by omega)) rfl ?_
      refine WH.take 3 rfl (by kernel_rfl) (by kernel_rfl) (by kernel_rfl) hd1 (fun w1 hw1 => RV.loadAgg (us := encN (nth xs 0)) (fun j u hu => (hs1.ext hw1).cell (by omega) hu) (Tryz.isAgg48 _) (Tryz.sizeOf48 _) rfl) rfl ?_
      refine WH.take 6 rfl (by kernel_rfl) (by kernel_rfl) (by kernel_rfl) hd1 (fun w1 hw1 => RV.fieldAddr 0 Tryz.underlying48 rfl rfl (Tryz.sizeOf3 _) (by decide) rfl) rfl ?_
      refine WH.take 7 rfl (by kernel_rfl) (by kernel_rfl) (by kernel_rfl) hd1 (fun w1 hw1 => RV.load (by first | exact hw1.cell c0 | exact hw1.cell c2) (Tryz.isAgg3 _) rfl) rfl ?_
      refine WH.take 8 rfl (by kernel_rfl) (by kernel_rfl) (by kernel_rfl) hd1 (fun w1 hw1 => RV.sub rfl rfl (Fit.i64 (by omega))) rfl ?_
      refine WH.take 9 rfl (by kernel_rfl) (by kernel_rfl) (by kernel_rfl) hd1 (fun w1 hw1 => RV.fieldAddr 0 Tryz.underlying48 rfl rfl (Tryz.sizeOf3 _) (by decide) rfl) rfl ?_
      refine WH.take 10 rfl (by kernel_rfl) (by kernel_rfl) (by kernel_rfl) hd1 (fun w1 hw1 => RV.load (by first | exact hw1.cell c0 | exact hw1.cell c2) (Tryz.isAgg3 _) rfl) rfl ?_
      refine WH.take 11 rfl (by kernel_rfl) (by kernel_rfl) (by kernel_rfl) hd1 (fun w1 hw1 => RV.sub rfl rfl (Fit.i64 (by omega))) rfl ?_
      refine WH.take 12 rfl (by kernel_rfl) (by kernel_rfl) (by kernel_rfl) hd1 (fun w1 hw1 => RV.add rfl rfl (Fit.i64 (by omega))) rfl ?_
      refine WH.take 13 rfl (by kernel_rfl) (by kernel_rfl) (by kernel_rfl) hd1 (fun w1 hw1 => RV.sliceS Tryz.underlying9 rfl rfl rfl 1 (1 + 1) rfl rfl (by decide) (by decide)) rfl ?_
      generalize w1.drew = wD at *
      refine WH.one 4 (by kernel_rfl) rfl ?_
      refine WL.buildSl Tryz.underlying23 (Tryz.sizeOf3 _) (Tryz.zeroValue3 _) encI [4, 5, 6, 7, 8] rfl rfl rfl rfl (by kernel_rfl) (by simp) rfl ?_
      intro kv w3 hkv hE3
      have hE13 := hd1.trans hE3
      refine WL.nil ?_
      refine QF.after hE13 ?_
      refine WH.one 5 (by kernel_rfl) rfl ?_
      refine WL.call Tryz.call94 rfl (told_ret (nth kids 0) [4, 5, 6, 7, 8] kv (nth xs 0) w3 (hkid.ext (hE1.trans hE13)) hkv hT0 (by omega)) rfl ?_
      rintro v w4 ⟨rfl, hE4⟩
      have hE14 := hE13.trans hE4
      refine WL.nil ?_
      refine QF.after hE14 ?_
      refine WH.take 14 rfl (by kernel_rfl) (by kernel_rfl) (by kernel_rfl) hE14 (fun w1 hw1 => RV.addS rfl rfl (by simp; omega)) rfl ?_
      refine WH.one 15 (by kernel_rfl) rfl ?_
      refine WL.v (RV.assign rfl) rfl ?_
      refine WL.nil ?_
      refine QF.after hE14 ?_
      refine WH.done (by kernel_rfl) ?_
      refine QF.seqNext ?_
      refine WC.ret ?_
      refine QF.blockRet ?_
      refine QF.thenRet ?_
      refine QF.done1 rfl rfl (⟨rfl, hE1.trans hE14⟩)
    · skip
      refine WC.condF rfl (rfl) ?_
      refine WC.seq ?_
      refine WC.region ?_
      refine WL.v (RV.eql rfl rfl) rfl ?_
      refine WL.v (RV.assign rfl) rfl ?_
      refine WL.nil ?_
      refine QF.seqNext ?_
      refine WC.condF rfl (rfl) ?_
      refine WC.seq ?_
      refine WC.region ?_
      refine WL.v (RV.eql rfl rfl) rfl ?_
      refine WL.v (RV.assign rfl) rfl ?_
      refine WL.nil ?_
      refine QF.seqNext ?_
      refine WC.condF rfl (rfl) ?_
      refine WC.seq ?_
      refine WC.region ?_
      refine WL.v (RV.eql rfl rfl) rfl ?_
      refine WL.v (RV.assign rfl) rfl ?_
      refine WL.nil ?_
      refine QF.seqNext ?_
      refine WC.condF rfl (rfl) ?_
      refine WC.seq ?_
      refine WC.region ?_
      refine WL.v (RV.eql rfl rfl) rfl ?_
      refine WL.v (RV.assign rfl) rfl ?_
      refine WL.nil ?_
      refine QF.seqNext ?_
      refine WC.condF rfl (rfl) ?_
      refine WC.seq ?_
      refine WC.region ?_
      refine WL.v (RV.eql rfl rfl) rfl ?_
      refine WL.v (RV.assign rfl) rfl ?_
      refine WL.nil ?_
      refine QF.seqNext ?_
      refine WC.condF rfl (rfl) ?_
      refine WC.seq ?_
      refine WC.seq ?_
      refine WC.region ?_
      refine WL.v (RV.eql rfl rfl) rfl ?_
      refine WL.v (RV.assign rfl) rfl ?_
      refine WL.nil ?_
      refine QF.seqNext ?_
      refine WC.condF rfl (rfl) ?_
      refine WC.seq ?_
      refine WC.region ?_
      refine WL.v (RV.eql rfl rfl) rfl ?_
      refine WL.v (RV.assign rfl) rfl ?_
      refine WL.nil ?_
      refine QF.seqNext ?_
      refine WC.condF rfl (rfl) ?_
      refine WC.region ?_
      refine WL.v (RV.eql rfl rfl) rfl ?_
      refine WL.v (RV.assign rfl) rfl ?_
      refine WL.nil ?_
      refine QF.seqNext ?_
      refine WC.condT rfl (rfl) ?_
      have hlen1 : xs.length = 1 := by simp [headOK, least, most] at hhead; omega
      have hM : textM (.mk 8 c kids) = toldM [4, 5, 6, 7, 8] (nth kids 0) ++ [63] := by
        rw [kids1_of (l := kids) (by omega)]
        simp [textM, toldL, toldM, nth_cons0, nth1_3, nth2_3]
      rw [hM]
      have hkid := hk 0 (by omega)
      have hT0 := ih (nth kids 0) (by have := nszL_nth kids 0 (by omega); omega) ⟨true, hkf 0 (by omega)⟩
      have hkz := nszL_nth kids 0 (by omega)
      have htl := toldM_len [4, 5, 6, 7, 8] (nth kids 0)
      have hd1 : Ext w1 w1.drew := (Ext.refl w1).drew
      refine WC.seq ?_
      refine WC.draw (Ext w1) 16 rfl (by kernel_rfl) ?_
      refine WH.take 0 rfl (by kernel_rfl) (by kernel_rfl) (by kernel_rfl) hd1 (fun w1 hw1 => RV.fieldAddr 2 Tryz.underlying48 rfl rfl (Tryz.sizeOf46 _) (by decide) rfl) rfl ?_
      refine WH.take 1 rfl (by kernel_rfl) (by kernel_rfl) (by kernel_rfl) hd1 (fun w1 hw1 => RV.load (by first | exact hw1.cell c0 | exact hw1.cell c2) (Tryz.isAgg46 _) rfl) rfl ?_
      refine WH.take 2 rfl (by kernel_rfl) (by kernel_rfl) (by kernel_rfl) hd1 (fun w1 hw1 => RV.indexAddr (hs1.ext hw1) Tryz.underlying46 (Tryz.sizeOf48 _) rfl rfl 0 rfl (by omega)) rfl ?_
      refine WH.take 3 rfl (by kernel_rfl) (by kernel_rfl) (by kernel_rfl) hd1 (fun w1 hw1 => RV.loadAgg (us := encN (nth xs 0)) (fun j u hu => (hs1.ext hw1).cell (by omega) hu) (Tryz.isAgg48 _) (Tryz.sizeOf48 _) rfl) rfl ?_
      refine WH.take 6 rfl (by kernel_rfl) (by kernel_rfl) (by kernel_rfl) hd1 (fun w1 hw1 => RV.fieldAddr 0 Tryz.underlying48 rfl rfl (Tryz.sizeOf3 _) (by decide) rfl) rfl ?_
      refine WH.take 7 rfl (by kernel_rfl) (by kernel_rfl) (by kernel_rfl) hd1 (fun w1 hw1 => RV.load (by first | exact hw1.cell c0 | exact hw1.cell c2) (Tryz.isAgg3 _) rfl) rfl ?_
      refine WH.take 8 rfl (by kernel_rfl) (by kernel_rfl) (by kernel_rfl) hd1 (fun w1 hw1 => RV.sub rfl rfl (Fit.i64 (by omega))) rfl ?_
      refine WH.take 9 rfl (by kernel_rfl) (by kernel_rfl) (by kernel_rfl) hd1 (fun w1 hw1 => RV.fieldAddr 0 Tryz.underlying48 rfl rfl (Tryz.sizeOf3 _) (by decide) rfl) rfl ?_
      refine WH.take 10 rfl (by kernel_rfl) (by kernel_rfl) (by kernel_rfl) hd1 (fun w1 hw1 => RV.load (by first | exact hw1.cell c0 | exact hw1.cell c2) (Tryz.isAgg3 _) rfl) rfl ?_
      refine WH.take 11 rfl (by kernel_rfl) (by kernel_rfl) (by kernel_rfl) hd1 (fun w1 hw1 => RV.sub rfl rfl (Fit.i64 (by omega))) rfl ?_
      refine WH.take 12 rfl (by kernel_rfl) (by kernel_rfl) (by kernel_rfl) hd1 (fun w1 hw1 => RV.add rfl rfl (Fit.i64 (by omega))) rfl ?_
      refine WH.take 13 rfl (by kernel_rfl) (by kernel_rfl) (by kernel_rfl) hd1 (fun w1 hw1 => RV.sliceS Tryz.underlying9 rfl rfl rfl 2 (2 + 1) rfl rfl (by decide) (by decide)) rfl ?_
      generalize w1.drew = wD at *
      refine WH.one 4 (by kernel_rfl) rfl ?_
      refine WL.buildSl Tryz.underlying23 (Tryz.sizeOf3 _) (Tryz.zeroValue3 _) encI [4, 5, 6, 7, 8] rfl rfl rfl rfl (by kernel_rfl) (by simp) rfl ?_
      intro kv w3 hkv hE3
      have hE13 := hd1.trans hE3
      refine WL.nil ?_
      refine QF.after hE13 ?_
      refine WH.one 5 (by kernel_rfl) rfl ?_
      refine WL.call Tryz.call94 rfl (told_ret (nth kids 0) [4, 5, 6, 7, 8] kv (nth xs 0) w3 (hkid.ext (hE1.trans hE13)) hkv hT0 (by omega)) rfl ?_
      rintro v w4 ⟨rfl, hE4⟩
      have hE14 := hE13.trans hE4
      refine WL.nil ?_
      refine QF.after hE14 ?_
      refine WH.take 14 rfl (by kernel_rfl) (by kernel_rfl) (by kernel_rfl) hE14 (fun w1 hw1 => RV.addS rfl rfl (by simp; omega)) rfl ?_
      refine WH.one 15 (by kernel_rfl) rfl ?_
      refine WL.v (RV.assign rfl) rfl ?_
      refine WL.nil ?_
      refine QF.after hE14 ?_
      refine WH.done (by kernel_rfl) ?_
      refine QF.seqNext ?_
      refine WC.ret ?_
      refine QF.blockRet ?_
      refine QF.thenRet ?_
      refine QF.done1 rfl rfl (⟨rfl, hE1.trans hE14⟩)
    · skip
      refine WC.condF rfl (rfl) ?_
      refine WC.seq ?_
      refine WC.region ?_
      refine WL.v (RV.eql rfl rfl) rfl ?_
      refine WL.v (RV.assign rfl) rfl ?_
      refine WL.nil ?_
      refine QF.seqNext ?_
      refine WC.condF rfl (rfl) ?_
      refine WC.seq ?_
      refine WC.region ?_
      refine WL.v (RV.eql rfl rfl) rfl ?_
      refine WL.v (RV.assign rfl) rfl ?_
      refine WL.nil ?_
      refine QF.seqNext ?_
      refine WC.condF rfl (rfl) ?_
      refine WC.seq ?_
      refine WC.region ?_
      refine WL.v (RV.eql rfl rfl) rfl ?_
      refine WL.v (RV.assign rfl) rfl ?_
      refine WL.nil ?_
      refine QF.seqNext ?_
      refine WC.condF rfl (rfl) ?_
      refine WC.seq ?_
      refine WC.region ?_
      refine WL.v (RV.eql rfl rfl) rfl ?_
      refine WL.v (RV.assign rfl) rfl ?_
      refine WL.nil ?_
      refine QF.seqNext ?_
      refine WC.condF rfl (rfl) ?_
      refine WC.seq ?_
      refine WC.region ?_
      refine WL.v (RV.eql rfl rfl) rfl ?_
      refine WL.v (RV.assign rfl) rfl ?_
      refine WL.nil ?_
      refine QF.seqNext ?_
      refine WC.condF rfl (rfl) ?_
      refine WC.seq ?_
      refine WC.seq ?_
      refine WC.region ?_
      refine WL.v (RV.eql rfl rfl) rfl ?_
      refine WL.v (RV.assign rfl) rfl ?_
      refine WL.nil ?_
      refine QF.seqNext ?_
      refine WC.condF rfl (rfl) ?_
      refine WC.seq ?_
      refine WC.region ?_
      refine WL.v (RV.eql rfl rfl) rfl ?_
      refine WL.v (RV.assign rfl) rfl ?_
      refine WL.nil ?_
      refine QF.seqNext ?_
      refine WC.condF rfl (rfl) ?_
      refine WC.region ?_
      refine WL.v (RV.eql rfl rfl) rfl ?_
      refine WL.v (RV.assign rfl) rfl ?_
      refine WL.nil ?_
      refine QF.seqNext ?_
      refine WC.condF rfl (rfl) ?_
      refine WC.skip ?_
      refine QF.blockNormal ?_
      refine QF.seqNext ?_
      refine WC.seq ?_
      refine WC.region ?_
      refine WL.v (RV.assign rfl) rfl ?_
      refine WL.nil ?_
      refine QF.seqNext ?_
      refine WC.ret ?_
      refine QF.done1 rfl rfl (⟨rfl, hE1⟩)
theorem text_right (t : Nd) (h : rightM t = true) : TextC t := by
  simp only [rightM, Bool.and_eq_true, decide_eq_true_eq] at h
  exact text_all (nsz t) h.1 t (Nat.le_refl _) ⟨false, h.2⟩
theorem printM_len (t : Nd) : (printM t).length ≤ 100000 := by
  unfold printM
  split
  · rename_i h
    simp only [rightM, Bool.and_eq_true, decide_eq_true_eq] at h
    have := textM_len t
    omega
  · simp
end Go.Proofs.YtmohcfjopaccdaaGreatDoor
