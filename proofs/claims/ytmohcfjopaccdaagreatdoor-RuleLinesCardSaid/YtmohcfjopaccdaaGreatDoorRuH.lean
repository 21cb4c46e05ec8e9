/- Package rule, walked: a rule's text, Print; the law's awake. -/
import Derived.Test.YtmohcfjopaccdaaGreatDoorRuG
namespace Go.Proofs.YtmohcfjopaccdaaGreatDoor
open Go.VL Go.Proofs
set_option maxRecDepth 10000

theorem trimM_le (l : List UInt8) : (trimM l).length ≤ l.length := Nat.le_trans (skipB_le _) (trimRB_le l)
theorem rtext_ret (t : R3) (x : X3) (w : World) (h : Rt (fun _ => 0) w t x) (hT1 : rightM t.1 = true → TextC t.1) (hT2 : rightM t.2.1 = true → TextC t.2.1) (hl1 : (printM t.1).length ≤ 100000) (hl2 : (printM t.2.1).length ≤ 100000) :
    Ret Tryz.prog 23 [nr x] w fun v w' => v = .string (bs (ruleTextM t)) ∧ Ext w w' := by
  have hx1o := h.1.one
  have hx2o := h.2.1.one
  have hone := encR_ones (b := x.2.2) hx1o hx2o
  refine Ret.enter Tryz.func23 Tryz.ntmps23 rfl rfl ?_
  refine WC.seq ?_
  refine WC.region ?_
  refine WL.boxO (Rng.start w) 1 (by omega) rfl rfl ?_
  intro xb w1 O1 hx1 hU1 hR1 hE1
  obtain ⟨lc, rc, bc, _⟩ := rt_cells hx1
  have hb6 := bc w1 (Ext.refl _)
  rw [h.2.2] at hb6
  refine WL.v (RV.assign rfl) rfl ?_
  refine WL.nil ?_
  refine QF.seqNext ?_
  refine WC.seq ?_
  refine WC.region ?_
  refine WL.v (RV.sliceShi Tryz.underlying9 rfl rfl 1 rfl (by decide)) rfl ?_
  refine WL.v (RV.assign rfl) rfl ?_
  refine WL.nil ?_
  refine QF.seqNext ?_
  refine WC.seq ?_
  refine WC.seq ?_
  refine WC.region ?_
  refine WL.v (RV.fieldAddr 6 Tryz.underlying50 rfl rfl (Tryz.sizeOf4 _) (by decide) rfl) rfl ?_
  refine WL.v (RV.load (by first | exact hb6) (Tryz.isAgg4 _) rfl) rfl ?_
  refine WL.nil ?_
  refine QF.seqNext ?_
  cases hb : t.2.2 with
  | true =>
    refine WC.condT rfl (rfl) ?_
    refine WC.region ?_
    refine WL.v (RV.sliceSlo Tryz.underlying9 rfl rfl 1 rfl (by decide)) rfl ?_
    refine WL.v (RV.assign rfl) rfl ?_
    refine WL.nil ?_
    refine QF.seqNext ?_
    refine WC.seq ?_
    refine WC.quiet (Ext w1) (by kernel_rfl) (by kernel_rfl) ((Ext.refl w1).drew) ?_
    refine WQ.v (fun w1 hw1 => RV.fieldAddr 0 Tryz.underlying50 rfl rfl (Tryz.sizeOf48 _) (by decide) rfl) rfl ?_
    refine WQ.v (fun w1 hw1 => RV.loadAgg (us := encN x.1) (lc _ hw1) (Tryz.isAgg48 _) (Tryz.sizeOf48 _) rfl) rfl ?_
    refine WQ.call Tryz.call45 rfl (fun w1 hw1 => (eprint_ret t.1 x.1 _ (h.1.ext (hE1.trans hw1)) hT1).mono fun v w' h => ⟨h.1, hw1.trans h.2⟩) rfl ?_
    refine WQ.v (fun w1 hw1 => RV.addS rfl rfl (by simp; omega)) rfl ?_
    refine WQ.v (fun w1 hw1 => RV.move rfl) rfl ?_
    refine WQ.v (fun w1 hw1 => RV.addS rfl rfl (by simp; omega)) rfl ?_
    refine WQ.v (fun w1 hw1 => RV.addS rfl rfl (by simp; omega)) rfl ?_
    refine WQ.v (fun w1 hw1 => RV.fieldAddr 3 Tryz.underlying50 rfl rfl (Tryz.sizeOf48 _) (by decide) rfl) rfl ?_
    refine WQ.v (fun w1 hw1 => RV.loadAgg (us := encN x.2.1) (rc _ hw1) (Tryz.isAgg48 _) (Tryz.sizeOf48 _) rfl) rfl ?_
    refine WQ.call Tryz.call45 rfl (fun w1 hw1 => (eprint_ret t.2.1 x.2.1 _ (h.2.1.ext (hE1.trans hw1)) hT2).mono fun v w' h => ⟨h.1, hw1.trans h.2⟩) rfl ?_
    refine WQ.v (fun w1 hw1 => RV.addS rfl rfl (by simp; omega)) rfl ?_
    refine WQ.call Tryz.call44 rfl (fun w1 hw1 => (trim_ret (printM t.1 ++ [32] ++ [47] ++ [32] ++ printM t.2.1) _ (by simp; omega)).mono fun v w' h => ⟨h.1, hw1.trans h.2⟩) rfl ?_
    refine WQ.v (fun w1 hw1 => RV.addS rfl rfl (by have := trimM_le (printM t.1 ++ [32] ++ [47] ++ [32] ++ printM t.2.1); simp at this ⊢; omega)) rfl ?_
    refine WQ.v (fun w1 hw1 => RV.assign rfl) rfl ?_
    refine WQ.nil ?_
    intro w2 hE2
    refine QF.seqNext ?_
    refine WC.ret ?_
    refine QF.done1 rfl rfl (⟨by unfold ruleTextM; rw [hb]; rfl, hE1.trans hE2⟩)
  | false =>
    refine WC.condF rfl (rfl) ?_
    refine WC.skip ?_
    refine QF.seqNext ?_
    refine WC.seq ?_
    refine WC.quiet (Ext w1) (by kernel_rfl) (by kernel_rfl) ((Ext.refl w1).drew) ?_
    refine WQ.v (fun w1 hw1 => RV.fieldAddr 0 Tryz.underlying50 rfl rfl (Tryz.sizeOf48 _) (by decide) rfl) rfl ?_
    refine WQ.v (fun w1 hw1 => RV.loadAgg (us := encN x.1) (lc _ hw1) (Tryz.isAgg48 _) (Tryz.sizeOf48 _) rfl) rfl ?_
    refine WQ.call Tryz.call45 rfl (fun w1 hw1 => (eprint_ret t.1 x.1 _ (h.1.ext (hE1.trans hw1)) hT1).mono fun v w' h => ⟨h.1, hw1.trans h.2⟩) rfl ?_
    refine WQ.v (fun w1 hw1 => RV.addS rfl rfl (by simp; omega)) rfl ?_
    refine WQ.v (fun w1 hw1 => RV.move rfl) rfl ?_
    refine WQ.v (fun w1 hw1 => RV.addS rfl rfl (by simp; omega)) rfl ?_
    refine WQ.v (fun w1 hw1 => RV.addS rfl rfl (by simp; omega)) rfl ?_
    refine WQ.v (fun w1 hw1 => RV.fieldAddr 3 Tryz.underlying50 rfl rfl (Tryz.sizeOf48 _) (by decide) rfl) rfl ?_
    refine WQ.v (fun w1 hw1 => RV.loadAgg (us := encN x.2.1) (rc _ hw1) (Tryz.isAgg48 _) (Tryz.sizeOf48 _) rfl) rfl ?_
    refine WQ.call Tryz.call45 rfl (fun w1 hw1 => (eprint_ret t.2.1 x.2.1 _ (h.2.1.ext (hE1.trans hw1)) hT2).mono fun v w' h => ⟨h.1, hw1.trans h.2⟩) rfl ?_
    refine WQ.v (fun w1 hw1 => RV.addS rfl rfl (by simp; omega)) rfl ?_
    refine WQ.call Tryz.call44 rfl (fun w1 hw1 => (trim_ret (printM t.1 ++ [32] ++ [33] ++ [32] ++ printM t.2.1) _ (by simp; omega)).mono fun v w' h => ⟨h.1, hw1.trans h.2⟩) rfl ?_
    refine WQ.v (fun w1 hw1 => RV.addS rfl rfl (by have := trimM_le (printM t.1 ++ [32] ++ [33] ++ [32] ++ printM t.2.1); simp at this ⊢; omega)) rfl ?_
    refine WQ.v (fun w1 hw1 => RV.assign rfl) rfl ?_
    refine WQ.nil ?_
    intro w2 hE2
    refine QF.seqNext ?_
    refine WC.ret ?_
    refine QF.done1 rfl rfl (⟨by unfold ruleTextM; rw [hb]; rfl, hE1.trans hE2⟩)
theorem rprint_ret (li lk : List Int) (ts : List R3) (xs : List X3) (ig kp ru : Value) (w : World) (hi : Sl (fun c : Int => [Value.int .i64 c]) 1 w ig li) (hk : Sl (fun c : Int => [Value.int .i64 c]) 1 w kp lk) (hli : li.length ≤ 100000) (hlk : lk.length ≤ 100000) (hr : Sl encR 7 w ru xs) (hl : ts.length = xs.length) (hx : ∀ i, i < xs.length → Rt (fun _ => 0) w (nth ts i) (nth xs i))
    (hT1 : ∀ t ∈ ts, rightM t.1 = true → TextC t.1) (hT2 : ∀ t ∈ ts, rightM t.2.1 = true → TextC t.2.1) (hl1 : ∀ t ∈ ts, (printM t.1).length ≤ 100000) (hl2 : ∀ t ∈ ts, (printM t.2.1).length ≤ 100000) :
    Ret Tryz.prog 11 [txtV ig kp ru] w fun v w' => v = .string (bs (printT li lk ts)) ∧ Ext w w' := by
  have hio := hi.one
  have hko := hk.one
  have hro := hr.one
  refine Ret.enter Tryz.func11 Tryz.ntmps11 rfl rfl ?_
  refine WC.seq ?_
  refine WC.region ?_
  refine WL.boxO (Rng.start w) 1 (by omega) rfl rfl ?_
  intro xb w1 O1 hx1 hU1 hR1 hE1
  have ha1 : ∀ W, Ext w1 W → ∀ (j : Nat) (u : Value), [ig, kp, ru][j]? = some u → W.cell? ((⟨xb, 0, none⟩ : Addr).add j) = some u := fun W hE j u hu => hE.cell (hx1.cellsAdd j u hu)
  refine WL.v (RV.assign rfl) rfl ?_
  refine WL.nil ?_
  refine QF.seqNext ?_
  refine WC.seq ?_
  refine WC.seq ?_
  refine WC.region ?_
  refine WL.v (RV.loadAgg (us := [ig, kp, ru]) (ha1 w1 (Ext.refl _)) (Tryz.isAgg26 _) (Tryz.sizeOf26 _) rfl) rfl ?_
  refine WL.call Tryz.call13 rfl (rightT_ret li lk ts xs ig kp ru w1 (hi.ext hE1) (hk.ext hE1) (hr.ext hE1) hl (fun i hq => (hx i hq).ext hE1)) rfl ?_
  rintro v w2 ⟨rfl, hE2⟩
  refine WL.v (RV.not rfl) rfl ?_
  refine WL.nil ?_
  refine QF.seqNext ?_
  cases hrt : rightT li lk ts with
  | false =>
    refine WC.condT rfl (rfl) ?_
    refine WC.seq ?_
    refine WC.region ?_
    refine WL.v (RV.assign rfl) rfl ?_
    refine WL.nil ?_
    refine QF.seqNext ?_
    refine WC.ret ?_
    refine QF.thenRet ?_
    refine QF.done1 rfl rfl (⟨by unfold printT; rw [if_neg (by rw [hrt]; decide)]; rfl, hE1.trans hE2⟩)
  | true =>
    have h40 : ts.length ≤ 40 := by
      unfold rightT at hrt
      simp only [Bool.and_eq_true, decide_eq_true_eq] at hrt
      omega
    have hM : printT li lk ts = accM ruleTextM (classesM [105, 103, 110, 111, 114, 101] li ++ classesM [107, 101, 101, 112] lk) ts ts.length := by
      rw [accM_all]; unfold printT; rw [if_pos hrt]
    rw [hM]
    have hc1 : (classesM [105, 103, 110, 111, 114, 101] li).length ≤ 2000000 := by
      have := flat_len (l := li) (m := 11) fun c _ => clsM_len c
      unfold classesM; split <;> simp at this ⊢ <;> omega
    have hc2 : (classesM [107, 101, 101, 112] lk).length ≤ 2000000 := by
      have := flat_len (l := lk) (m := 11) fun c _ => clsM_len c
      unfold classesM; split <;> simp at this ⊢ <;> omega
    have hrl : ∀ t ∈ ts, (ruleTextM t).length ≤ 200010 := fun t ht => by
      have g1 := hl1 t ht
      have g2 := hl2 t ht
      have g3 := trimM_le (printM t.1 ++ [32] ++ signM t.2.2 ++ [32] ++ printM t.2.1)
      have g4 : (signM t.2.2).length = 1 := by unfold signM; split <;> rfl
      unfold ruleTextM
      simp at g3 ⊢
      omega
    refine WC.condF rfl (rfl) ?_
    refine WC.skip ?_
    refine QF.seqNext ?_
    refine WC.seq ?_
    refine WC.quiet (Ext w2) (by kernel_rfl) (by kernel_rfl) ((Ext.refl w2).drew) ?_
    refine WQ.v (fun w1 hw1 => RV.fieldAddr 0 Tryz.underlying26 rfl rfl (Tryz.sizeOf23 _) (by decide) rfl) rfl ?_
    refine WQ.v (fun w1 hw1 => RV.load (by first | exact (hE2.trans hw1).cell (hx1.cell 0 rfl) | exact (hE2.trans hw1).cell (hx1.cell 1 rfl)) (Tryz.isAgg23 _) rfl) rfl ?_
    refine WQ.call Tryz.call22 rfl (fun w1 hw1 => (classes_ret [105, 103, 110, 111, 114, 101] li ig _ (hi.ext (hE1.trans (hE2.trans hw1))) (by decide) (by omega)).mono fun v w' h => ⟨h.1, hw1.trans h.2⟩) rfl ?_
    refine WQ.v (fun w1 hw1 => RV.fieldAddr 1 Tryz.underlying26 rfl rfl (Tryz.sizeOf23 _) (by decide) rfl) rfl ?_
    refine WQ.v (fun w1 hw1 => RV.load (by first | exact (hE2.trans hw1).cell (hx1.cell 0 rfl) | exact (hE2.trans hw1).cell (hx1.cell 1 rfl)) (Tryz.isAgg23 _) rfl) rfl ?_
    refine WQ.call Tryz.call22 rfl (fun w1 hw1 => (classes_ret [107, 101, 101, 112] lk kp _ (hk.ext (hE1.trans (hE2.trans hw1))) (by decide) (by omega)).mono fun v w' h => ⟨h.1, hw1.trans h.2⟩) rfl ?_
    refine WQ.v (fun w1 hw1 => RV.addS rfl rfl (by omega)) rfl ?_
    refine WQ.v (fun w1 hw1 => RV.assign rfl) rfl ?_
    refine WQ.nil ?_
    intro w3 hE3
    refine QF.seqNext ?_
    have hE13 := (hE1.trans hE2).trans hE3
    have c2 : w3.cell? ((⟨xb, 0, none⟩ : Addr).add 2) = some ru := (hE2.trans hE3).cell (hx1.cell 2 rfl)
    have hr3 := hr.ext hE13
    refine WC.seq ?_
    refine WC.seq ?_
    refine WC.region ?_
    refine WL.v (RV.fieldAddr 2 Tryz.underlying26 rfl rfl (Tryz.sizeOf24 _) (by decide) rfl) rfl ?_
    refine WL.v (RV.load (by first | exact c2) (Tryz.isAgg24 _) rfl) rfl ?_
    refine WL.v (RV.len (by first | exact hr3) Tryz.underlying24 rfl) rfl ?_
    refine WL.v (RV.move rfl) rfl ?_
    refine WL.nil ?_
    refine QF.seqNext ?_
    refine WC.block ?_
    refine WC.loop (fun y : Nat × World => [(3, .string (bs (accM ruleTextM (classesM [105, 103, 110, 111, 114, 101] li ++ classesM [107, 101, 101, 112] lk) ts y.1))), (17, ru), (18, .int .i64 xs.length), (19, .int .i64 y.1)]) (fun y : Nat × World => y.2) (fun y : Nat × World => y.1 ≤ xs.length ∧ Ext w y.2) (fun y : Nat × World => xs.length - y.1) (0, w3) (⟨Nat.zero_le _, hE13⟩) ⟨rfl, rfl, rfl, rfl, trivial⟩ rfl ?_
    rintro ⟨i, w4⟩ ⟨hi4, hE4⟩
    dsimp only at hi4 hE4 ⊢
    have hr4 := hr.ext hE4
    have hal : (accM ruleTextM (classesM [105, 103, 110, 111, 114, 101] li ++ classesM [107, 101, 101, 112] lk) ts i).length ≤ (classesM [105, 103, 110, 111, 114, 101] li ++ classesM [107, 101, 101, 112] lk).length + 200010 * ts.length := accM_len hrl
    rw [List.length_append] at hal
    refine WC.seq ?_
    refine WC.region ?_
    refine WL.v (RV.lss rfl rfl) rfl ?_
    refine WL.nil ?_
    refine QF.seqNext ?_
    refine WC.seq ?_
    refine WC.cond rfl ?_ ?_
    · intro hlt
      replace hlt : i < xs.length := by have := of_decide_eq_true hlt; omega
      have hxi := (hx i hlt).ext hE4
      have hmem : nth ts i ∈ ts := by rw [nth_eq (by omega)]; exact List.getElem_mem _
      have hx1o := hxi.1.one
      have hx2o := hxi.2.1.one
      have hone := encR_ones (b := (nth xs i).2.2) hx1o hx2o
      have hrli := hrl _ hmem
      refine WC.skip ?_
      refine QF.seqNext ?_
      refine WC.seq ?_
      refine WC.block ?_
      refine WC.seq ?_
      refine WC.region ?_
      refine WL.v (RV.indexAddr (by first | exact hr4) Tryz.underlying24 (Tryz.sizeOf50 _) rfl rfl _ rfl (by omega)) rfl ?_
      refine WL.v (RV.loadAgg (us := encR (nth xs i)) (fun j u hu => hr4.cell hlt hu) (Tryz.isAgg50 _) (Tryz.sizeOf50 _) rfl) rfl ?_
      refine WL.allocO (Rng.start w4) 1 (by omega) (Tryz.zeroValue50 _) rfl ?_
      intro kb w5 O5 hk5 hU5 hR5 hE5
      refine WL.storeAgg (us := (encR (nth xs i)).toArray) hk5 rfl (Tryz.sizeOf50 _) (List.all_eq_true.2 hone) rfl rfl rfl ?_
      have hk6 := hk5.setRow (us := (encR (nth xs i)).toArray)
      have hE6 : Ext w4 (w5.setRow kb (encR (nth xs i)).toArray) := (hU5.trans (Upd.setRow (by decide) hk5.tag rfl)).ext
      generalize w5.setRow kb (encR (nth xs i)).toArray = w6 at *
      refine WL.nil ?_
      refine QF.seqNext ?_
      refine WC.region ?_
      refine WL.v (RV.move rfl) rfl ?_
      refine WL.v (RV.loadAgg (us := encR (nth xs i)) hk6.cellsAdd (Tryz.isAgg50 _) (Tryz.sizeOf50 _) rfl) rfl ?_
      refine WL.call Tryz.call23 rfl (rtext_ret (nth ts i) (nth xs i) w6 (hxi.ext hE6) (hT1 _ hmem) (hT2 _ hmem) (hl1 _ hmem) (hl2 _ hmem)) rfl ?_
      rintro v w7 ⟨rfl, hE7⟩
      refine WL.v (RV.addS rfl rfl (by omega)) rfl ?_
      refine WL.v (RV.assign rfl) rfl ?_
      refine WL.nil ?_
      refine QF.blockNormal ?_
      refine QF.seqNext ?_
      refine WC.region ?_
      refine WL.v (RV.add rfl rfl (Fit.i64 (by omega))) rfl ?_
      refine WL.v (RV.move rfl) rfl ?_
      refine WL.nil ?_
      rw [show accM ruleTextM (classesM [105, 103, 110, 111, 114, 101] li ++ classesM [107, 101, 101, 112] lk) ts i ++ ruleTextM (nth ts i) = accM ruleTextM (classesM [105, 103, 110, 111, 114, 101] li ++ classesM [107, 101, 101, 112] lk) ts (i + 1) from (accM_succ (by omega)).symm]
      refine QF.next ((i + 1, w7)) (⟨hlt, (hE4.trans hE6).trans hE7⟩) (by dsimp only; omega) ⟨rfl, rfl, rfl, rfl, trivial⟩ rfl
    · intro hge
      obtain rfl : i = xs.length := by have := of_decide_eq_false hge; omega
      refine WC.exit ?_
      refine QF.thenExit ?_
      refine QF.thenExit ?_
      refine QF.blockHit ?_
      refine QF.seqNext ?_
      refine WC.seq ?_
      refine WC.region ?_
      refine WL.v (RV.move rfl) rfl ?_
      refine WL.v (RV.assign rfl) rfl ?_
      refine WL.nil ?_
      refine QF.seqNext ?_
      refine WC.ret ?_
      refine QF.done1 rfl rfl (⟨by rw [hl], hE4⟩)
end Go.Proofs.YtmohcfjopaccdaaGreatDoor
