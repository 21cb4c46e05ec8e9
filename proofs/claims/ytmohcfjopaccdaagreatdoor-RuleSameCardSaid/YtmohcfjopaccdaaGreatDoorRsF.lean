/- Package virgulelaw06, walked: RuleSame. -/
import Derived.Test.YtmohcfjopaccdaaGreatDoorExU
namespace Go.VL
section
variable {P : Program} {N : Nat} {ops : Array Oper} {S : World → Prop} {Q : Exit → Act → World → Prop} {st : St} {w : World} {fuel : Nat} {listed : Array Bool}
theorem WH.three (i j k : Nat) {o o' o'' : Oper} (hr : Region.ready .any ops listed = [i, j, k]) (hi : ops[i]? = some o) (hj : ops[j]? = some o') (hk : ops[k]? = some o'')
    (h : WL P N ops (After P ops S Q fuel (listed.setIfInBounds i true)) [o] st w) (h' : WL P N ops (After P ops S Q fuel (listed.setIfInBounds j true)) [o'] st w) (h'' : WL P N ops (After P ops S Q fuel (listed.setIfInBounds k true)) [o''] st w) : WH P N ops S Q (fuel + 1) listed st w :=
  WH.all [i, j, k] hr (by simp) fun m hm q hq => by
    simp only [List.mem_cons, List.not_mem_nil, or_false] at hm
    rcases hm with rfl | rfl | rfl
    · rw [hi] at hq; cases hq; exact h
    · rw [hj] at hq; cases hq; exact h'
    · rw [hk] at hq; cases hq; exact h''
end
end Go.VL
namespace Go.Proofs.YtmohcfjopaccdaaGreatDoor
open Go.VL Go.Proofs
set_option maxRecDepth 10000

theorem Tx.shape {w : World} {v : Value} {li lk : List Int} {ts : List R3} (h : Tx w v li lk ts) : ∃ a b c, v = txtV a b c ∧ a.oneCell' = true ∧ b.oneCell' = true ∧ c.oneCell' = true := by
  obtain ⟨ig, kp, ru, xs, hv, h1, h2, h3, _⟩ := h
  exact ⟨ig, kp, ru, hv, h1.one, h2.one, h3.one⟩
theorem txt_one {a b c : Value} (h1 : a.oneCell' = true) (h2 : b.oneCell' = true) (h3 : c.oneCell' = true) : #[a, b, c].toList.all Value.oneCell' = true := by simp only [List.all_cons, h1, h2, h3]; rfl
theorem sameT_iff {la ka lb kb : List Int} {ta tb : List R3} : sameT la ka ta lb kb tb = true ↔ (la = lb ∧ ka = kb) ∧ ta = tb := by
  unfold sameT
  simp only [Bool.and_eq_true, eqI_true, sameRs_true]
theorem sameT_comm (la ka lb kb : List Int) (ta tb : List R3) : sameT lb kb tb la ka ta = sameT la ka ta lb kb tb := by
  rw [Bool.eq_iff_iff, sameT_iff, sameT_iff]
  constructor
  · rintro ⟨⟨rfl, rfl⟩, rfl⟩; exact ⟨⟨rfl, rfl⟩, rfl⟩
  · rintro ⟨⟨rfl, rfl⟩, rfl⟩; exact ⟨⟨rfl, rfl⟩, rfl⟩
theorem tright_ret (li lk : List Int) (ts : List R3) (v : Value) (w : World) (h : Tx w v li lk ts) : Ret Tryz.prog 13 [v] w fun u w' => u = .bool (rightT li lk ts) ∧ Ext w w' := by
  obtain ⟨ig, kp, ru, xs, rfl, h1, h2, h3, h4, h5⟩ := h
  exact rightT_ret li lk ts xs ig kp ru w h1 h2 h3 h4 h5
theorem tprint_ret (li lk : List Int) (ts : List R3) (v : Value) (w : World) (h : Tx w v li lk ts) (hf : Few li lk ts) : Ret Tryz.prog 11 [v] w fun u w' => u = .string (bs (printT li lk ts)) ∧ Ext w w' := by
  obtain ⟨ig, kp, ru, xs, rfl, h1, h2, h3, h4, h5⟩ := h
  obtain ⟨_, f2, f3, _⟩ := hf
  exact rprint_ret li lk ts xs ig kp ru w h1 h2 (by omega) (by omega) h3 h4 h5 (fun t _ ht => text_right _ ht) (fun t _ ht => text_right _ ht) (fun t _ => printM_len _) (fun t _ => printM_len _)
theorem ruleSameLaw_ret (hinj : ∀ (la ka lb kb : List Int) (ta tb : List R3), rightT la ka ta = true → rightT lb kb tb = true → printT la ka ta = printT lb kb tb → (la = lb ∧ ka = kb) ∧ ta = tb) (la ka lb kb : List Int) (ta tb : List R3) (va vb : Value) (w : World) (hA : Tx w va la ka ta) (hB : Tx w vb lb kb tb) : Ret Tryz.prog 5 [va, vb] w fun u w' => u = .bool true ∧ Ext w w' := by
  have hA0 := hA
  have hB0 := hB
  obtain ⟨ig, kp, ru, xs, rfl, h1, h2, h3, h4, h5⟩ := hA0
  obtain ⟨ig', kp', ru', ys, rfl, h1', h2', h3', h4', h5'⟩ := hB0
  have o1 := h1.one
  have o2 := h2.one
  have o3 := h3.one
  have o1' := h1'.one
  have o2' := h2'.one
  have o3' := h3'.one
  refine Ret.enter Tryz.func5 Tryz.ntmps5 rfl rfl ?_
  refine WC.seq ?_
  refine WC.region ?_
  refine WL.boxO (Rng.start w) 1 (by omega) rfl rfl ?_
  intro xb w1 O1 hx1 hU1 hR1 hE1
  refine WL.boxO hR1 2 (by omega) rfl rfl ?_
  intro yb w2 O2 hy2 hU2 hR2 hE2
  have hx2 := hx1.upd hU2 (by decide) (by decide)
  have hE := hE1.trans hE2
  have ax : ∀ W, Ext w2 W → ∀ (j : Nat) (u : Value), [ig, kp, ru][j]? = some u → W.cell? ((⟨xb, 0, none⟩ : Addr).add j) = some u := fun W hE j u hu => hE.cell (hx2.cellsAdd j u hu)
  have ay : ∀ W, Ext w2 W → ∀ (j : Nat) (u : Value), [ig', kp', ru'][j]? = some u → W.cell? ((⟨yb, 0, none⟩ : Addr).add j) = some u := fun W hE j u hu => hE.cell (hy2.cellsAdd j u hu)
  refine WL.v (RV.assign rfl) rfl ?_
  refine WL.nil ?_
  refine QF.seqNext ?_
  refine WC.seq ?_
  refine WC.seq ?_
  refine WC.region ?_
  refine WL.v (RV.loadAgg (us := [ig, kp, ru]) (ax _ (Ext.refl _)) (Tryz.isAgg34 _) (Tryz.sizeOf34 _) rfl) rfl ?_
  refine WL.call Tryz.call9 rfl (great_ret la ka ta _ w2 (hA.ext hE)) rfl ?_
  rintro u w3 ⟨ga, rfl, hE3, hfa⟩
  refine WL.v (RV.move rfl) rfl ?_
  cases ga with
  | true =>
    refine WL.know (d := 9) rfl (b' := true) (rfl) ?_
    refine WL.off rfl rfl rfl ?_
    refine WL.off rfl rfl rfl ?_
    refine WL.v (RV.pickT rfl rfl) rfl ?_
    refine WL.v (RV.move rfl) rfl ?_
    refine WL.off rfl rfl rfl ?_
    refine WL.off rfl rfl rfl ?_
    refine WL.v (RV.pickT rfl rfl) rfl ?_
    refine WL.nil ?_
    refine QF.seqNext ?_
    refine WC.condT rfl rfl ?_
    refine WC.seq ?_
    refine WC.region ?_
    refine WL.call Tryz.call7 rfl (awake_ret w3) rfl ?_
    rintro u w4 ⟨rfl, hE4⟩
    refine WL.v (RV.assign rfl) rfl ?_
    refine WL.nil ?_
    refine QF.seqNext ?_
    refine WC.ret ?_
    refine QF.thenRet ?_
    refine QF.done1 rfl rfl (⟨rfl, (hE.trans hE3).trans hE4⟩)
  | false =>
    replace hfa := hfa rfl
    refine WL.know (d := 9) rfl (b' := false) (rfl) ?_
    refine WL.on rfl ?_
    refine WL.v (RV.loadAgg (us := [ig', kp', ru']) (ay _ hE3) (Tryz.isAgg34 _) (Tryz.sizeOf34 _) rfl) rfl ?_
    refine WL.on rfl ?_
    refine WL.call Tryz.call9 rfl (great_ret lb kb tb _ w3 (hB.ext (hE.trans hE3))) rfl ?_
    rintro u w4 ⟨gb, rfl, hE4, hfb⟩
    refine WL.v (RV.pickF rfl rfl) rfl ?_
    refine WL.v (RV.move rfl) rfl ?_
    cases gb with
    | true =>
      refine WL.know (d := 13) rfl (b' := true) (rfl) ?_
      refine WL.off rfl rfl rfl ?_
      refine WL.off rfl rfl rfl ?_
      refine WL.v (RV.pickT rfl rfl) rfl ?_
      refine WL.nil ?_
      refine QF.seqNext ?_
      refine WC.condT rfl rfl ?_
      refine WC.seq ?_
      refine WC.region ?_
      refine WL.call Tryz.call7 rfl (awake_ret w4) rfl ?_
      rintro u w5 ⟨rfl, hE5⟩
      refine WL.v (RV.assign rfl) rfl ?_
      refine WL.nil ?_
      refine QF.seqNext ?_
      refine WC.ret ?_
      refine QF.thenRet ?_
      refine QF.done1 rfl rfl (⟨rfl, ((hE.trans hE3).trans hE4).trans hE5⟩)
    | false =>
      replace hfb := hfb rfl
      refine WL.know (d := 13) rfl (b' := false) (rfl) ?_
      refine WL.on rfl ?_
      refine WL.call Tryz.call7 rfl (awake_ret w4) rfl ?_
      rintro u w5 ⟨rfl, hE5⟩
      have hE25 := (hE3.trans hE4).trans hE5
      have hE05 := hE.trans hE25
      have hd : Ext w5 w5.drew := (Ext.refl w5).drew
      refine WL.on rfl ?_
      refine WL.v (RV.not rfl) rfl ?_
      refine WL.v (RV.pickF rfl rfl) rfl ?_
      refine WL.nil ?_
      refine QF.seqNext ?_
      refine WC.condF rfl (rfl) ?_
      refine WC.skip ?_
      refine QF.seqNext ?_
      refine WC.seq ?_
      refine WC.mid (fun z : World × Nat × Nat => [(2, .pointer (some ⟨xb, 0, none⟩)), (3, .pointer (some ⟨yb, 0, none⟩)), (5, .pointer (some ⟨z.2.1, 0, none⟩)), (6, .pointer (some ⟨z.2.2, 0, none⟩))]) (fun z : World × Nat × Nat => z.1) (fun z : World × Nat × Nat => Ext w5 z.1 ∧ ∃ rv1 rv3 O, RulesO O z.1 rv1 ta ∧ RulesO O z.1 rv3 tb ∧ BlkO O z.1 5 z.2.1 #[ig, kp, rv1] 26 ∧ BlkO O z.1 6 z.2.2 #[ig', kp', rv3] 26) ?_ ?_
      · intro hN
        refine WC.draw (Ext w5) 8 rfl (by kernel_rfl) ?_
        refine WH.take 0 rfl (by kernel_rfl) (by kernel_rfl) (by kernel_rfl) hd (fun w1 hw1 => RV.loadAgg (us := [ig, kp, ru]) (ax _ (hE25.trans hw1)) (Tryz.isAgg34 _) (Tryz.sizeOf34 _) rfl) rfl ?_
        refine WH.take 2 rfl (by kernel_rfl) (by kernel_rfl) (by kernel_rfl) hd (fun w1 hw1 => RV.loadAgg (us := [ig', kp', ru']) (ay _ (hE25.trans hw1)) (Tryz.isAgg34 _) (Tryz.sizeOf34 _) rfl) rfl ?_
        have hD := hE05.trans hd
        have hR := Rng.start w5.drew
        have hUt : Upd (fun q => q = 5 ∨ q = 6) (fun _ => 0) w5.drew (fun _ => 0) w5.drew := Upd.refl (by decide) _ _
        refine WH.three 1 4 5 (by kernel_rfl) rfl rfl rfl ?_ ?_ ?_ 
        · skip
          refine WL.call Tryz.call10 rfl (to6_ret la ka ta xs ig kp ru _ _ _ hR (h1.ext (hD.trans (Upd.ext hUt))) (h2.ext (hD.trans (Upd.ext hUt))) (h3.ext (hD.trans (Upd.ext hUt))) h4 (fun i hi => (h5 i hi).ext (hD.trans (Upd.ext hUt))) hfa) rfl ?_
          rintro u1 x1 ⟨rv1, rfl, r1, hE1⟩
          have hX1 := Upd.of_ext (S := fun _ => False) (fun h => h) (fun _ => 0) hE1
          try have k4 := BlkO.upd k4 hX1 (by decide) (fun h => h)
          try have k5 := BlkO.upd k5 hX1 (by decide) (fun h => h)
          try have r3 := RulesO.upd r3 hX1
          have hUt := hUt.trans (Upd.mono (S' := fun q => q = 5 ∨ q = 6) hX1 (fun _ h => h.elim) (by decide))
          have hR := Rng.upd hR hX1
          refine WL.nil ?_
          refine QF.after (hd.trans (Upd.ext hUt)) ?_
          refine WH.three 3 4 5 (by kernel_rfl) rfl rfl rfl ?_ ?_ ?_ 
          · skip
            refine WL.call Tryz.call10 rfl (to6_ret lb kb tb ys ig' kp' ru' _ _ _ hR (h1'.ext (hD.trans (Upd.ext hUt))) (h2'.ext (hD.trans (Upd.ext hUt))) (h3'.ext (hD.trans (Upd.ext hUt))) h4' (fun i hi => (h5' i hi).ext (hD.trans (Upd.ext hUt))) hfb) rfl ?_
            rintro u3 x3 ⟨rv3, rfl, r3, hE3⟩
            have hX3 := Upd.of_ext (S := fun _ => False) (fun h => h) (fun _ => 0) hE3
            try have k4 := BlkO.upd k4 hX3 (by decide) (fun h => h)
            try have k5 := BlkO.upd k5 hX3 (by decide) (fun h => h)
            have r1 := RulesO.upd r1 hX3
            have hUt := hUt.trans (Upd.mono (S' := fun q => q = 5 ∨ q = 6) hX3 (fun _ h => h.elim) (by decide))
            have hR := Rng.upd hR hX3
            refine WL.nil ?_
            refine QF.after (hd.trans (Upd.ext hUt)) ?_
            refine WH.two 4 5 (by kernel_rfl) rfl rfl ?_ ?_ 
            · skip
              refine WL.allocO hR 5 (by decide) (Tryz.zeroValue26 _) rfl ?_
              intro g4 x4 O4 k4 hX4 hR4 hE4
              try have k5 := BlkO.upd k5 hX4 (by decide) (by decide)
              try have r1 := RulesO.upd r1 hX4
              try have r3 := RulesO.upd r3 hX4
              have hUt := hUt.trans (Upd.mono (S' := fun q => q = 5 ∨ q = 6) hX4 (fun _ h => .inl h) (by decide))
              have hR := hR4
              refine WL.nil ?_
              refine QF.after (hd.trans (Upd.ext hUt)) ?_
              refine WH.one 5 (by kernel_rfl) rfl ?_
              refine WL.allocO hR 6 (by decide) (Tryz.zeroValue26 _) rfl ?_
              intro g5 x5 O5 k5 hX5 hR5 hE5
              try have k4 := BlkO.upd k4 hX5 (by decide) (by decide)
              try have r1 := RulesO.upd r1 hX5
              try have r3 := RulesO.upd r3 hX5
              have hUt := hUt.trans (Upd.mono (S' := fun q => q = 5 ∨ q = 6) hX5 (fun _ h => .inr h) (by decide))
              have hR := hR5
              refine WL.nil ?_
              refine QF.after (hd.trans (Upd.ext hUt)) ?_
              refine WH.one 6 (by kernel_rfl) rfl ?_
              refine WL.storeAgg (us := #[ig, kp, rv1]) k4 rfl (Tryz.sizeOf26 _) (txt_one o1 o2 r1.one) rfl rfl rfl ?_
              have hX6 : Upd (fun q => q = 5) O5 x5 O5 (World.setRow x5 g4 #[ig, kp, rv1]) := Upd.setRow (by decide) (BlkO.tag k4) rfl
              have k4 := BlkO.setRow (us := #[ig, kp, rv1]) k4
              have k5 := BlkO.upd k5 hX6 (by decide) (by decide)
              have r1 := RulesO.upd r1 hX6
              have r3 := RulesO.upd r3 hX6
              have hUt := hUt.trans (Upd.mono (S' := fun q => q = 5 ∨ q = 6) hX6 (fun _ h => .inl h) (by decide))
              refine WL.nil ?_
              refine QF.after (hd.trans (Upd.ext hUt)) ?_
              generalize World.setRow x5 g4 #[ig, kp, rv1] = x6 at *
              refine WH.one 7 (by kernel_rfl) rfl ?_
              refine WL.storeAgg (us := #[ig', kp', rv3]) k5 rfl (Tryz.sizeOf26 _) (txt_one o1' o2' r3.one) rfl rfl rfl ?_
              have hX7 : Upd (fun q => q = 6) O5 x6 O5 (World.setRow x6 g5 #[ig', kp', rv3]) := Upd.setRow (by decide) (BlkO.tag k5) rfl
              have k5 := BlkO.setRow (us := #[ig', kp', rv3]) k5
              have k4 := BlkO.upd k4 hX7 (by decide) (by decide)
              have r1 := RulesO.upd r1 hX7
              have r3 := RulesO.upd r3 hX7
              have hUt := hUt.trans (Upd.mono (S' := fun q => q = 5 ∨ q = 6) hX7 (fun _ h => .inr h) (by decide))
              refine WL.nil ?_
              refine QF.after (hd.trans (Upd.ext hUt)) ?_
              refine WH.done (by kernel_rfl) ?_
              exact QF.of (hN ((World.setRow x6 g5 #[ig', kp', rv3], g4, g5)) (⟨hd.trans (Upd.ext hUt), rv1, rv3, O5, r1, r3, k4, k5⟩)) ⟨rfl, rfl, rfl, rfl, trivial⟩ rfl
            · skip
              refine WL.allocO hR 6 (by decide) (Tryz.zeroValue26 _) rfl ?_
              intro g5 x5 O5 k5 hX5 hR5 hE5
              try have k4 := BlkO.upd k4 hX5 (by decide) (by decide)
              try have r1 := RulesO.upd r1 hX5
              try have r3 := RulesO.upd r3 hX5
              have hUt := hUt.trans (Upd.mono (S' := fun q => q = 5 ∨ q = 6) hX5 (fun _ h => .inr h) (by decide))
              have hR := hR5
              refine WL.nil ?_
              refine QF.after (hd.trans (Upd.ext hUt)) ?_
              refine WH.one 4 (by kernel_rfl) rfl ?_
              refine WL.allocO hR 5 (by decide) (Tryz.zeroValue26 _) rfl ?_
              intro g4 x4 O4 k4 hX4 hR4 hE4
              try have k5 := BlkO.upd k5 hX4 (by decide) (by decide)
              try have r1 := RulesO.upd r1 hX4
              try have r3 := RulesO.upd r3 hX4
              have hUt := hUt.trans (Upd.mono (S' := fun q => q = 5 ∨ q = 6) hX4 (fun _ h => .inl h) (by decide))
              have hR := hR4
              refine WL.nil ?_
              refine QF.after (hd.trans (Upd.ext hUt)) ?_
              refine WH.one 6 (by kernel_rfl) rfl ?_
              refine WL.storeAgg (us := #[ig, kp, rv1]) k4 rfl (Tryz.sizeOf26 _) (txt_one o1 o2 r1.one) rfl rfl rfl ?_
              have hX6 : Upd (fun q => q = 5) O4 x4 O4 (World.setRow x4 g4 #[ig, kp, rv1]) := Upd.setRow (by decide) (BlkO.tag k4) rfl
              have k4 := BlkO.setRow (us := #[ig, kp, rv1]) k4
              have k5 := BlkO.upd k5 hX6 (by decide) (by decide)
              have r1 := RulesO.upd r1 hX6
              have r3 := RulesO.upd r3 hX6
              have hUt := hUt.trans (Upd.mono (S' := fun q => q = 5 ∨ q = 6) hX6 (fun _ h => .inl h) (by decide))
              refine WL.nil ?_
              refine QF.after (hd.trans (Upd.ext hUt)) ?_
              generalize World.setRow x4 g4 #[ig, kp, rv1] = x6 at *
              refine WH.one 7 (by kernel_rfl) rfl ?_
              refine WL.storeAgg (us := #[ig', kp', rv3]) k5 rfl (Tryz.sizeOf26 _) (txt_one o1' o2' r3.one) rfl rfl rfl ?_
              have hX7 : Upd (fun q => q = 6) O4 x6 O4 (World.setRow x6 g5 #[ig', kp', rv3]) := Upd.setRow (by decide) (BlkO.tag k5) rfl
              have k5 := BlkO.setRow (us := #[ig', kp', rv3]) k5
              have k4 := BlkO.upd k4 hX7 (by decide) (by decide)
              have r1 := RulesO.upd r1 hX7
              have r3 := RulesO.upd r3 hX7
              have hUt := hUt.trans (Upd.mono (S' := fun q => q = 5 ∨ q = 6) hX7 (fun _ h => .inr h) (by decide))
              refine WL.nil ?_
              refine QF.after (hd.trans (Upd.ext hUt)) ?_
              refine WH.done (by kernel_rfl) ?_
              exact QF.of (hN ((World.setRow x6 g5 #[ig', kp', rv3], g4, g5)) (⟨hd.trans (Upd.ext hUt), rv1, rv3, O4, r1, r3, k4, k5⟩)) ⟨rfl, rfl, rfl, rfl, trivial⟩ rfl
          · skip
            refine WL.allocO hR 5 (by decide) (Tryz.zeroValue26 _) rfl ?_
            intro g4 x4 O4 k4 hX4 hR4 hE4
            try have k5 := BlkO.upd k5 hX4 (by decide) (by decide)
            try have r1 := RulesO.upd r1 hX4
            try have r3 := RulesO.upd r3 hX4
            have hUt := hUt.trans (Upd.mono (S' := fun q => q = 5 ∨ q = 6) hX4 (fun _ h => .inl h) (by decide))
            have hR := hR4
            refine WL.nil ?_
            refine QF.after (hd.trans (Upd.ext hUt)) ?_
            refine WH.two 3 5 (by kernel_rfl) rfl rfl ?_ ?_ 
            · skip
              refine WL.call Tryz.call10 rfl (to6_ret lb kb tb ys ig' kp' ru' _ _ _ hR (h1'.ext (hD.trans (Upd.ext hUt))) (h2'.ext (hD.trans (Upd.ext hUt))) (h3'.ext (hD.trans (Upd.ext hUt))) h4' (fun i hi => (h5' i hi).ext (hD.trans (Upd.ext hUt))) hfb) rfl ?_
              rintro u3 x3 ⟨rv3, rfl, r3, hE3⟩
              have hX3 := Upd.of_ext (S := fun _ => False) (fun h => h) O4 hE3
              try have k4 := BlkO.upd k4 hX3 (by decide) (fun h => h)
              try have k5 := BlkO.upd k5 hX3 (by decide) (fun h => h)
              have r1 := RulesO.upd r1 hX3
              have hUt := hUt.trans (Upd.mono (S' := fun q => q = 5 ∨ q = 6) hX3 (fun _ h => h.elim) (by decide))
              have hR := Rng.upd hR hX3
              refine WL.nil ?_
              refine QF.after (hd.trans (Upd.ext hUt)) ?_
              refine WH.one 5 (by kernel_rfl) rfl ?_
              refine WL.allocO hR 6 (by decide) (Tryz.zeroValue26 _) rfl ?_
              intro g5 x5 O5 k5 hX5 hR5 hE5
              try have k4 := BlkO.upd k4 hX5 (by decide) (by decide)
              try have r1 := RulesO.upd r1 hX5
              try have r3 := RulesO.upd r3 hX5
              have hUt := hUt.trans (Upd.mono (S' := fun q => q = 5 ∨ q = 6) hX5 (fun _ h => .inr h) (by decide))
              have hR := hR5
              refine WL.nil ?_
              refine QF.after (hd.trans (Upd.ext hUt)) ?_
              refine WH.one 6 (by kernel_rfl) rfl ?_
              refine WL.storeAgg (us := #[ig, kp, rv1]) k4 rfl (Tryz.sizeOf26 _) (txt_one o1 o2 r1.one) rfl rfl rfl ?_
              have hX6 : Upd (fun q => q = 5) O5 x5 O5 (World.setRow x5 g4 #[ig, kp, rv1]) := Upd.setRow (by decide) (BlkO.tag k4) rfl
              have k4 := BlkO.setRow (us := #[ig, kp, rv1]) k4
              have k5 := BlkO.upd k5 hX6 (by decide) (by decide)
              have r1 := RulesO.upd r1 hX6
              have r3 := RulesO.upd r3 hX6
              have hUt := hUt.trans (Upd.mono (S' := fun q => q = 5 ∨ q = 6) hX6 (fun _ h => .inl h) (by decide))
              refine WL.nil ?_
              refine QF.after (hd.trans (Upd.ext hUt)) ?_
              generalize World.setRow x5 g4 #[ig, kp, rv1] = x6 at *
              refine WH.one 7 (by kernel_rfl) rfl ?_
              refine WL.storeAgg (us := #[ig', kp', rv3]) k5 rfl (Tryz.sizeOf26 _) (txt_one o1' o2' r3.one) rfl rfl rfl ?_
              have hX7 : Upd (fun q => q = 6) O5 x6 O5 (World.setRow x6 g5 #[ig', kp', rv3]) := Upd.setRow (by decide) (BlkO.tag k5) rfl
              have k5 := BlkO.setRow (us := #[ig', kp', rv3]) k5
              have k4 := BlkO.upd k4 hX7 (by decide) (by decide)
              have r1 := RulesO.upd r1 hX7
              have r3 := RulesO.upd r3 hX7
              have hUt := hUt.trans (Upd.mono (S' := fun q => q = 5 ∨ q = 6) hX7 (fun _ h => .inr h) (by decide))
              refine WL.nil ?_
              refine QF.after (hd.trans (Upd.ext hUt)) ?_
              refine WH.done (by kernel_rfl) ?_
              exact QF.of (hN ((World.setRow x6 g5 #[ig', kp', rv3], g4, g5)) (⟨hd.trans (Upd.ext hUt), rv1, rv3, O5, r1, r3, k4, k5⟩)) ⟨rfl, rfl, rfl, rfl, trivial⟩ rfl
            · skip
              refine WL.allocO hR 6 (by decide) (Tryz.zeroValue26 _) rfl ?_
              intro g5 x5 O5 k5 hX5 hR5 hE5
              try have k4 := BlkO.upd k4 hX5 (by decide) (by decide)
              try have r1 := RulesO.upd r1 hX5
              try have r3 := RulesO.upd r3 hX5
              have hUt := hUt.trans (Upd.mono (S' := fun q => q = 5 ∨ q = 6) hX5 (fun _ h => .inr h) (by decide))
              have hR := hR5
              refine WL.nil ?_
              refine QF.after (hd.trans (Upd.ext hUt)) ?_
              refine WH.one 3 (by kernel_rfl) rfl ?_
              refine WL.call Tryz.call10 rfl (to6_ret lb kb tb ys ig' kp' ru' _ _ _ hR (h1'.ext (hD.trans (Upd.ext hUt))) (h2'.ext (hD.trans (Upd.ext hUt))) (h3'.ext (hD.trans (Upd.ext hUt))) h4' (fun i hi => (h5' i hi).ext (hD.trans (Upd.ext hUt))) hfb) rfl ?_
              rintro u3 x3 ⟨rv3, rfl, r3, hE3⟩
              have hX3 := Upd.of_ext (S := fun _ => False) (fun h => h) O5 hE3
              try have k4 := BlkO.upd k4 hX3 (by decide) (fun h => h)
              try have k5 := BlkO.upd k5 hX3 (by decide) (fun h => h)
              have r1 := RulesO.upd r1 hX3
              have hUt := hUt.trans (Upd.mono (S' := fun q => q = 5 ∨ q = 6) hX3 (fun _ h => h.elim) (by decide))
              have hR := Rng.upd hR hX3
              refine WL.nil ?_
              refine QF.after (hd.trans (Upd.ext hUt)) ?_
              refine WH.one 6 (by kernel_rfl) rfl ?_
              refine WL.storeAgg (us := #[ig, kp, rv1]) k4 rfl (Tryz.sizeOf26 _) (txt_one o1 o2 r1.one) rfl rfl rfl ?_
              have hX6 : Upd (fun q => q = 5) O5 x3 O5 (World.setRow x3 g4 #[ig, kp, rv1]) := Upd.setRow (by decide) (BlkO.tag k4) rfl
              have k4 := BlkO.setRow (us := #[ig, kp, rv1]) k4
              have k5 := BlkO.upd k5 hX6 (by decide) (by decide)
              have r1 := RulesO.upd r1 hX6
              have r3 := RulesO.upd r3 hX6
              have hUt := hUt.trans (Upd.mono (S' := fun q => q = 5 ∨ q = 6) hX6 (fun _ h => .inl h) (by decide))
              refine WL.nil ?_
              refine QF.after (hd.trans (Upd.ext hUt)) ?_
              generalize World.setRow x3 g4 #[ig, kp, rv1] = x6 at *
              refine WH.one 7 (by kernel_rfl) rfl ?_
              refine WL.storeAgg (us := #[ig', kp', rv3]) k5 rfl (Tryz.sizeOf26 _) (txt_one o1' o2' r3.one) rfl rfl rfl ?_
              have hX7 : Upd (fun q => q = 6) O5 x6 O5 (World.setRow x6 g5 #[ig', kp', rv3]) := Upd.setRow (by decide) (BlkO.tag k5) rfl
              have k5 := BlkO.setRow (us := #[ig', kp', rv3]) k5
              have k4 := BlkO.upd k4 hX7 (by decide) (by decide)
              have r1 := RulesO.upd r1 hX7
              have r3 := RulesO.upd r3 hX7
              have hUt := hUt.trans (Upd.mono (S' := fun q => q = 5 ∨ q = 6) hX7 (fun _ h => .inr h) (by decide))
              refine WL.nil ?_
              refine QF.after (hd.trans (Upd.ext hUt)) ?_
              refine WH.done (by kernel_rfl) ?_
              exact QF.of (hN ((World.setRow x6 g5 #[ig', kp', rv3], g4, g5)) (⟨hd.trans (Upd.ext hUt), rv1, rv3, O5, r1, r3, k4, k5⟩)) ⟨rfl, rfl, rfl, rfl, trivial⟩ rfl
          · skip
            refine WL.allocO hR 6 (by decide) (Tryz.zeroValue26 _) rfl ?_
            intro g5 x5 O5 k5 hX5 hR5 hE5
            try have k4 := BlkO.upd k4 hX5 (by decide) (by decide)
            try have r1 := RulesO.upd r1 hX5
            try have r3 := RulesO.upd r3 hX5
            have hUt := hUt.trans (Upd.mono (S' := fun q => q = 5 ∨ q = 6) hX5 (fun _ h => .inr h) (by decide))
            have hR := hR5
            refine WL.nil ?_
            refine QF.after (hd.trans (Upd.ext hUt)) ?_
            refine WH.two 3 4 (by kernel_rfl) rfl rfl ?_ ?_ 
            · skip
              refine WL.call Tryz.call10 rfl (to6_ret lb kb tb ys ig' kp' ru' _ _ _ hR (h1'.ext (hD.trans (Upd.ext hUt))) (h2'.ext (hD.trans (Upd.ext hUt))) (h3'.ext (hD.trans (Upd.ext hUt))) h4' (fun i hi => (h5' i hi).ext (hD.trans (Upd.ext hUt))) hfb) rfl ?_
              rintro u3 x3 ⟨rv3, rfl, r3, hE3⟩
              have hX3 := Upd.of_ext (S := fun _ => False) (fun h => h) O5 hE3
              try have k4 := BlkO.upd k4 hX3 (by decide) (fun h => h)
              try have k5 := BlkO.upd k5 hX3 (by decide) (fun h => h)
              have r1 := RulesO.upd r1 hX3
              have hUt := hUt.trans (Upd.mono (S' := fun q => q = 5 ∨ q = 6) hX3 (fun _ h => h.elim) (by decide))
              have hR := Rng.upd hR hX3
              refine WL.nil ?_
              refine QF.after (hd.trans (Upd.ext hUt)) ?_
              refine WH.one 4 (by kernel_rfl) rfl ?_
              refine WL.allocO hR 5 (by decide) (Tryz.zeroValue26 _) rfl ?_
              intro g4 x4 O4 k4 hX4 hR4 hE4
              try have k5 := BlkO.upd k5 hX4 (by decide) (by decide)
              try have r1 := RulesO.upd r1 hX4
              try have r3 := RulesO.upd r3 hX4
              have hUt := hUt.trans (Upd.mono (S' := fun q => q = 5 ∨ q = 6) hX4 (fun _ h => .inl h) (by decide))
              have hR := hR4
              refine WL.nil ?_
              refine QF.after (hd.trans (Upd.ext hUt)) ?_
              refine WH.one 6 (by kernel_rfl) rfl ?_
              refine WL.storeAgg (us := #[ig, kp, rv1]) k4 rfl (Tryz.sizeOf26 _) (txt_one o1 o2 r1.one) rfl rfl rfl ?_
              have hX6 : Upd (fun q => q = 5) O4 x4 O4 (World.setRow x4 g4 #[ig, kp, rv1]) := Upd.setRow (by decide) (BlkO.tag k4) rfl
              have k4 := BlkO.setRow (us := #[ig, kp, rv1]) k4
              have k5 := BlkO.upd k5 hX6 (by decide) (by decide)
              have r1 := RulesO.upd r1 hX6
              have r3 := RulesO.upd r3 hX6
              have hUt := hUt.trans (Upd.mono (S' := fun q => q = 5 ∨ q = 6) hX6 (fun _ h => .inl h) (by decide))
              refine WL.nil ?_
              refine QF.after (hd.trans (Upd.ext hUt)) ?_
              generalize World.setRow x4 g4 #[ig, kp, rv1] = x6 at *
              refine WH.one 7 (by kernel_rfl) rfl ?_
              refine WL.storeAgg (us := #[ig', kp', rv3]) k5 rfl (Tryz.sizeOf26 _) (txt_one o1' o2' r3.one) rfl rfl rfl ?_
              have hX7 : Upd (fun q => q = 6) O4 x6 O4 (World.setRow x6 g5 #[ig', kp', rv3]) := Upd.setRow (by decide) (BlkO.tag k5) rfl
              have k5 := BlkO.setRow (us := #[ig', kp', rv3]) k5
              have k4 := BlkO.upd k4 hX7 (by decide) (by decide)
              have r1 := RulesO.upd r1 hX7
              have r3 := RulesO.upd r3 hX7
              have hUt := hUt.trans (Upd.mono (S' := fun q => q = 5 ∨ q = 6) hX7 (fun _ h => .inr h) (by decide))
              refine WL.nil ?_
              refine QF.after (hd.trans (Upd.ext hUt)) ?_
              refine WH.done (by kernel_rfl) ?_
              exact QF.of (hN ((World.setRow x6 g5 #[ig', kp', rv3], g4, g5)) (⟨hd.trans (Upd.ext hUt), rv1, rv3, O4, r1, r3, k4, k5⟩)) ⟨rfl, rfl, rfl, rfl, trivial⟩ rfl
            · skip
              refine WL.allocO hR 5 (by decide) (Tryz.zeroValue26 _) rfl ?_
              intro g4 x4 O4 k4 hX4 hR4 hE4
              try have k5 := BlkO.upd k5 hX4 (by decide) (by decide)
              try have r1 := RulesO.upd r1 hX4
              try have r3 := RulesO.upd r3 hX4
              have hUt := hUt.trans (Upd.mono (S' := fun q => q = 5 ∨ q = 6) hX4 (fun _ h => .inl h) (by decide))
              have hR := hR4
              refine WL.nil ?_
              refine QF.after (hd.trans (Upd.ext hUt)) ?_
              refine WH.one 3 (by kernel_rfl) rfl ?_
              refine WL.call Tryz.call10 rfl (to6_ret lb kb tb ys ig' kp' ru' _ _ _ hR (h1'.ext (hD.trans (Upd.ext hUt))) (h2'.ext (hD.trans (Upd.ext hUt))) (h3'.ext (hD.trans (Upd.ext hUt))) h4' (fun i hi => (h5' i hi).ext (hD.trans (Upd.ext hUt))) hfb) rfl ?_
              rintro u3 x3 ⟨rv3, rfl, r3, hE3⟩
              have hX3 := Upd.of_ext (S := fun _ => False) (fun h => h) O4 hE3
              try have k4 := BlkO.upd k4 hX3 (by decide) (fun h => h)
              try have k5 := BlkO.upd k5 hX3 (by decide) (fun h => h)
              have r1 := RulesO.upd r1 hX3
              have hUt := hUt.trans (Upd.mono (S' := fun q => q = 5 ∨ q = 6) hX3 (fun _ h => h.elim) (by decide))
              have hR := Rng.upd hR hX3
              refine WL.nil ?_
              refine QF.after (hd.trans (Upd.ext hUt)) ?_
              refine WH.one 6 (by kernel_rfl) rfl ?_
              refine WL.storeAgg (us := #[ig, kp, rv1]) k4 rfl (Tryz.sizeOf26 _) (txt_one o1 o2 r1.one) rfl rfl rfl ?_
              have hX6 : Upd (fun q => q = 5) O4 x3 O4 (World.setRow x3 g4 #[ig, kp, rv1]) := Upd.setRow (by decide) (BlkO.tag k4) rfl
              have k4 := BlkO.setRow (us := #[ig, kp, rv1]) k4
              have k5 := BlkO.upd k5 hX6 (by decide) (by decide)
              have r1 := RulesO.upd r1 hX6
              have r3 := RulesO.upd r3 hX6
              have hUt := hUt.trans (Upd.mono (S' := fun q => q = 5 ∨ q = 6) hX6 (fun _ h => .inl h) (by decide))
              refine WL.nil ?_
              refine QF.after (hd.trans (Upd.ext hUt)) ?_
              generalize World.setRow x3 g4 #[ig, kp, rv1] = x6 at *
              refine WH.one 7 (by kernel_rfl) rfl ?_
              refine WL.storeAgg (us := #[ig', kp', rv3]) k5 rfl (Tryz.sizeOf26 _) (txt_one o1' o2' r3.one) rfl rfl rfl ?_
              have hX7 : Upd (fun q => q = 6) O4 x6 O4 (World.setRow x6 g5 #[ig', kp', rv3]) := Upd.setRow (by decide) (BlkO.tag k5) rfl
              have k5 := BlkO.setRow (us := #[ig', kp', rv3]) k5
              have k4 := BlkO.upd k4 hX7 (by decide) (by decide)
              have r1 := RulesO.upd r1 hX7
              have r3 := RulesO.upd r3 hX7
              have hUt := hUt.trans (Upd.mono (S' := fun q => q = 5 ∨ q = 6) hX7 (fun _ h => .inr h) (by decide))
              refine WL.nil ?_
              refine QF.after (hd.trans (Upd.ext hUt)) ?_
              refine WH.done (by kernel_rfl) ?_
              exact QF.of (hN ((World.setRow x6 g5 #[ig', kp', rv3], g4, g5)) (⟨hd.trans (Upd.ext hUt), rv1, rv3, O4, r1, r3, k4, k5⟩)) ⟨rfl, rfl, rfl, rfl, trivial⟩ rfl
        · skip
          refine WL.allocO hR 5 (by decide) (Tryz.zeroValue26 _) rfl ?_
          intro g4 x4 O4 k4 hX4 hR4 hE4
          try have k5 := BlkO.upd k5 hX4 (by decide) (by decide)
          try have r1 := RulesO.upd r1 hX4
          try have r3 := RulesO.upd r3 hX4
          have hUt := hUt.trans (Upd.mono (S' := fun q => q = 5 ∨ q = 6) hX4 (fun _ h => .inl h) (by decide))
          have hR := hR4
          refine WL.nil ?_
          refine QF.after (hd.trans (Upd.ext hUt)) ?_
          refine WH.two 1 5 (by kernel_rfl) rfl rfl ?_ ?_ 
          · skip
            refine WL.call Tryz.call10 rfl (to6_ret la ka ta xs ig kp ru _ _ _ hR (h1.ext (hD.trans (Upd.ext hUt))) (h2.ext (hD.trans (Upd.ext hUt))) (h3.ext (hD.trans (Upd.ext hUt))) h4 (fun i hi => (h5 i hi).ext (hD.trans (Upd.ext hUt))) hfa) rfl ?_
            rintro u1 x1 ⟨rv1, rfl, r1, hE1⟩
            have hX1 := Upd.of_ext (S := fun _ => False) (fun h => h) O4 hE1
            try have k4 := BlkO.upd k4 hX1 (by decide) (fun h => h)
            try have k5 := BlkO.upd k5 hX1 (by decide) (fun h => h)
            try have r3 := RulesO.upd r3 hX1
            have hUt := hUt.trans (Upd.mono (S' := fun q => q = 5 ∨ q = 6) hX1 (fun _ h => h.elim) (by decide))
            have hR := Rng.upd hR hX1
            refine WL.nil ?_
            refine QF.after (hd.trans (Upd.ext hUt)) ?_
            refine WH.two 3 5 (by kernel_rfl) rfl rfl ?_ ?_ 
            · skip
              refine WL.call Tryz.call10 rfl (to6_ret lb kb tb ys ig' kp' ru' _ _ _ hR (h1'.ext (hD.trans (Upd.ext hUt))) (h2'.ext (hD.trans (Upd.ext hUt))) (h3'.ext (hD.trans (Upd.ext hUt))) h4' (fun i hi => (h5' i hi).ext (hD.trans (Upd.ext hUt))) hfb) rfl ?_
              rintro u3 x3 ⟨rv3, rfl, r3, hE3⟩
              have hX3 := Upd.of_ext (S := fun _ => False) (fun h => h) O4 hE3
              try have k4 := BlkO.upd k4 hX3 (by decide) (fun h => h)
              try have k5 := BlkO.upd k5 hX3 (by decide) (fun h => h)
              have r1 := RulesO.upd r1 hX3
              have hUt := hUt.trans (Upd.mono (S' := fun q => q = 5 ∨ q = 6) hX3 (fun _ h => h.elim) (by decide))
              have hR := Rng.upd hR hX3
              refine WL.nil ?_
              refine QF.after (hd.trans (Upd.ext hUt)) ?_
              refine WH.one 5 (by kernel_rfl) rfl ?_
              refine WL.allocO hR 6 (by decide) (Tryz.zeroValue26 _) rfl ?_
              intro g5 x5 O5 k5 hX5 hR5 hE5
              try have k4 := BlkO.upd k4 hX5 (by decide) (by decide)
              try have r1 := RulesO.upd r1 hX5
              try have r3 := RulesO.upd r3 hX5
              have hUt := hUt.trans (Upd.mono (S' := fun q => q = 5 ∨ q = 6) hX5 (fun _ h => .inr h) (by decide))
              have hR := hR5
              refine WL.nil ?_
              refine QF.after (hd.trans (Upd.ext hUt)) ?_
              refine WH.one 6 (by kernel_rfl) rfl ?_
              refine WL.storeAgg (us := #[ig, kp, rv1]) k4 rfl (Tryz.sizeOf26 _) (txt_one o1 o2 r1.one) rfl rfl rfl ?_
              have hX6 : Upd (fun q => q = 5) O5 x5 O5 (World.setRow x5 g4 #[ig, kp, rv1]) := Upd.setRow (by decide) (BlkO.tag k4) rfl
              have k4 := BlkO.setRow (us := #[ig, kp, rv1]) k4
              have k5 := BlkO.upd k5 hX6 (by decide) (by decide)
              have r1 := RulesO.upd r1 hX6
              have r3 := RulesO.upd r3 hX6
              have hUt := hUt.trans (Upd.mono (S' := fun q => q = 5 ∨ q = 6) hX6 (fun _ h => .inl h) (by decide))
              refine WL.nil ?_
              refine QF.after (hd.trans (Upd.ext hUt)) ?_
              generalize World.setRow x5 g4 #[ig, kp, rv1] = x6 at *
              refine WH.one 7 (by kernel_rfl) rfl ?_
              refine WL.storeAgg (us := #[ig', kp', rv3]) k5 rfl (Tryz.sizeOf26 _) (txt_one o1' o2' r3.one) rfl rfl rfl ?_
              have hX7 : Upd (fun q => q = 6) O5 x6 O5 (World.setRow x6 g5 #[ig', kp', rv3]) := Upd.setRow (by decide) (BlkO.tag k5) rfl
              have k5 := BlkO.setRow (us := #[ig', kp', rv3]) k5
              have k4 := BlkO.upd k4 hX7 (by decide) (by decide)
              have r1 := RulesO.upd r1 hX7
              have r3 := RulesO.upd r3 hX7
              have hUt := hUt.trans (Upd.mono (S' := fun q => q = 5 ∨ q = 6) hX7 (fun _ h => .inr h) (by decide))
              refine WL.nil ?_
              refine QF.after (hd.trans (Upd.ext hUt)) ?_
              refine WH.done (by kernel_rfl) ?_
              exact QF.of (hN ((World.setRow x6 g5 #[ig', kp', rv3], g4, g5)) (⟨hd.trans (Upd.ext hUt), rv1, rv3, O5, r1, r3, k4, k5⟩)) ⟨rfl, rfl, rfl, rfl, trivial⟩ rfl
            · skip
              refine WL.allocO hR 6 (by decide) (Tryz.zeroValue26 _) rfl ?_
              intro g5 x5 O5 k5 hX5 hR5 hE5
              try have k4 := BlkO.upd k4 hX5 (by decide) (by decide)
              try have r1 := RulesO.upd r1 hX5
              try have r3 := RulesO.upd r3 hX5
              have hUt := hUt.trans (Upd.mono (S' := fun q => q = 5 ∨ q = 6) hX5 (fun _ h => .inr h) (by decide))
              have hR := hR5
              refine WL.nil ?_
              refine QF.after (hd.trans (Upd.ext hUt)) ?_
              refine WH.one 3 (by kernel_rfl) rfl ?_
              refine WL.call Tryz.call10 rfl (to6_ret lb kb tb ys ig' kp' ru' _ _ _ hR (h1'.ext (hD.trans (Upd.ext hUt))) (h2'.ext (hD.trans (Upd.ext hUt))) (h3'.ext (hD.trans (Upd.ext hUt))) h4' (fun i hi => (h5' i hi).ext (hD.trans (Upd.ext hUt))) hfb) rfl ?_
              rintro u3 x3 ⟨rv3, rfl, r3, hE3⟩
              have hX3 := Upd.of_ext (S := fun _ => False) (fun h => h) O5 hE3
              try have k4 := BlkO.upd k4 hX3 (by decide) (fun h => h)
              try have k5 := BlkO.upd k5 hX3 (by decide) (fun h => h)
              have r1 := RulesO.upd r1 hX3
              have hUt := hUt.trans (Upd.mono (S' := fun q => q = 5 ∨ q = 6) hX3 (fun _ h => h.elim) (by decide))
              have hR := Rng.upd hR hX3
              refine WL.nil ?_
              refine QF.after (hd.trans (Upd.ext hUt)) ?_
              refine WH.one 6 (by kernel_rfl) rfl ?_
              refine WL.storeAgg (us := #[ig, kp, rv1]) k4 rfl (Tryz.sizeOf26 _) (txt_one o1 o2 r1.one) rfl rfl rfl ?_
              have hX6 : Upd (fun q => q = 5) O5 x3 O5 (World.setRow x3 g4 #[ig, kp, rv1]) := Upd.setRow (by decide) (BlkO.tag k4) rfl
              have k4 := BlkO.setRow (us := #[ig, kp, rv1]) k4
              have k5 := BlkO.upd k5 hX6 (by decide) (by decide)
              have r1 := RulesO.upd r1 hX6
              have r3 := RulesO.upd r3 hX6
              have hUt := hUt.trans (Upd.mono (S' := fun q => q = 5 ∨ q = 6) hX6 (fun _ h => .inl h) (by decide))
              refine WL.nil ?_
              refine QF.after (hd.trans (Upd.ext hUt)) ?_
              generalize World.setRow x3 g4 #[ig, kp, rv1] = x6 at *
              refine WH.one 7 (by kernel_rfl) rfl ?_
              refine WL.storeAgg (us := #[ig', kp', rv3]) k5 rfl (Tryz.sizeOf26 _) (txt_one o1' o2' r3.one) rfl rfl rfl ?_
              have hX7 : Upd (fun q => q = 6) O5 x6 O5 (World.setRow x6 g5 #[ig', kp', rv3]) := Upd.setRow (by decide) (BlkO.tag k5) rfl
              have k5 := BlkO.setRow (us := #[ig', kp', rv3]) k5
              have k4 := BlkO.upd k4 hX7 (by decide) (by decide)
              have r1 := RulesO.upd r1 hX7
              have r3 := RulesO.upd r3 hX7
              have hUt := hUt.trans (Upd.mono (S' := fun q => q = 5 ∨ q = 6) hX7 (fun _ h => .inr h) (by decide))
              refine WL.nil ?_
              refine QF.after (hd.trans (Upd.ext hUt)) ?_
              refine WH.done (by kernel_rfl) ?_
              exact QF.of (hN ((World.setRow x6 g5 #[ig', kp', rv3], g4, g5)) (⟨hd.trans (Upd.ext hUt), rv1, rv3, O5, r1, r3, k4, k5⟩)) ⟨rfl, rfl, rfl, rfl, trivial⟩ rfl
          · skip
            refine WL.allocO hR 6 (by decide) (Tryz.zeroValue26 _) rfl ?_
            intro g5 x5 O5 k5 hX5 hR5 hE5
            try have k4 := BlkO.upd k4 hX5 (by decide) (by decide)
            try have r1 := RulesO.upd r1 hX5
            try have r3 := RulesO.upd r3 hX5
            have hUt := hUt.trans (Upd.mono (S' := fun q => q = 5 ∨ q = 6) hX5 (fun _ h => .inr h) (by decide))
            have hR := hR5
            refine WL.nil ?_
            refine QF.after (hd.trans (Upd.ext hUt)) ?_
            refine WH.one 1 (by kernel_rfl) rfl ?_
            refine WL.call Tryz.call10 rfl (to6_ret la ka ta xs ig kp ru _ _ _ hR (h1.ext (hD.trans (Upd.ext hUt))) (h2.ext (hD.trans (Upd.ext hUt))) (h3.ext (hD.trans (Upd.ext hUt))) h4 (fun i hi => (h5 i hi).ext (hD.trans (Upd.ext hUt))) hfa) rfl ?_
            rintro u1 x1 ⟨rv1, rfl, r1, hE1⟩
            have hX1 := Upd.of_ext (S := fun _ => False) (fun h => h) O5 hE1
            try have k4 := BlkO.upd k4 hX1 (by decide) (fun h => h)
            try have k5 := BlkO.upd k5 hX1 (by decide) (fun h => h)
            try have r3 := RulesO.upd r3 hX1
            have hUt := hUt.trans (Upd.mono (S' := fun q => q = 5 ∨ q = 6) hX1 (fun _ h => h.elim) (by decide))
            have hR := Rng.upd hR hX1
            refine WL.nil ?_
            refine QF.after (hd.trans (Upd.ext hUt)) ?_
            refine WH.one 3 (by kernel_rfl) rfl ?_
            refine WL.call Tryz.call10 rfl (to6_ret lb kb tb ys ig' kp' ru' _ _ _ hR (h1'.ext (hD.trans (Upd.ext hUt))) (h2'.ext (hD.trans (Upd.ext hUt))) (h3'.ext (hD.trans (Upd.ext hUt))) h4' (fun i hi => (h5' i hi).ext (hD.trans (Upd.ext hUt))) hfb) rfl ?_
            rintro u3 x3 ⟨rv3, rfl, r3, hE3⟩
            have hX3 := Upd.of_ext (S := fun _ => False) (fun h => h) O5 hE3
            try have k4 := BlkO.upd k4 hX3 (by decide) (fun h => h)
            try have k5 := BlkO.upd k5 hX3 (by decide) (fun h => h)
            have r1 := RulesO.upd r1 hX3
            have hUt := hUt.trans (Upd.mono (S' := fun q => q = 5 ∨ q = 6) hX3 (fun _ h => h.elim) (by decide))
            have hR := Rng.upd hR hX3
            refine WL.nil ?_
            refine QF.after (hd.trans (Upd.ext hUt)) ?_
            refine WH.one 6 (by kernel_rfl) rfl ?_
            refine WL.storeAgg (us := #[ig, kp, rv1]) k4 rfl (Tryz.sizeOf26 _) (txt_one o1 o2 r1.one) rfl rfl rfl ?_
            have hX6 : Upd (fun q => q = 5) O5 x3 O5 (World.setRow x3 g4 #[ig, kp, rv1]) := Upd.setRow (by decide) (BlkO.tag k4) rfl
            have k4 := BlkO.setRow (us := #[ig, kp, rv1]) k4
            have k5 := BlkO.upd k5 hX6 (by decide) (by decide)
            have r1 := RulesO.upd r1 hX6
            have r3 := RulesO.upd r3 hX6
            have hUt := hUt.trans (Upd.mono (S' := fun q => q = 5 ∨ q = 6) hX6 (fun _ h => .inl h) (by decide))
            refine WL.nil ?_
            refine QF.after (hd.trans (Upd.ext hUt)) ?_
            generalize World.setRow x3 g4 #[ig, kp, rv1] = x6 at *
            refine WH.one 7 (by kernel_rfl) rfl ?_
            refine WL.storeAgg (us := #[ig', kp', rv3]) k5 rfl (Tryz.sizeOf26 _) (txt_one o1' o2' r3.one) rfl rfl rfl ?_
            have hX7 : Upd (fun q => q = 6) O5 x6 O5 (World.setRow x6 g5 #[ig', kp', rv3]) := Upd.setRow (by decide) (BlkO.tag k5) rfl
            have k5 := BlkO.setRow (us := #[ig', kp', rv3]) k5
            have k4 := BlkO.upd k4 hX7 (by decide) (by decide)
            have r1 := RulesO.upd r1 hX7
            have r3 := RulesO.upd r3 hX7
            have hUt := hUt.trans (Upd.mono (S' := fun q => q = 5 ∨ q = 6) hX7 (fun _ h => .inr h) (by decide))
            refine WL.nil ?_
            refine QF.after (hd.trans (Upd.ext hUt)) ?_
            refine WH.done (by kernel_rfl) ?_
            exact QF.of (hN ((World.setRow x6 g5 #[ig', kp', rv3], g4, g5)) (⟨hd.trans (Upd.ext hUt), rv1, rv3, O5, r1, r3, k4, k5⟩)) ⟨rfl, rfl, rfl, rfl, trivial⟩ rfl
        · skip
          refine WL.allocO hR 6 (by decide) (Tryz.zeroValue26 _) rfl ?_
          intro g5 x5 O5 k5 hX5 hR5 hE5
          try have k4 := BlkO.upd k4 hX5 (by decide) (by decide)
          try have r1 := RulesO.upd r1 hX5
          try have r3 := RulesO.upd r3 hX5
          have hUt := hUt.trans (Upd.mono (S' := fun q => q = 5 ∨ q = 6) hX5 (fun _ h => .inr h) (by decide))
          have hR := hR5
          refine WL.nil ?_
          refine QF.after (hd.trans (Upd.ext hUt)) ?_
          refine WH.two 1 4 (by kernel_rfl) rfl rfl ?_ ?_ 
          · skip
            refine WL.call Tryz.call10 rfl (to6_ret la ka ta xs ig kp ru _ _ _ hR (h1.ext (hD.trans (Upd.ext hUt))) (h2.ext (hD.trans (Upd.ext hUt))) (h3.ext (hD.trans (Upd.ext hUt))) h4 (fun i hi => (h5 i hi).ext (hD.trans (Upd.ext hUt))) hfa) rfl ?_
            rintro u1 x1 ⟨rv1, rfl, r1, hE1⟩
            have hX1 := Upd.of_ext (S := fun _ => False) (fun h => h) O5 hE1
            try have k4 := BlkO.upd k4 hX1 (by decide) (fun h => h)
            try have k5 := BlkO.upd k5 hX1 (by decide) (fun h => h)
            try have r3 := RulesO.upd r3 hX1
            have hUt := hUt.trans (Upd.mono (S' := fun q => q = 5 ∨ q = 6) hX1 (fun _ h => h.elim) (by decide))
            have hR := Rng.upd hR hX1
            refine WL.nil ?_
            refine QF.after (hd.trans (Upd.ext hUt)) ?_
            refine WH.two 3 4 (by kernel_rfl) rfl rfl ?_ ?_ 
            · skip
              refine WL.call Tryz.call10 rfl (to6_ret lb kb tb ys ig' kp' ru' _ _ _ hR (h1'.ext (hD.trans (Upd.ext hUt))) (h2'.ext (hD.trans (Upd.ext hUt))) (h3'.ext (hD.trans (Upd.ext hUt))) h4' (fun i hi => (h5' i hi).ext (hD.trans (Upd.ext hUt))) hfb) rfl ?_
              rintro u3 x3 ⟨rv3, rfl, r3, hE3⟩
              have hX3 := Upd.of_ext (S := fun _ => False) (fun h => h) O5 hE3
              try have k4 := BlkO.upd k4 hX3 (by decide) (fun h => h)
              try have k5 := BlkO.upd k5 hX3 (by decide) (fun h => h)
              have r1 := RulesO.upd r1 hX3
              have hUt := hUt.trans (Upd.mono (S' := fun q => q = 5 ∨ q = 6) hX3 (fun _ h => h.elim) (by decide))
              have hR := Rng.upd hR hX3
              refine WL.nil ?_
              refine QF.after (hd.trans (Upd.ext hUt)) ?_
              refine WH.one 4 (by kernel_rfl) rfl ?_
              refine WL.allocO hR 5 (by decide) (Tryz.zeroValue26 _) rfl ?_
              intro g4 x4 O4 k4 hX4 hR4 hE4
              try have k5 := BlkO.upd k5 hX4 (by decide) (by decide)
              try have r1 := RulesO.upd r1 hX4
              try have r3 := RulesO.upd r3 hX4
              have hUt := hUt.trans (Upd.mono (S' := fun q => q = 5 ∨ q = 6) hX4 (fun _ h => .inl h) (by decide))
              have hR := hR4
              refine WL.nil ?_
              refine QF.after (hd.trans (Upd.ext hUt)) ?_
              refine WH.one 6 (by kernel_rfl) rfl ?_
              refine WL.storeAgg (us := #[ig, kp, rv1]) k4 rfl (Tryz.sizeOf26 _) (txt_one o1 o2 r1.one) rfl rfl rfl ?_
              have hX6 : Upd (fun q => q = 5) O4 x4 O4 (World.setRow x4 g4 #[ig, kp, rv1]) := Upd.setRow (by decide) (BlkO.tag k4) rfl
              have k4 := BlkO.setRow (us := #[ig, kp, rv1]) k4
              have k5 := BlkO.upd k5 hX6 (by decide) (by decide)
              have r1 := RulesO.upd r1 hX6
              have r3 := RulesO.upd r3 hX6
              have hUt := hUt.trans (Upd.mono (S' := fun q => q = 5 ∨ q = 6) hX6 (fun _ h => .inl h) (by decide))
              refine WL.nil ?_
              refine QF.after (hd.trans (Upd.ext hUt)) ?_
              generalize World.setRow x4 g4 #[ig, kp, rv1] = x6 at *
              refine WH.one 7 (by kernel_rfl) rfl ?_
              refine WL.storeAgg (us := #[ig', kp', rv3]) k5 rfl (Tryz.sizeOf26 _) (txt_one o1' o2' r3.one) rfl rfl rfl ?_
              have hX7 : Upd (fun q => q = 6) O4 x6 O4 (World.setRow x6 g5 #[ig', kp', rv3]) := Upd.setRow (by decide) (BlkO.tag k5) rfl
              have k5 := BlkO.setRow (us := #[ig', kp', rv3]) k5
              have k4 := BlkO.upd k4 hX7 (by decide) (by decide)
              have r1 := RulesO.upd r1 hX7
              have r3 := RulesO.upd r3 hX7
              have hUt := hUt.trans (Upd.mono (S' := fun q => q = 5 ∨ q = 6) hX7 (fun _ h => .inr h) (by decide))
              refine WL.nil ?_
              refine QF.after (hd.trans (Upd.ext hUt)) ?_
              refine WH.done (by kernel_rfl) ?_
              exact QF.of (hN ((World.setRow x6 g5 #[ig', kp', rv3], g4, g5)) (⟨hd.trans (Upd.ext hUt), rv1, rv3, O4, r1, r3, k4, k5⟩)) ⟨rfl, rfl, rfl, rfl, trivial⟩ rfl
            · skip
              refine WL.allocO hR 5 (by decide) (Tryz.zeroValue26 _) rfl ?_
              intro g4 x4 O4 k4 hX4 hR4 hE4
              try have k5 := BlkO.upd k5 hX4 (by decide) (by decide)
              try have r1 := RulesO.upd r1 hX4
              try have r3 := RulesO.upd r3 hX4
              have hUt := hUt.trans (Upd.mono (S' := fun q => q = 5 ∨ q = 6) hX4 (fun _ h => .inl h) (by decide))
              have hR := hR4
              refine WL.nil ?_
              refine QF.after (hd.trans (Upd.ext hUt)) ?_
              refine WH.one 3 (by kernel_rfl) rfl ?_
              refine WL.call Tryz.call10 rfl (to6_ret lb kb tb ys ig' kp' ru' _ _ _ hR (h1'.ext (hD.trans (Upd.ext hUt))) (h2'.ext (hD.trans (Upd.ext hUt))) (h3'.ext (hD.trans (Upd.ext hUt))) h4' (fun i hi => (h5' i hi).ext (hD.trans (Upd.ext hUt))) hfb) rfl ?_
              rintro u3 x3 ⟨rv3, rfl, r3, hE3⟩
              have hX3 := Upd.of_ext (S := fun _ => False) (fun h => h) O4 hE3
              try have k4 := BlkO.upd k4 hX3 (by decide) (fun h => h)
              try have k5 := BlkO.upd k5 hX3 (by decide) (fun h => h)
              have r1 := RulesO.upd r1 hX3
              have hUt := hUt.trans (Upd.mono (S' := fun q => q = 5 ∨ q = 6) hX3 (fun _ h => h.elim) (by decide))
              have hR := Rng.upd hR hX3
              refine WL.nil ?_
              refine QF.after (hd.trans (Upd.ext hUt)) ?_
              refine WH.one 6 (by kernel_rfl) rfl ?_
              refine WL.storeAgg (us := #[ig, kp, rv1]) k4 rfl (Tryz.sizeOf26 _) (txt_one o1 o2 r1.one) rfl rfl rfl ?_
              have hX6 : Upd (fun q => q = 5) O4 x3 O4 (World.setRow x3 g4 #[ig, kp, rv1]) := Upd.setRow (by decide) (BlkO.tag k4) rfl
              have k4 := BlkO.setRow (us := #[ig, kp, rv1]) k4
              have k5 := BlkO.upd k5 hX6 (by decide) (by decide)
              have r1 := RulesO.upd r1 hX6
              have r3 := RulesO.upd r3 hX6
              have hUt := hUt.trans (Upd.mono (S' := fun q => q = 5 ∨ q = 6) hX6 (fun _ h => .inl h) (by decide))
              refine WL.nil ?_
              refine QF.after (hd.trans (Upd.ext hUt)) ?_
              generalize World.setRow x3 g4 #[ig, kp, rv1] = x6 at *
              refine WH.one 7 (by kernel_rfl) rfl ?_
              refine WL.storeAgg (us := #[ig', kp', rv3]) k5 rfl (Tryz.sizeOf26 _) (txt_one o1' o2' r3.one) rfl rfl rfl ?_
              have hX7 : Upd (fun q => q = 6) O4 x6 O4 (World.setRow x6 g5 #[ig', kp', rv3]) := Upd.setRow (by decide) (BlkO.tag k5) rfl
              have k5 := BlkO.setRow (us := #[ig', kp', rv3]) k5
              have k4 := BlkO.upd k4 hX7 (by decide) (by decide)
              have r1 := RulesO.upd r1 hX7
              have r3 := RulesO.upd r3 hX7
              have hUt := hUt.trans (Upd.mono (S' := fun q => q = 5 ∨ q = 6) hX7 (fun _ h => .inr h) (by decide))
              refine WL.nil ?_
              refine QF.after (hd.trans (Upd.ext hUt)) ?_
              refine WH.done (by kernel_rfl) ?_
              exact QF.of (hN ((World.setRow x6 g5 #[ig', kp', rv3], g4, g5)) (⟨hd.trans (Upd.ext hUt), rv1, rv3, O4, r1, r3, k4, k5⟩)) ⟨rfl, rfl, rfl, rfl, trivial⟩ rfl
          · skip
            refine WL.allocO hR 5 (by decide) (Tryz.zeroValue26 _) rfl ?_
            intro g4 x4 O4 k4 hX4 hR4 hE4
            try have k5 := BlkO.upd k5 hX4 (by decide) (by decide)
            try have r1 := RulesO.upd r1 hX4
            try have r3 := RulesO.upd r3 hX4
            have hUt := hUt.trans (Upd.mono (S' := fun q => q = 5 ∨ q = 6) hX4 (fun _ h => .inl h) (by decide))
            have hR := hR4
            refine WL.nil ?_
            refine QF.after (hd.trans (Upd.ext hUt)) ?_
            refine WH.one 1 (by kernel_rfl) rfl ?_
            refine WL.call Tryz.call10 rfl (to6_ret la ka ta xs ig kp ru _ _ _ hR (h1.ext (hD.trans (Upd.ext hUt))) (h2.ext (hD.trans (Upd.ext hUt))) (h3.ext (hD.trans (Upd.ext hUt))) h4 (fun i hi => (h5 i hi).ext (hD.trans (Upd.ext hUt))) hfa) rfl ?_
            rintro u1 x1 ⟨rv1, rfl, r1, hE1⟩
            have hX1 := Upd.of_ext (S := fun _ => False) (fun h => h) O4 hE1
            try have k4 := BlkO.upd k4 hX1 (by decide) (fun h => h)
            try have k5 := BlkO.upd k5 hX1 (by decide) (fun h => h)
            try have r3 := RulesO.upd r3 hX1
            have hUt := hUt.trans (Upd.mono (S' := fun q => q = 5 ∨ q = 6) hX1 (fun _ h => h.elim) (by decide))
            have hR := Rng.upd hR hX1
            refine WL.nil ?_
            refine QF.after (hd.trans (Upd.ext hUt)) ?_
            refine WH.one 3 (by kernel_rfl) rfl ?_
            refine WL.call Tryz.call10 rfl (to6_ret lb kb tb ys ig' kp' ru' _ _ _ hR (h1'.ext (hD.trans (Upd.ext hUt))) (h2'.ext (hD.trans (Upd.ext hUt))) (h3'.ext (hD.trans (Upd.ext hUt))) h4' (fun i hi => (h5' i hi).ext (hD.trans (Upd.ext hUt))) hfb) rfl ?_
            rintro u3 x3 ⟨rv3, rfl, r3, hE3⟩
            have hX3 := Upd.of_ext (S := fun _ => False) (fun h => h) O4 hE3
            try have k4 := BlkO.upd k4 hX3 (by decide) (fun h => h)
            try have k5 := BlkO.upd k5 hX3 (by decide) (fun h => h)
            have r1 := RulesO.upd r1 hX3
            have hUt := hUt.trans (Upd.mono (S' := fun q => q = 5 ∨ q = 6) hX3 (fun _ h => h.elim) (by decide))
            have hR := Rng.upd hR hX3
            refine WL.nil ?_
            refine QF.after (hd.trans (Upd.ext hUt)) ?_
            refine WH.one 6 (by kernel_rfl) rfl ?_
            refine WL.storeAgg (us := #[ig, kp, rv1]) k4 rfl (Tryz.sizeOf26 _) (txt_one o1 o2 r1.one) rfl rfl rfl ?_
            have hX6 : Upd (fun q => q = 5) O4 x3 O4 (World.setRow x3 g4 #[ig, kp, rv1]) := Upd.setRow (by decide) (BlkO.tag k4) rfl
            have k4 := BlkO.setRow (us := #[ig, kp, rv1]) k4
            have k5 := BlkO.upd k5 hX6 (by decide) (by decide)
            have r1 := RulesO.upd r1 hX6
            have r3 := RulesO.upd r3 hX6
            have hUt := hUt.trans (Upd.mono (S' := fun q => q = 5 ∨ q = 6) hX6 (fun _ h => .inl h) (by decide))
            refine WL.nil ?_
            refine QF.after (hd.trans (Upd.ext hUt)) ?_
            generalize World.setRow x3 g4 #[ig, kp, rv1] = x6 at *
            refine WH.one 7 (by kernel_rfl) rfl ?_
            refine WL.storeAgg (us := #[ig', kp', rv3]) k5 rfl (Tryz.sizeOf26 _) (txt_one o1' o2' r3.one) rfl rfl rfl ?_
            have hX7 : Upd (fun q => q = 6) O4 x6 O4 (World.setRow x6 g5 #[ig', kp', rv3]) := Upd.setRow (by decide) (BlkO.tag k5) rfl
            have k5 := BlkO.setRow (us := #[ig', kp', rv3]) k5
            have k4 := BlkO.upd k4 hX7 (by decide) (by decide)
            have r1 := RulesO.upd r1 hX7
            have r3 := RulesO.upd r3 hX7
            have hUt := hUt.trans (Upd.mono (S' := fun q => q = 5 ∨ q = 6) hX7 (fun _ h => .inr h) (by decide))
            refine WL.nil ?_
            refine QF.after (hd.trans (Upd.ext hUt)) ?_
            refine WH.done (by kernel_rfl) ?_
            exact QF.of (hN ((World.setRow x6 g5 #[ig', kp', rv3], g4, g5)) (⟨hd.trans (Upd.ext hUt), rv1, rv3, O4, r1, r3, k4, k5⟩)) ⟨rfl, rfl, rfl, rfl, trivial⟩ rfl
      · rintro ⟨w6, b5, b6⟩ ⟨hE56, rv1, rv3, O6, r1, r3, k4, k5⟩
        dsimp only at hE56 r1 r3 k4 k5 ⊢
        refine QF.seqNext ?_
        have hE06 := hE05.trans hE56
        have hE26 := hE25.trans hE56
        have hX : Tx w6 (txtV ig kp rv1) la ka ta := by
          obtain ⟨zs, s1, s2, s3, s4⟩ := r1
          exact ⟨ig, kp, rv1, zs, rfl, h1.ext hE06, h2.ext hE06, s1, s3, fun i hi => (s4 i hi).zero⟩
        have hY : Tx w6 (txtV ig' kp' rv3) lb kb tb := by
          obtain ⟨zs, s1, s2, s3, s4⟩ := r3
          exact ⟨ig', kp', rv3, zs, rfl, h1'.ext hE06, h2'.ext hE06, s1, s3, fun i hi => (s4 i hi).zero⟩
        have hXa : Tx w6 (txtV ig kp ru) la ka ta := hA.ext hE06
        have hYa : Tx w6 (txtV ig' kp' ru') lb kb tb := hB.ext hE06
        have bx : ∀ W, Ext w6 W → ∀ (j : Nat) (u : Value), [ig, kp, rv1][j]? = some u → W.cell? ((⟨b5, 0, none⟩ : Addr).add j) = some u := fun W hE j u hu => hE.cell (k4.cellsAdd j u hu)
        have bY : ∀ W, Ext w6 W → ∀ (j : Nat) (u : Value), [ig', kp', rv3][j]? = some u → W.cell? ((⟨b6, 0, none⟩ : Addr).add j) = some u := fun W hE j u hu => hE.cell (k5.cellsAdd j u hu)
        refine WC.seq ?_
        refine WC.seq ?_
        refine WC.quiet (Ext w6) (by kernel_rfl) (by kernel_rfl) ((Ext.refl w6).drew) ?_
        refine WQ.v (fun w1 hw1 => RV.loadAgg (us := [ig, kp, rv1]) (bx _ hw1) (Tryz.isAgg26 _) (Tryz.sizeOf26 _) rfl) rfl ?_
        refine WQ.v (fun w1 hw1 => RV.loadAgg (us := [ig', kp', rv3]) (bY _ hw1) (Tryz.isAgg26 _) (Tryz.sizeOf26 _) rfl) rfl ?_
        refine WQ.call Tryz.call15 rfl (fun w1 hw1 => (ruleSame_ret la ka lb kb ta tb _ _ _ (hX.ext hw1) (hY.ext hw1)).mono fun v w' h => ⟨h.1, hw1.trans h.2⟩) rfl ?_
        refine WQ.v (fun w1 hw1 => RV.loadAgg (us := [ig, kp, ru]) (ax _ (hE26.trans hw1)) (Tryz.isAgg34 _) (Tryz.sizeOf34 _) rfl) rfl ?_
        refine WQ.v (fun w1 hw1 => RV.loadAgg (us := [ig', kp', ru']) (ay _ (hE26.trans hw1)) (Tryz.isAgg34 _) (Tryz.sizeOf34 _) rfl) rfl ?_
        refine WQ.call Tryz.call17 rfl (fun w1 hw1 => (refSame_ret la ka lb kb ta tb _ _ _ (hXa.ext hw1) (hYa.ext hw1)).mono fun v w' h => ⟨h.1, hw1.trans h.2⟩) rfl ?_
        refine WQ.v (fun w1 hw1 => RV.neqB Tryz.underlying4 rfl rfl) rfl ?_
        refine WQ.v (fun w1 hw1 => RV.move rfl) rfl ?_
        refine WQ.know (d := 29) rfl (b' := false) (by simp) ?_
        refine WQ.on rfl ?_
        refine WQ.v (fun w1 hw1 => RV.loadAgg (us := [ig', kp', rv3]) (bY _ hw1) (Tryz.isAgg26 _) (Tryz.sizeOf26 _) rfl) rfl ?_
        refine WQ.on rfl ?_
        refine WQ.v (fun w1 hw1 => RV.loadAgg (us := [ig, kp, rv1]) (bx _ hw1) (Tryz.isAgg26 _) (Tryz.sizeOf26 _) rfl) rfl ?_
        refine WQ.on rfl ?_
        refine WQ.call Tryz.call15 rfl (fun w1 hw1 => (ruleSame_ret lb kb la ka tb ta _ _ _ (hY.ext hw1) (hX.ext hw1)).mono fun v w' h => ⟨h.1, hw1.trans h.2⟩) rfl ?_
        refine WQ.on rfl ?_
        refine WQ.v (fun w1 hw1 => RV.loadAgg (us := [ig, kp, rv1]) (bx _ hw1) (Tryz.isAgg26 _) (Tryz.sizeOf26 _) rfl) rfl ?_
        refine WQ.on rfl ?_
        refine WQ.v (fun w1 hw1 => RV.loadAgg (us := [ig', kp', rv3]) (bY _ hw1) (Tryz.isAgg26 _) (Tryz.sizeOf26 _) rfl) rfl ?_
        refine WQ.on rfl ?_
        refine WQ.call Tryz.call15 rfl (fun w1 hw1 => (ruleSame_ret la ka lb kb ta tb _ _ _ (hX.ext hw1) (hY.ext hw1)).mono fun v w' h => ⟨h.1, hw1.trans h.2⟩) rfl ?_
        refine WQ.on rfl ?_
        refine WQ.v (fun w1 hw1 => RV.neqB Tryz.underlying4 rfl rfl) rfl ?_
        refine WQ.v (fun w1 hw1 => RV.pickF rfl rfl) rfl ?_
        refine WQ.nil ?_
        intro w7 hE67
        refine QF.seqNext ?_
        refine WC.condF rfl (by simp [sameT_comm la ka lb kb ta tb]) ?_
        have hX7 := hX.ext hE67
        have hY7 := hY.ext hE67
        have hd7 : Ext w6 w7.drew := hE67.drew
        refine WC.skip ?_
        refine QF.seqNext ?_
        refine WC.seq ?_
        cases ra : rightT la ka ta with
        | false =>
          refine WC.quiet (Ext w6) (by kernel_rfl) (by kernel_rfl) (hd7) ?_
          refine WQ.v (fun w1 hw1 => RV.loadAgg (us := [ig, kp, rv1]) (bx _ hw1) (Tryz.isAgg26 _) (Tryz.sizeOf26 _) rfl) rfl ?_
          refine WQ.call Tryz.call13 rfl (fun w1 hw1 => (tright_ret la ka ta _ _ (hX.ext hw1)).mono fun v w' h => ⟨h.1, hw1.trans h.2⟩) rfl ?_
          refine WQ.v (fun w1 hw1 => RV.not rfl) rfl ?_
          refine WQ.v (fun w1 hw1 => RV.move rfl) rfl ?_
          refine WQ.know (d := 41) rfl (b' := true) (by rw [ra]; rfl) ?_
          refine WQ.off rfl rfl rfl ?_
          refine WQ.off rfl rfl rfl ?_
          refine WQ.off rfl rfl rfl ?_
          refine WQ.v (fun w1 hw1 => RV.pickT rfl rfl) rfl ?_
          refine WQ.v (fun w1 hw1 => RV.move rfl) rfl ?_
          refine WQ.off rfl rfl rfl ?_
          refine WQ.off rfl rfl rfl ?_
          refine WQ.off rfl rfl rfl ?_
          refine WQ.off rfl rfl rfl ?_
          refine WQ.off rfl rfl rfl ?_
          refine WQ.off rfl rfl rfl ?_
          refine WQ.off rfl rfl rfl ?_
          refine WQ.off rfl rfl rfl ?_
          refine WQ.off rfl rfl rfl ?_
          refine WQ.v (fun w1 hw1 => RV.pickT rfl rfl) rfl ?_
          refine WQ.v (fun w1 hw1 => RV.assign rfl) rfl ?_
          refine WQ.nil ?_
          intro w8 hE68
          refine QF.seqNext ?_
          refine WC.ret ?_
          refine QF.done1 rfl rfl (⟨rfl, hE06.trans hE68⟩)
        | true =>
          cases rb : rightT lb kb tb with
          | false =>
            refine WC.quiet (Ext w6) (by kernel_rfl) (by kernel_rfl) (hd7) ?_
            refine WQ.v (fun w1 hw1 => RV.loadAgg (us := [ig, kp, rv1]) (bx _ hw1) (Tryz.isAgg26 _) (Tryz.sizeOf26 _) rfl) rfl ?_
            refine WQ.call Tryz.call13 rfl (fun w1 hw1 => (tright_ret la ka ta _ _ (hX.ext hw1)).mono fun v w' h => ⟨h.1, hw1.trans h.2⟩) rfl ?_
            refine WQ.v (fun w1 hw1 => RV.not rfl) rfl ?_
            refine WQ.v (fun w1 hw1 => RV.move rfl) rfl ?_
            refine WQ.know (d := 41) rfl (b' := false) (by rw [ra]; rfl) ?_
            refine WQ.on rfl ?_
            refine WQ.v (fun w1 hw1 => RV.loadAgg (us := [ig', kp', rv3]) (bY _ hw1) (Tryz.isAgg26 _) (Tryz.sizeOf26 _) rfl) rfl ?_
            refine WQ.on rfl ?_
            refine WQ.call Tryz.call13 rfl (fun w1 hw1 => (tright_ret lb kb tb _ _ (hY.ext hw1)).mono fun v w' h => ⟨h.1, hw1.trans h.2⟩) rfl ?_
            refine WQ.on rfl ?_
            refine WQ.v (fun w1 hw1 => RV.not rfl) rfl ?_
            refine WQ.v (fun w1 hw1 => RV.pickF rfl rfl) rfl ?_
            refine WQ.v (fun w1 hw1 => RV.move rfl) rfl ?_
            refine WQ.know (d := 46) rfl (b' := true) (by rw [rb]; rfl) ?_
            refine WQ.off rfl rfl rfl ?_
            refine WQ.off rfl rfl rfl ?_
            refine WQ.off rfl rfl rfl ?_
            refine WQ.off rfl rfl rfl ?_
            refine WQ.off rfl rfl rfl ?_
            refine WQ.off rfl rfl rfl ?_
            refine WQ.off rfl rfl rfl ?_
            refine WQ.off rfl rfl rfl ?_
            refine WQ.off rfl rfl rfl ?_
            refine WQ.v (fun w1 hw1 => RV.pickT rfl rfl) rfl ?_
            refine WQ.v (fun w1 hw1 => RV.assign rfl) rfl ?_
            refine WQ.nil ?_
            intro w8 hE68
            refine QF.seqNext ?_
            refine WC.ret ?_
            refine QF.done1 rfl rfl (⟨rfl, hE06.trans hE68⟩)
          | true =>
            have hpp : ((printT la ka ta == printT lb kb tb) == sameT la ka ta lb kb tb) = true := by
              cases hs : sameT la ka ta lb kb tb with
              | true =>
                obtain ⟨⟨rfl, rfl⟩, rfl⟩ := sameT_iff.1 hs
                simp
              | false =>
                rw [beq_iff_eq, beq_eq_false_iff_ne]
                intro e
                have := sameT_iff.2 (hinj la ka lb kb ta tb ra rb e)
                rw [hs] at this; cases this
            refine WC.quiet (Ext w6) (by kernel_rfl) (by kernel_rfl) (hd7) ?_
            refine WQ.v (fun w1 hw1 => RV.loadAgg (us := [ig, kp, rv1]) (bx _ hw1) (Tryz.isAgg26 _) (Tryz.sizeOf26 _) rfl) rfl ?_
            refine WQ.call Tryz.call13 rfl (fun w1 hw1 => (tright_ret la ka ta _ _ (hX.ext hw1)).mono fun v w' h => ⟨h.1, hw1.trans h.2⟩) rfl ?_
            refine WQ.v (fun w1 hw1 => RV.not rfl) rfl ?_
            refine WQ.v (fun w1 hw1 => RV.move rfl) rfl ?_
            refine WQ.know (d := 41) rfl (b' := false) (by rw [ra]; rfl) ?_
            refine WQ.on rfl ?_
            refine WQ.v (fun w1 hw1 => RV.loadAgg (us := [ig', kp', rv3]) (bY _ hw1) (Tryz.isAgg26 _) (Tryz.sizeOf26 _) rfl) rfl ?_
            refine WQ.on rfl ?_
            refine WQ.call Tryz.call13 rfl (fun w1 hw1 => (tright_ret lb kb tb _ _ (hY.ext hw1)).mono fun v w' h => ⟨h.1, hw1.trans h.2⟩) rfl ?_
            refine WQ.on rfl ?_
            refine WQ.v (fun w1 hw1 => RV.not rfl) rfl ?_
            refine WQ.v (fun w1 hw1 => RV.pickF rfl rfl) rfl ?_
            refine WQ.v (fun w1 hw1 => RV.move rfl) rfl ?_
            refine WQ.know (d := 46) rfl (b' := false) (by rw [rb]; rfl) ?_
            refine WQ.on rfl ?_
            refine WQ.v (fun w1 hw1 => RV.loadAgg (us := [ig, kp, rv1]) (bx _ hw1) (Tryz.isAgg26 _) (Tryz.sizeOf26 _) rfl) rfl ?_
            refine WQ.on rfl ?_
            refine WQ.call Tryz.call11 rfl (fun w1 hw1 => (tprint_ret la ka ta _ _ (hX.ext hw1) hfa).mono fun v w' h => ⟨h.1, hw1.trans h.2⟩) rfl ?_
            refine WQ.on rfl ?_
            refine WQ.v (fun w1 hw1 => RV.loadAgg (us := [ig', kp', rv3]) (bY _ hw1) (Tryz.isAgg26 _) (Tryz.sizeOf26 _) rfl) rfl ?_
            refine WQ.on rfl ?_
            refine WQ.call Tryz.call11 rfl (fun w1 hw1 => (tprint_ret lb kb tb _ _ (hY.ext hw1) hfb).mono fun v w' h => ⟨h.1, hw1.trans h.2⟩) rfl ?_
            refine WQ.on rfl ?_
            refine WQ.v (fun w1 hw1 => RV.eqlS rfl rfl) rfl ?_
            refine WQ.on rfl ?_
            refine WQ.v (fun w1 hw1 => RV.loadAgg (us := [ig, kp, rv1]) (bx _ hw1) (Tryz.isAgg26 _) (Tryz.sizeOf26 _) rfl) rfl ?_
            refine WQ.on rfl ?_
            refine WQ.v (fun w1 hw1 => RV.loadAgg (us := [ig', kp', rv3]) (bY _ hw1) (Tryz.isAgg26 _) (Tryz.sizeOf26 _) rfl) rfl ?_
            refine WQ.on rfl ?_
            refine WQ.call Tryz.call15 rfl (fun w1 hw1 => (ruleSame_ret la ka lb kb ta tb _ _ _ (hX.ext hw1) (hY.ext hw1)).mono fun v w' h => ⟨h.1, hw1.trans h.2⟩) rfl ?_
            refine WQ.on rfl ?_
            refine WQ.v (fun w1 hw1 => RV.eqlB Tryz.underlying4 rfl rfl) rfl ?_
            refine WQ.v (fun w1 hw1 => RV.pickF rfl rfl) rfl ?_
            refine WQ.v (fun w1 hw1 => RV.assign rfl) rfl ?_
            refine WQ.nil ?_
            intro w8 hE68
            refine QF.seqNext ?_
            refine WC.ret ?_
            refine QF.done1 rfl rfl (⟨by rw [hpp], hE06.trans hE68⟩)
end Go.Proofs.YtmohcfjopaccdaaGreatDoor
