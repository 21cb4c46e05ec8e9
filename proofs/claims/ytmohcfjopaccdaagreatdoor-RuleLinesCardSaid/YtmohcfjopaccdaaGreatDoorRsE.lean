/- Package virgulelaw06, walked: To. -/
import Derived.Test.YtmohcfjopaccdaaGreatDoorRsD
namespace Go.Proofs.YtmohcfjopaccdaaGreatDoor
open Go.VL Go.Proofs
set_option maxRecDepth 10000

/-- Rules in memory that nobody owns. -/
def RulesO (O : Nat → Nat) (w : World) (rv : Value) (ts : List R3) : Prop := ∃ zs, Sl encR 7 w rv zs ∧ Free O w rv ∧ ts.length = zs.length ∧ ∀ i, i < zs.length → Rt O w (nth ts i) (nth zs i)
theorem RulesO.upd {S : Nat → Prop} {O O' : Nat → Nat} {w w' : World} {rv : Value} {ts : List R3} (h : RulesO O w rv ts) (u : Upd S O w O' w') : RulesO O' w' rv ts := by
  obtain ⟨zs, h1, h2, h3, h4⟩ := h
  exact ⟨zs, h1.upd h2 u, h2.upd u, h3, fun i hi => (h4 i hi).upd u⟩
theorem RulesO.one {O : Nat → Nat} {w : World} {rv : Value} {ts : List R3} (h : RulesO O w rv ts) : rv.oneCell' = true := by
  obtain ⟨zs, h1, _⟩ := h; exact h1.one
theorem to6_ret (li lk : List Int) (ts : List R3) (xs : List X3) (ig kp ru : Value) (B : Nat) (O : Nat → Nat) (w : World) (hR0 : Rng B O w) (h1 : Sl encI 1 w ig li) (h2 : Sl encI 1 w kp lk) (h3 : Sl encR 7 w ru xs) (h4 : ts.length = xs.length) (h5 : ∀ i, i < xs.length → Rt (fun _ => 0) w (nth ts i) (nth xs i)) (hf : Few li lk ts) : Ret Tryz.prog 10 [txtV ig kp ru] w fun u w' => ∃ rv, u = txtV ig kp rv ∧ RulesO O w' rv ts ∧ Ext w w' := by
  obtain ⟨f1, f2, f3, f4⟩ := hf
  have o1 := h1.one
  have o2 := h2.one
  have o3 := h3.one
  obtain ⟨T, hT0, hT⟩ := hR0.bound
  have hTT : ∀ b, ¬ T ≤ O b := fun b => by have := hT b; omega
  have hzz : ¬ (fun q : Nat => T ≤ q) 0 := fun e => by omega
  refine Ret.enter Tryz.func10 Tryz.ntmps10 rfl rfl ?_
  refine WC.seq ?_
  refine WC.region ?_
  refine WL.boxO hR0 T (by omega) rfl rfl ?_
  intro nb w1 O1 hn1 hU1 hR1 hE1
  refine WL.allocO hR1 (T + 1) (by omega) (Tryz.zeroValue26 _) rfl ?_
  intro xb w2 O2 hx2 hU2 hR2 hE2
  have hn2 := hn1.upd hU2 (by omega) (by omega)
  have n0 : w2.cell? ((⟨nb, 0, none⟩ : Addr).add 0) = some ig := hn2.cell 0 rfl
  have n1 : w2.cell? ((⟨nb, 0, none⟩ : Addr).add 1) = some kp := hn2.cell 1 rfl
  refine WL.nil ?_
  refine QF.seqNext ?_
  refine WC.seq ?_
  refine WC.region ?_
  refine WL.v (RV.fieldAddr 0 Tryz.underlying34 rfl rfl (Tryz.sizeOf23 _) (by decide) rfl) rfl ?_
  refine WL.v (RV.load (by first | exact n0 | exact n1) (Tryz.isAgg23 _) rfl) rfl ?_
  refine WL.v (RV.fieldAddr 1 Tryz.underlying34 rfl rfl (Tryz.sizeOf23 _) (by decide) rfl) rfl ?_
  refine WL.v (RV.load (by first | exact n0 | exact n1) (Tryz.isAgg23 _) rfl) rfl ?_
  refine WL.v (RV.buildF pl26 (Tryz.zeroValue26 _) rfl (by simp only [List.all_cons, o1, o2]; rfl) rfl rfl) rfl ?_
  refine WL.allocO hR2 (T + 2) (by omega) (Tryz.zeroValue26 _) rfl ?_
  intro ob w3 O3 ho3 hU3 hR3 hE3
  refine WL.storeAgg (us := #[ig, kp, .slice none 0 0]) ho3 rfl (Tryz.sizeOf26 _) (by simp only [List.all_cons, o1, o2]; rfl) rfl rfl rfl ?_
  have ho4 := ho3.setRow (us := #[ig, kp, .slice none 0 0])
  have hU4 : Upd (fun q => q = T + 2) O3 w3 O3 (w3.setRow ob #[ig, kp, .slice none 0 0]) := Upd.setRow (by omega) ho3.tag rfl
  have hU34 := hU3.trans hU4
  have hR4 := hR3.upd hU4
  have hn4 := hn2.upd hU34 (by omega) (by omega)
  have hx4 := hx2.upd hU34 (by omega) (by omega)
  have hUt4 : Upd (fun q => T ≤ q) O w O3 _ := ((hU1.mono (fun _ h => by rw [h]; omega) hzz).trans (hU2.mono (fun _ h => by rw [h]; omega) hzz)).trans (hU34.mono (fun _ h => by rw [h]; omega) hzz)
  generalize w3.setRow ob #[ig, kp, .slice none 0 0] = w4 at *
  refine WL.nil ?_
  refine QF.seqNext ?_
  refine WC.seq ?_
  refine WC.seq ?_
  refine WC.region ?_
  refine WL.v (RV.assign rfl) rfl ?_
  refine WL.nil ?_
  refine QF.seqNext ?_
  refine WC.block ?_
  refine WC.loop (fun y : Nat × (Nat → Nat) × World × Value × List X3 => [(1, .pointer (some ⟨nb, 0, none⟩)), (2, .pointer (some ⟨xb, 0, none⟩)), (3, .pointer (some ⟨ob, 0, none⟩)), (4, .int .i64 y.1)]) (fun y : Nat × (Nat → Nat) × World × Value × List X3 => y.2.2.1) (fun y : Nat × (Nat → Nat) × World × Value × List X3 => y.1 ≤ xs.length ∧ BlkO y.2.1 y.2.2.1 T nb #[ig, kp, ru] 34 ∧ BlkO y.2.1 y.2.2.1 (T + 1) xb #[.slice none 0 0, .slice none 0 0, .slice none 0 0] 26 ∧ BlkO y.2.1 y.2.2.1 (T + 2) ob #[ig, kp, y.2.2.2.1] 26 ∧ RowT encR 50 7 y.2.1 y.2.2.1 (T + 3) y.2.2.2.1 y.2.2.2.2 ∧ y.2.2.2.2.length = y.1 ∧ (∀ m, m < y.1 → Rt y.2.1 y.2.2.1 (nth ts m) (nth y.2.2.2.2 m)) ∧ Upd (fun q => T ≤ q) O w y.2.1 y.2.2.1 ∧ Rng B y.2.1 y.2.2.1) (fun y : Nat × (Nat → Nat) × World × Value × List X3 => xs.length - y.1) (0, O3, w4, .slice none 0 0, []) (⟨Nat.zero_le _, hn4, hx4, ho4, RowT.nil _ _ _ _ _ _, rfl, fun m hm => absurd hm (Nat.not_lt_zero m), hUt4, hR4⟩) ⟨rfl, rfl, rfl, rfl, trivial⟩ rfl ?_
  rintro ⟨i, O1, w1', lv, zs⟩ ⟨hi, hn1', hx1', ho1', hrow1, hzl, hzn, hUt1, hR1'⟩
  dsimp only at hi hn1' hx1' ho1' hrow1 hzl hzn hUt1 hR1' ⊢
  have hE1' := Upd.noneE hUt1 hTT
  have hs1 := h3.ext hE1'
  have c2 : w1'.cell? ((⟨nb, 0, none⟩ : Addr).add 2) = some ru := hn1'.cell 2 rfl
  refine WC.seq ?_
  refine WC.seq ?_
  refine WC.region ?_
  refine WL.v (RV.move rfl) rfl ?_
  refine WL.v (RV.fieldAddr 2 Tryz.underlying34 rfl rfl (Tryz.sizeOf32 _) (by decide) rfl) rfl ?_
  refine WL.v (RV.load (by first | exact c2) (Tryz.isAgg32 _) rfl) rfl ?_
  refine WL.v (RV.len (by first | exact hs1) Tryz.underlying32 rfl) rfl ?_
  refine WL.v (RV.lss rfl rfl) rfl ?_
  refine WL.nil ?_
  refine QF.seqNext ?_
  refine WC.cond rfl ?_ ?_
  · intro hlt
    replace hlt : i < xs.length := by have := of_decide_eq_true hlt; omega
    obtain ⟨z1, z2⟩ := f4 i (by omega)
    have hnD := hn1'.drew
    have hxD := hx1'.drew
    have hoD := ho1'.drew
    have hrowD := hrow1.drew
    have hRD := hR1'.drew
    have hznD : ∀ m, m < i → Rt O1 w1'.drew (nth ts m) (nth zs m) := fun m hm => (hzn m hm).ext (Ext.refl w1').drew
    have hUtD := hUt1.drew
    have hED := Upd.noneE hUtD hTT
    have hSD := And.intro (hnD.cell 2 rfl) hED
    have hlc : ∀ W, Ext w W → ∀ (j : Nat) (u : Value), (encN (nth xs i).1)[j]? = some u → W.cell? (((adr ru 7 i).add 0).add j) = some u := fun W hE j u hu => by
      have e : (((adr ru 7 i).add 0).add j) = (adr ru 7 i).add j := by rw [Addr.add_add, Nat.zero_add]
      rw [e]
      refine hE.cell (h3.cell hlt ?_)
      simp only [encN] at hu
      match j, hu with
      | 0, hu => exact hu
      | 1, hu => exact hu
      | 2, hu => exact hu
    have hrc : ∀ W, Ext w W → ∀ (j : Nat) (u : Value), (encN (nth xs i).2.1)[j]? = some u → W.cell? (((adr ru 7 i).add 3).add j) = some u := fun W hE j u hu => by
      have e : (((adr ru 7 i).add 3).add j) = (adr ru 7 i).add (3 + j) := by rw [Addr.add_add]
      rw [e]
      refine hE.cell (h3.cell hlt ?_)
      simp only [encN] at hu
      match j, hu with
      | 0, hu => exact hu
      | 1, hu => exact hu
      | 2, hu => exact hu
    obtain ⟨brk, hbk⟩ : ∃ b, b = (nth xs i).2.2 := ⟨_, rfl⟩
    have hbc : ∀ W, Ext w W → W.cell? ((adr ru 7 i).add 6) = some (.bool brk) := fun W hE => by rw [hbk]; exact hE.cell (h3.cell hlt rfl)
    refine WC.skip ?_
    refine QF.seqNext ?_
    refine WC.seq ?_
    refine WC.block ?_
    refine WC.draw (fun W => W.cell? ⟨nb, 2, none⟩ = some ru ∧ Ext w W) 27 rfl (by kernel_rfl) ?_
    refine WH.take 0 rfl (by kernel_rfl) (by kernel_rfl) (by kernel_rfl) hSD (fun w1 hw1 => RV.fieldAddr 2 Tryz.underlying26 rfl rfl (Tryz.sizeOf24 _) (by decide) rfl) rfl ?_
    refine WH.take 2 rfl (by kernel_rfl) (by kernel_rfl) (by kernel_rfl) hSD (fun w1 hw1 => RV.fieldAddr 2 Tryz.underlying34 rfl rfl (Tryz.sizeOf32 _) (by decide) rfl) rfl ?_
    refine WH.take 3 rfl (by kernel_rfl) (by kernel_rfl) (by kernel_rfl) hSD (fun w1 hw1 => RV.load (by first | exact hw1.1 | exact hbc _ hw1.2) (Tryz.isAgg32 _) rfl) rfl ?_
    refine WH.take 4 rfl (by kernel_rfl) (by kernel_rfl) (by kernel_rfl) hSD (fun w1 hw1 => RV.move rfl) rfl ?_
    refine WH.take 5 rfl (by kernel_rfl) (by kernel_rfl) (by kernel_rfl) hSD (fun w1 hw1 => RV.indexAddr (h3.ext hw1.2) Tryz.underlying32 (Tryz.sizeOf64 _) rfl rfl i rfl hlt) rfl ?_
    refine WH.take 6 rfl (by kernel_rfl) (by kernel_rfl) (by kernel_rfl) hSD (fun w1 hw1 => RV.fieldAddr 0 Tryz.underlying64 rfl rfl (Tryz.sizeOf62 _) (by decide) rfl) rfl ?_
    refine WH.take 7 rfl (by kernel_rfl) (by kernel_rfl) (by kernel_rfl) hSD (fun w1 hw1 => RV.loadAgg (us := encN (nth xs i).1) (hlc _ hw1.2) (Tryz.isAgg62 _) (Tryz.sizeOf62 _) rfl) rfl ?_
    refine WH.take 9 rfl (by kernel_rfl) (by kernel_rfl) (by kernel_rfl) hSD (fun w1 hw1 => RV.fieldAddr 2 Tryz.underlying34 rfl rfl (Tryz.sizeOf32 _) (by decide) rfl) rfl ?_
    refine WH.take 10 rfl (by kernel_rfl) (by kernel_rfl) (by kernel_rfl) hSD (fun w1 hw1 => RV.load (by first | exact hw1.1 | exact hbc _ hw1.2) (Tryz.isAgg32 _) rfl) rfl ?_
    refine WH.take 11 rfl (by kernel_rfl) (by kernel_rfl) (by kernel_rfl) hSD (fun w1 hw1 => RV.move rfl) rfl ?_
    refine WH.take 12 rfl (by kernel_rfl) (by kernel_rfl) (by kernel_rfl) hSD (fun w1 hw1 => RV.indexAddr (h3.ext hw1.2) Tryz.underlying32 (Tryz.sizeOf64 _) rfl rfl i rfl hlt) rfl ?_
    refine WH.take 13 rfl (by kernel_rfl) (by kernel_rfl) (by kernel_rfl) hSD (fun w1 hw1 => RV.fieldAddr 3 Tryz.underlying64 rfl rfl (Tryz.sizeOf62 _) (by decide) rfl) rfl ?_
    refine WH.take 14 rfl (by kernel_rfl) (by kernel_rfl) (by kernel_rfl) hSD (fun w1 hw1 => RV.loadAgg (us := encN (nth xs i).2.1) (hrc _ hw1.2) (Tryz.isAgg62 _) (Tryz.sizeOf62 _) rfl) rfl ?_
    refine WH.take 16 rfl (by kernel_rfl) (by kernel_rfl) (by kernel_rfl) hSD (fun w1 hw1 => RV.fieldAddr 2 Tryz.underlying34 rfl rfl (Tryz.sizeOf32 _) (by decide) rfl) rfl ?_
    refine WH.take 17 rfl (by kernel_rfl) (by kernel_rfl) (by kernel_rfl) hSD (fun w1 hw1 => RV.load (by first | exact hw1.1 | exact hbc _ hw1.2) (Tryz.isAgg32 _) rfl) rfl ?_
    refine WH.take 18 rfl (by kernel_rfl) (by kernel_rfl) (by kernel_rfl) hSD (fun w1 hw1 => RV.move rfl) rfl ?_
    refine WH.take 19 rfl (by kernel_rfl) (by kernel_rfl) (by kernel_rfl) hSD (fun w1 hw1 => RV.indexAddr (h3.ext hw1.2) Tryz.underlying32 (Tryz.sizeOf64 _) rfl rfl i rfl hlt) rfl ?_
    refine WH.take 20 rfl (by kernel_rfl) (by kernel_rfl) (by kernel_rfl) hSD (fun w1 hw1 => RV.fieldAddr 6 Tryz.underlying64 rfl rfl (Tryz.sizeOf4 _) (by decide) rfl) rfl ?_
    refine WH.take 21 rfl (by kernel_rfl) (by kernel_rfl) (by kernel_rfl) hSD (fun w1 hw1 => RV.load (by first | exact hw1.1 | exact hbc _ hw1.2) (Tryz.isAgg4 _) rfl) rfl ?_
    generalize w1'.drew = wD at *
    refine WH.two 1 8 (by kernel_rfl) rfl rfl ?_ ?_
    · skip
      refine WL.v (RV.load (hoD.cell 2 rfl) (Tryz.isAgg24 _) rfl) rfl ?_
      refine WL.nil ?_
      refine QF.after hSD ?_
      refine WH.one 8 (by kernel_rfl) rfl ?_
      refine WL.call Tryz.call21 rfl (to5_ret 1000000 (Nat.le_refl _) (nth ts i).1 (by omega) B O1 (nth xs i).1 wD hRD ((h5 i hlt).1.ext hED)) rfl ?_
      rintro v5 w5 ⟨y1, rfl, hy5, hE5⟩
      have hX5 : Upd (fun _ => False) O1 wD O1 w5 := Upd.of_ext (fun h => h) O1 hE5
      have hn5 := hnD.upd hX5 (by omega) (fun h => h)
      have hx5 := hxD.upd hX5 (by omega) (fun h => h)
      have ho5 := hoD.upd hX5 (by omega) (fun h => h)
      have hrow5 := hrowD.upd hX5 (by omega) (fun h => h)
      have hR5 := hRD.upd hX5
      have hzn5 : ∀ m, m < i → Rt O1 w5 (nth ts m) (nth zs m) := fun m hm => (hznD m hm).upd hX5
      have hUt5 := hUtD.trans (hX5.mono (fun _ h => h.elim) hzz)
      have hS5 := And.intro (hn5.cell 2 rfl) (Upd.noneE hUt5 hTT)
      refine WL.nil ?_
      refine QF.after hS5 ?_
      refine WH.one 15 (by kernel_rfl) rfl ?_
      refine WL.call Tryz.call21 rfl (to5_ret 1000000 (Nat.le_refl _) (nth ts i).2.1 (by omega) B O1 (nth xs i).2.1 w5 hR5 ((h5 i hlt).2.1.ext hS5.2)) rfl ?_
      rintro v6 w6 ⟨y2, rfl, hy6, hE6⟩
      have hy16 := hy5.upd (Upd.of_ext (S := fun _ => False) (fun h => h) O1 hE6)
      have hX6 : Upd (fun _ => False) O1 w5 O1 w6 := Upd.of_ext (fun h => h) O1 hE6
      have hn6 := hn5.upd hX6 (by omega) (fun h => h)
      have hx6 := hx5.upd hX6 (by omega) (fun h => h)
      have ho6 := ho5.upd hX6 (by omega) (fun h => h)
      have hrow6 := hrow5.upd hX6 (by omega) (fun h => h)
      have hR6 := hR5.upd hX6
      have hzn6 : ∀ m, m < i → Rt O1 w6 (nth ts m) (nth zs m) := fun m hm => (hzn5 m hm).upd hX6
      have hUt6 := hUt5.trans (hX6.mono (fun _ h => h.elim) hzz)
      have hS6 := And.intro (hn6.cell 2 rfl) (Upd.noneE hUt6 hTT)
      refine WL.nil ?_
      refine QF.after hS6 ?_
      refine WH.take 22 rfl (by kernel_rfl) (by kernel_rfl) (by kernel_rfl) hS6 (fun w1 hw1 => RV.build (vs := [(0, nv y1), (1, nv y2), (2, .bool brk)]) (cells := (encR (y1, y2, brk)).toArray) pl50 (Tryz.zeroValue50 _) rfl (by kernel_rfl)) rfl ?_
      refine WH.one 23 (by kernel_rfl) rfl ?_
      refine WL.buildOne2 elR (enc := encR) (y1, y2, brk) rfl rfl rfl (by decide) rfl ?_
      intro w7 h7 hE7
      have hy17 := hy16.upd (Upd.of_ext (S := fun _ => False) (fun h => h) O1 hE7)
      have hy27 := hy6.upd (Upd.of_ext (S := fun _ => False) (fun h => h) O1 hE7)
      have hX7 : Upd (fun _ => False) O1 w6 O1 w7 := Upd.of_ext (fun h => h) O1 hE7
      have hn7 := hn6.upd hX7 (by omega) (fun h => h)
      have hx7 := hx6.upd hX7 (by omega) (fun h => h)
      have ho7 := ho6.upd hX7 (by omega) (fun h => h)
      have hrow7 := hrow6.upd hX7 (by omega) (fun h => h)
      have hR7 := hR6.upd hX7
      have hzn7 : ∀ m, m < i → Rt O1 w7 (nth ts m) (nth zs m) := fun m hm => (hzn6 m hm).upd hX7
      have hUt7 := hUt6.trans (hX7.mono (fun _ h => h.elim) hzz)
      have hS7 := And.intro (hn7.cell 2 rfl) (Upd.noneE hUt7 hTT)
      refine WL.nil ?_
      refine QF.after hS7 ?_
      have hone7 : ∀ u ∈ [((y1, y2, brk) : X3)], ∀ c ∈ encR u, c.oneCell' = true := fun u hu => by
        rw [List.mem_singleton.1 hu]; exact encR_ones hy17.one hy27.one
      refine WH.one 24 (by kernel_rfl) rfl ?_
      refine WL.appendSl elR hrow7 hR7 h7 (by simp) rfl rfl (fun _ _ => rfl) hone7 (by simp; omega) (by simp; omega) (by omega) rfl ?_
      intro lv8 w8 O8 hrow8 hU8 hR8
      have hs8 := hrow8.one
      have hn8 := BlkO.upd hn7 hU8 (by omega) (by omega)
      have ho8 := BlkO.upd ho7 hU8 (by omega) (by omega)
      have hx8 := BlkO.upd hx7 hU8 (by omega) (by omega)
      have hUt8 := hUt7.trans (hU8.mono (fun _ h => by rw [h]; omega) hzz)
      have hS8 := And.intro (hn8.cell 2 rfl) (Upd.noneE hUt8 hTT)
      refine WL.nil ?_
      refine QF.after hS8 ?_
      refine WH.take 25 rfl (by kernel_rfl) (by kernel_rfl) (by kernel_rfl) hS8 (fun w1 hw1 => RV.fieldAddr 2 Tryz.underlying26 rfl rfl (Tryz.sizeOf24 _) (by decide) rfl) rfl ?_
      refine WH.one 26 (by kernel_rfl) rfl ?_
      refine WL.storeBlk (j := 2) ho8 rfl (Tryz.sizeOf24 _) hs8 rfl rfl rfl ?_
      have ho9 : BlkO O8 (w8.setCell ⟨ob, 2, none⟩ lv8) (T + 2) ob #[ig, kp, lv8] 26 := ho8.set 2 lv8
      have hU9 : Upd (fun q => q = T + 2) O8 w8 O8 (w8.setCell ⟨ob, 2, none⟩ lv8) := Upd.set (by omega) ho8.tag rfl
      have hn9 := hn8.upd hU9 (by omega) (by omega)
      have hUt9 := hUt8.trans (hU9.mono (fun _ h => by rw [h]; omega) hzz)
      have hS9 := And.intro (hn9.cell 2 rfl) (Upd.noneE hUt9 hTT)
      refine WL.nil ?_
      refine QF.after hS9 ?_
      refine WH.done (by kernel_rfl) ?_
      refine QF.blockNormal ?_
      refine QF.seqNext ?_
      refine WC.region ?_
      refine WL.v (RV.move rfl) rfl ?_
      refine WL.v (RV.add rfl rfl (Fit.i64 (by omega))) rfl ?_
      refine WL.v (RV.assign rfl) rfl ?_
      refine WL.nil ?_
      refine QF.next ((i + 1, O8, (w8.setCell ⟨ob, 2, none⟩ lv8), lv8, zs ++ [((y1, y2, brk) : X3)])) (⟨hlt, hn9, hx8.upd hU9 (by omega) (by omega), ho9, hrow8.upd hU9 (by omega) (by omega), by simp [hzl], fun m hm => ?_, hUt9, hR8.upd hU9⟩) (by dsimp only; omega) ⟨rfl, rfl, rfl, rfl, trivial⟩ rfl
      dsimp only at hm ⊢
      by_cases e : m < i
      · rw [nth_eq (xs := zs ++ [((y1, y2, brk) : X3)]) (by simp; omega), List.getElem_append_left (by omega), ← nth_eq (by omega)]
        exact ((hzn7 m e).upd hU8).upd hU9
      · obtain rfl : m = zs.length := by omega
        rw [nth_eq (xs := zs ++ [((y1, y2, brk) : X3)]) (by simp), List.getElem_append_right (by omega)]
        simp only [Nat.sub_self, List.getElem_cons_zero]
        rw [hzl]
        exact ⟨(hy17.upd hU8).upd hU9, (hy27.upd hU8).upd hU9, hbk.trans (h5 i hlt).2.2⟩
    · skip
      refine WL.call Tryz.call21 rfl (to5_ret 1000000 (Nat.le_refl _) (nth ts i).1 (by omega) B O1 (nth xs i).1 wD hRD ((h5 i hlt).1.ext hED)) rfl ?_
      rintro v5 w5 ⟨y1, rfl, hy5, hE5⟩
      have hX5 : Upd (fun _ => False) O1 wD O1 w5 := Upd.of_ext (fun h => h) O1 hE5
      have hn5 := hnD.upd hX5 (by omega) (fun h => h)
      have hx5 := hxD.upd hX5 (by omega) (fun h => h)
      have ho5 := hoD.upd hX5 (by omega) (fun h => h)
      have hrow5 := hrowD.upd hX5 (by omega) (fun h => h)
      have hR5 := hRD.upd hX5
      have hzn5 : ∀ m, m < i → Rt O1 w5 (nth ts m) (nth zs m) := fun m hm => (hznD m hm).upd hX5
      have hUt5 := hUtD.trans (hX5.mono (fun _ h => h.elim) hzz)
      have hS5 := And.intro (hn5.cell 2 rfl) (Upd.noneE hUt5 hTT)
      refine WL.nil ?_
      refine QF.after hS5 ?_
      refine WH.two 1 15 (by kernel_rfl) rfl rfl ?_ ?_
      · skip
        refine WL.v (RV.load (ho5.cell 2 rfl) (Tryz.isAgg24 _) rfl) rfl ?_
        refine WL.nil ?_
        refine QF.after hS5 ?_
        refine WH.one 15 (by kernel_rfl) rfl ?_
        refine WL.call Tryz.call21 rfl (to5_ret 1000000 (Nat.le_refl _) (nth ts i).2.1 (by omega) B O1 (nth xs i).2.1 w5 hR5 ((h5 i hlt).2.1.ext hS5.2)) rfl ?_
        rintro v6 w6 ⟨y2, rfl, hy6, hE6⟩
        have hy16 := hy5.upd (Upd.of_ext (S := fun _ => False) (fun h => h) O1 hE6)
        have hX6 : Upd (fun _ => False) O1 w5 O1 w6 := Upd.of_ext (fun h => h) O1 hE6
        have hn6 := hn5.upd hX6 (by omega) (fun h => h)
        have hx6 := hx5.upd hX6 (by omega) (fun h => h)
        have ho6 := ho5.upd hX6 (by omega) (fun h => h)
        have hrow6 := hrow5.upd hX6 (by omega) (fun h => h)
        have hR6 := hR5.upd hX6
        have hzn6 : ∀ m, m < i → Rt O1 w6 (nth ts m) (nth zs m) := fun m hm => (hzn5 m hm).upd hX6
        have hUt6 := hUt5.trans (hX6.mono (fun _ h => h.elim) hzz)
        have hS6 := And.intro (hn6.cell 2 rfl) (Upd.noneE hUt6 hTT)
        refine WL.nil ?_
        refine QF.after hS6 ?_
        refine WH.take 22 rfl (by kernel_rfl) (by kernel_rfl) (by kernel_rfl) hS6 (fun w1 hw1 => RV.build (vs := [(0, nv y1), (1, nv y2), (2, .bool brk)]) (cells := (encR (y1, y2, brk)).toArray) pl50 (Tryz.zeroValue50 _) rfl (by kernel_rfl)) rfl ?_
        refine WH.one 23 (by kernel_rfl) rfl ?_
        refine WL.buildOne2 elR (enc := encR) (y1, y2, brk) rfl rfl rfl (by decide) rfl ?_
        intro w7 h7 hE7
        have hy17 := hy16.upd (Upd.of_ext (S := fun _ => False) (fun h => h) O1 hE7)
        have hy27 := hy6.upd (Upd.of_ext (S := fun _ => False) (fun h => h) O1 hE7)
        have hX7 : Upd (fun _ => False) O1 w6 O1 w7 := Upd.of_ext (fun h => h) O1 hE7
        have hn7 := hn6.upd hX7 (by omega) (fun h => h)
        have hx7 := hx6.upd hX7 (by omega) (fun h => h)
        have ho7 := ho6.upd hX7 (by omega) (fun h => h)
        have hrow7 := hrow6.upd hX7 (by omega) (fun h => h)
        have hR7 := hR6.upd hX7
        have hzn7 : ∀ m, m < i → Rt O1 w7 (nth ts m) (nth zs m) := fun m hm => (hzn6 m hm).upd hX7
        have hUt7 := hUt6.trans (hX7.mono (fun _ h => h.elim) hzz)
        have hS7 := And.intro (hn7.cell 2 rfl) (Upd.noneE hUt7 hTT)
        refine WL.nil ?_
        refine QF.after hS7 ?_
        have hone7 : ∀ u ∈ [((y1, y2, brk) : X3)], ∀ c ∈ encR u, c.oneCell' = true := fun u hu => by
          rw [List.mem_singleton.1 hu]; exact encR_ones hy17.one hy27.one
        refine WH.one 24 (by kernel_rfl) rfl ?_
        refine WL.appendSl elR hrow7 hR7 h7 (by simp) rfl rfl (fun _ _ => rfl) hone7 (by simp; omega) (by simp; omega) (by omega) rfl ?_
        intro lv8 w8 O8 hrow8 hU8 hR8
        have hs8 := hrow8.one
        have hn8 := BlkO.upd hn7 hU8 (by omega) (by omega)
        have ho8 := BlkO.upd ho7 hU8 (by omega) (by omega)
        have hx8 := BlkO.upd hx7 hU8 (by omega) (by omega)
        have hUt8 := hUt7.trans (hU8.mono (fun _ h => by rw [h]; omega) hzz)
        have hS8 := And.intro (hn8.cell 2 rfl) (Upd.noneE hUt8 hTT)
        refine WL.nil ?_
        refine QF.after hS8 ?_
        refine WH.take 25 rfl (by kernel_rfl) (by kernel_rfl) (by kernel_rfl) hS8 (fun w1 hw1 => RV.fieldAddr 2 Tryz.underlying26 rfl rfl (Tryz.sizeOf24 _) (by decide) rfl) rfl ?_
        refine WH.one 26 (by kernel_rfl) rfl ?_
        refine WL.storeBlk (j := 2) ho8 rfl (Tryz.sizeOf24 _) hs8 rfl rfl rfl ?_
        have ho9 : BlkO O8 (w8.setCell ⟨ob, 2, none⟩ lv8) (T + 2) ob #[ig, kp, lv8] 26 := ho8.set 2 lv8
        have hU9 : Upd (fun q => q = T + 2) O8 w8 O8 (w8.setCell ⟨ob, 2, none⟩ lv8) := Upd.set (by omega) ho8.tag rfl
        have hn9 := hn8.upd hU9 (by omega) (by omega)
        have hUt9 := hUt8.trans (hU9.mono (fun _ h => by rw [h]; omega) hzz)
        have hS9 := And.intro (hn9.cell 2 rfl) (Upd.noneE hUt9 hTT)
        refine WL.nil ?_
        refine QF.after hS9 ?_
        refine WH.done (by kernel_rfl) ?_
        refine QF.blockNormal ?_
        refine QF.seqNext ?_
        refine WC.region ?_
        refine WL.v (RV.move rfl) rfl ?_
        refine WL.v (RV.add rfl rfl (Fit.i64 (by omega))) rfl ?_
        refine WL.v (RV.assign rfl) rfl ?_
        refine WL.nil ?_
        refine QF.next ((i + 1, O8, (w8.setCell ⟨ob, 2, none⟩ lv8), lv8, zs ++ [((y1, y2, brk) : X3)])) (⟨hlt, hn9, hx8.upd hU9 (by omega) (by omega), ho9, hrow8.upd hU9 (by omega) (by omega), by simp [hzl], fun m hm => ?_, hUt9, hR8.upd hU9⟩) (by dsimp only; omega) ⟨rfl, rfl, rfl, rfl, trivial⟩ rfl
        dsimp only at hm ⊢
        by_cases e : m < i
        · rw [nth_eq (xs := zs ++ [((y1, y2, brk) : X3)]) (by simp; omega), List.getElem_append_left (by omega), ← nth_eq (by omega)]
          exact ((hzn7 m e).upd hU8).upd hU9
        · obtain rfl : m = zs.length := by omega
          rw [nth_eq (xs := zs ++ [((y1, y2, brk) : X3)]) (by simp), List.getElem_append_right (by omega)]
          simp only [Nat.sub_self, List.getElem_cons_zero]
          rw [hzl]
          exact ⟨(hy17.upd hU8).upd hU9, (hy27.upd hU8).upd hU9, hbk.trans (h5 i hlt).2.2⟩
      · skip
        refine WL.call Tryz.call21 rfl (to5_ret 1000000 (Nat.le_refl _) (nth ts i).2.1 (by omega) B O1 (nth xs i).2.1 w5 hR5 ((h5 i hlt).2.1.ext hS5.2)) rfl ?_
        rintro v6 w6 ⟨y2, rfl, hy6, hE6⟩
        have hy16 := hy5.upd (Upd.of_ext (S := fun _ => False) (fun h => h) O1 hE6)
        have hX6 : Upd (fun _ => False) O1 w5 O1 w6 := Upd.of_ext (fun h => h) O1 hE6
        have hn6 := hn5.upd hX6 (by omega) (fun h => h)
        have hx6 := hx5.upd hX6 (by omega) (fun h => h)
        have ho6 := ho5.upd hX6 (by omega) (fun h => h)
        have hrow6 := hrow5.upd hX6 (by omega) (fun h => h)
        have hR6 := hR5.upd hX6
        have hzn6 : ∀ m, m < i → Rt O1 w6 (nth ts m) (nth zs m) := fun m hm => (hzn5 m hm).upd hX6
        have hUt6 := hUt5.trans (hX6.mono (fun _ h => h.elim) hzz)
        have hS6 := And.intro (hn6.cell 2 rfl) (Upd.noneE hUt6 hTT)
        refine WL.nil ?_
        refine QF.after hS6 ?_
        refine WH.take 22 rfl (by kernel_rfl) (by kernel_rfl) (by kernel_rfl) hS6 (fun w1 hw1 => RV.build (vs := [(0, nv y1), (1, nv y2), (2, .bool brk)]) (cells := (encR (y1, y2, brk)).toArray) pl50 (Tryz.zeroValue50 _) rfl (by kernel_rfl)) rfl ?_
        refine WH.two 1 23 (by kernel_rfl) rfl rfl ?_ ?_
        · skip
          refine WL.v (RV.load (ho6.cell 2 rfl) (Tryz.isAgg24 _) rfl) rfl ?_
          refine WL.nil ?_
          refine QF.after hS6 ?_
          refine WH.one 23 (by kernel_rfl) rfl ?_
          refine WL.buildOne2 elR (enc := encR) (y1, y2, brk) rfl rfl rfl (by decide) rfl ?_
          intro w7 h7 hE7
          have hy17 := hy16.upd (Upd.of_ext (S := fun _ => False) (fun h => h) O1 hE7)
          have hy27 := hy6.upd (Upd.of_ext (S := fun _ => False) (fun h => h) O1 hE7)
          have hX7 : Upd (fun _ => False) O1 w6 O1 w7 := Upd.of_ext (fun h => h) O1 hE7
          have hn7 := hn6.upd hX7 (by omega) (fun h => h)
          have hx7 := hx6.upd hX7 (by omega) (fun h => h)
          have ho7 := ho6.upd hX7 (by omega) (fun h => h)
          have hrow7 := hrow6.upd hX7 (by omega) (fun h => h)
          have hR7 := hR6.upd hX7
          have hzn7 : ∀ m, m < i → Rt O1 w7 (nth ts m) (nth zs m) := fun m hm => (hzn6 m hm).upd hX7
          have hUt7 := hUt6.trans (hX7.mono (fun _ h => h.elim) hzz)
          have hS7 := And.intro (hn7.cell 2 rfl) (Upd.noneE hUt7 hTT)
          refine WL.nil ?_
          refine QF.after hS7 ?_
          have hone7 : ∀ u ∈ [((y1, y2, brk) : X3)], ∀ c ∈ encR u, c.oneCell' = true := fun u hu => by
            rw [List.mem_singleton.1 hu]; exact encR_ones hy17.one hy27.one
          refine WH.one 24 (by kernel_rfl) rfl ?_
          refine WL.appendSl elR hrow7 hR7 h7 (by simp) rfl rfl (fun _ _ => rfl) hone7 (by simp; omega) (by simp; omega) (by omega) rfl ?_
          intro lv8 w8 O8 hrow8 hU8 hR8
          have hs8 := hrow8.one
          have hn8 := BlkO.upd hn7 hU8 (by omega) (by omega)
          have ho8 := BlkO.upd ho7 hU8 (by omega) (by omega)
          have hx8 := BlkO.upd hx7 hU8 (by omega) (by omega)
          have hUt8 := hUt7.trans (hU8.mono (fun _ h => by rw [h]; omega) hzz)
          have hS8 := And.intro (hn8.cell 2 rfl) (Upd.noneE hUt8 hTT)
          refine WL.nil ?_
          refine QF.after hS8 ?_
          refine WH.take 25 rfl (by kernel_rfl) (by kernel_rfl) (by kernel_rfl) hS8 (fun w1 hw1 => RV.fieldAddr 2 Tryz.underlying26 rfl rfl (Tryz.sizeOf24 _) (by decide) rfl) rfl ?_
          refine WH.one 26 (by kernel_rfl) rfl ?_
          refine WL.storeBlk (j := 2) ho8 rfl (Tryz.sizeOf24 _) hs8 rfl rfl rfl ?_
          have ho9 : BlkO O8 (w8.setCell ⟨ob, 2, none⟩ lv8) (T + 2) ob #[ig, kp, lv8] 26 := ho8.set 2 lv8
          have hU9 : Upd (fun q => q = T + 2) O8 w8 O8 (w8.setCell ⟨ob, 2, none⟩ lv8) := Upd.set (by omega) ho8.tag rfl
          have hn9 := hn8.upd hU9 (by omega) (by omega)
          have hUt9 := hUt8.trans (hU9.mono (fun _ h => by rw [h]; omega) hzz)
          have hS9 := And.intro (hn9.cell 2 rfl) (Upd.noneE hUt9 hTT)
          refine WL.nil ?_
          refine QF.after hS9 ?_
          refine WH.done (by kernel_rfl) ?_
          refine QF.blockNormal ?_
          refine QF.seqNext ?_
          refine WC.region ?_
          refine WL.v (RV.move rfl) rfl ?_
          refine WL.v (RV.add rfl rfl (Fit.i64 (by omega))) rfl ?_
          refine WL.v (RV.assign rfl) rfl ?_
          refine WL.nil ?_
          refine QF.next ((i + 1, O8, (w8.setCell ⟨ob, 2, none⟩ lv8), lv8, zs ++ [((y1, y2, brk) : X3)])) (⟨hlt, hn9, hx8.upd hU9 (by omega) (by omega), ho9, hrow8.upd hU9 (by omega) (by omega), by simp [hzl], fun m hm => ?_, hUt9, hR8.upd hU9⟩) (by dsimp only; omega) ⟨rfl, rfl, rfl, rfl, trivial⟩ rfl
          dsimp only at hm ⊢
          by_cases e : m < i
          · rw [nth_eq (xs := zs ++ [((y1, y2, brk) : X3)]) (by simp; omega), List.getElem_append_left (by omega), ← nth_eq (by omega)]
            exact ((hzn7 m e).upd hU8).upd hU9
          · obtain rfl : m = zs.length := by omega
            rw [nth_eq (xs := zs ++ [((y1, y2, brk) : X3)]) (by simp), List.getElem_append_right (by omega)]
            simp only [Nat.sub_self, List.getElem_cons_zero]
            rw [hzl]
            exact ⟨(hy17.upd hU8).upd hU9, (hy27.upd hU8).upd hU9, hbk.trans (h5 i hlt).2.2⟩
        · skip
          refine WL.buildOne2 elR (enc := encR) (y1, y2, brk) rfl rfl rfl (by decide) rfl ?_
          intro w7 h7 hE7
          have hy17 := hy16.upd (Upd.of_ext (S := fun _ => False) (fun h => h) O1 hE7)
          have hy27 := hy6.upd (Upd.of_ext (S := fun _ => False) (fun h => h) O1 hE7)
          have hX7 : Upd (fun _ => False) O1 w6 O1 w7 := Upd.of_ext (fun h => h) O1 hE7
          have hn7 := hn6.upd hX7 (by omega) (fun h => h)
          have hx7 := hx6.upd hX7 (by omega) (fun h => h)
          have ho7 := ho6.upd hX7 (by omega) (fun h => h)
          have hrow7 := hrow6.upd hX7 (by omega) (fun h => h)
          have hR7 := hR6.upd hX7
          have hzn7 : ∀ m, m < i → Rt O1 w7 (nth ts m) (nth zs m) := fun m hm => (hzn6 m hm).upd hX7
          have hUt7 := hUt6.trans (hX7.mono (fun _ h => h.elim) hzz)
          have hS7 := And.intro (hn7.cell 2 rfl) (Upd.noneE hUt7 hTT)
          refine WL.nil ?_
          refine QF.after hS7 ?_
          refine WH.one 1 (by kernel_rfl) rfl ?_
          refine WL.v (RV.load (ho7.cell 2 rfl) (Tryz.isAgg24 _) rfl) rfl ?_
          refine WL.nil ?_
          refine QF.after hS7 ?_
          have hone7 : ∀ u ∈ [((y1, y2, brk) : X3)], ∀ c ∈ encR u, c.oneCell' = true := fun u hu => by
            rw [List.mem_singleton.1 hu]; exact encR_ones hy17.one hy27.one
          refine WH.one 24 (by kernel_rfl) rfl ?_
          refine WL.appendSl elR hrow7 hR7 h7 (by simp) rfl rfl (fun _ _ => rfl) hone7 (by simp; omega) (by simp; omega) (by omega) rfl ?_
          intro lv8 w8 O8 hrow8 hU8 hR8
          have hs8 := hrow8.one
          have hn8 := BlkO.upd hn7 hU8 (by omega) (by omega)
          have ho8 := BlkO.upd ho7 hU8 (by omega) (by omega)
          have hx8 := BlkO.upd hx7 hU8 (by omega) (by omega)
          have hUt8 := hUt7.trans (hU8.mono (fun _ h => by rw [h]; omega) hzz)
          have hS8 := And.intro (hn8.cell 2 rfl) (Upd.noneE hUt8 hTT)
          refine WL.nil ?_
          refine QF.after hS8 ?_
          refine WH.take 25 rfl (by kernel_rfl) (by kernel_rfl) (by kernel_rfl) hS8 (fun w1 hw1 => RV.fieldAddr 2 Tryz.underlying26 rfl rfl (Tryz.sizeOf24 _) (by decide) rfl) rfl ?_
          refine WH.one 26 (by kernel_rfl) rfl ?_
          refine WL.storeBlk (j := 2) ho8 rfl (Tryz.sizeOf24 _) hs8 rfl rfl rfl ?_
          have ho9 : BlkO O8 (w8.setCell ⟨ob, 2, none⟩ lv8) (T + 2) ob #[ig, kp, lv8] 26 := ho8.set 2 lv8
          have hU9 : Upd (fun q => q = T + 2) O8 w8 O8 (w8.setCell ⟨ob, 2, none⟩ lv8) := Upd.set (by omega) ho8.tag rfl
          have hn9 := hn8.upd hU9 (by omega) (by omega)
          have hUt9 := hUt8.trans (hU9.mono (fun _ h => by rw [h]; omega) hzz)
          have hS9 := And.intro (hn9.cell 2 rfl) (Upd.noneE hUt9 hTT)
          refine WL.nil ?_
          refine QF.after hS9 ?_
          refine WH.done (by kernel_rfl) ?_
          refine QF.blockNormal ?_
          refine QF.seqNext ?_
          refine WC.region ?_
          refine WL.v (RV.move rfl) rfl ?_
          refine WL.v (RV.add rfl rfl (Fit.i64 (by omega))) rfl ?_
          refine WL.v (RV.assign rfl) rfl ?_
          refine WL.nil ?_
          refine QF.next ((i + 1, O8, (w8.setCell ⟨ob, 2, none⟩ lv8), lv8, zs ++ [((y1, y2, brk) : X3)])) (⟨hlt, hn9, hx8.upd hU9 (by omega) (by omega), ho9, hrow8.upd hU9 (by omega) (by omega), by simp [hzl], fun m hm => ?_, hUt9, hR8.upd hU9⟩) (by dsimp only; omega) ⟨rfl, rfl, rfl, rfl, trivial⟩ rfl
          dsimp only at hm ⊢
          by_cases e : m < i
          · rw [nth_eq (xs := zs ++ [((y1, y2, brk) : X3)]) (by simp; omega), List.getElem_append_left (by omega), ← nth_eq (by omega)]
            exact ((hzn7 m e).upd hU8).upd hU9
          · obtain rfl : m = zs.length := by omega
            rw [nth_eq (xs := zs ++ [((y1, y2, brk) : X3)]) (by simp), List.getElem_append_right (by omega)]
            simp only [Nat.sub_self, List.getElem_cons_zero]
            rw [hzl]
            exact ⟨(hy17.upd hU8).upd hU9, (hy27.upd hU8).upd hU9, hbk.trans (h5 i hlt).2.2⟩
  · intro hge
    obtain rfl : i = xs.length := by have := of_decide_eq_false hge; omega
    have hlo := hrow1.one
    refine WC.exit ?_
    refine QF.thenExit ?_
    refine QF.thenExit ?_
    refine QF.blockHit ?_
    refine QF.seqNext ?_
    refine WC.seq ?_
    refine WC.region ?_
    refine WL.v (RV.loadAgg (us := [ig, kp, lv]) ho1'.cellsAdd (Tryz.isAgg26 _) (Tryz.sizeOf26 _) rfl) rfl ?_
    refine WL.storeAgg (us := #[ig, kp, lv]) hx1' rfl (Tryz.sizeOf26 _) (by simp only [List.all_cons, o1, o2, hlo]; rfl) rfl rfl rfl ?_
    have hx9 := hx1'.setRow (us := #[ig, kp, lv])
    have hU9 : Upd (fun q => q = T + 1) O1 w1' O1 (w1'.setRow xb #[ig, kp, lv]) := Upd.setRow (by omega) hx1'.tag rfl
    have hrow9 := hrow1.upd hU9 (by omega) (by omega)
    have hUt9 := hUt1.trans (hU9.mono (fun _ h => by rw [h]; omega) hzz)
    have hE9 := Upd.noneE hUt9 hTT
    refine WL.nil ?_
    refine QF.seqNext ?_
    refine WC.ret ?_
    refine QF.doneC1 rfl rfl (hx9.cellsAdd) (Tryz.isAgg26 _) (Tryz.sizeOf26 _) (⟨lv, rfl, ⟨zs, hrow9.sl, hrow9.freeT (by omega) (fun b => by have := hT b; omega) (hR1'.upd hU9) hUt9, by omega, fun m hm => ((hzn m (by omega)).upd hU9).weak (fun b e => hUt9.z0 b e)⟩, hE9⟩)
end Go.Proofs.YtmohcfjopaccdaaGreatDoor
