/- Packages virgulelaw05 and virgulelaw06, walked: To. -/
import Derived.Test.YtmohcfjopaccdaaGreatDoorRsC
namespace Go.Proofs.YtmohcfjopaccdaaGreatDoor
open Go.VL Go.Proofs
set_option maxRecDepth 10000

theorem to5_ret : ∀ (n : Nat), n ≤ 1000000 → ∀ (t : Nd), nsz t ≤ n → ∀ (B : Nat) (O : Nat → Nat) (x : N3) (w : World), Rng B O w → Nt (fun _ => 0) w t x → Ret Tryz.prog 21 [nv x] w fun v w' => ∃ y, v = nv y ∧ Nt O w' t y ∧ Ext w w'
  | 0, _, t, hn => by have := nsz_pos t; omega
  | n + 1, hn6, .mk k c kids, hn => by
    intro B O x w hR h
    obtain ⟨T, hT0, hT⟩ := hR.bound
    have hTT : ∀ b, ¬ T ≤ O b := fun b => by have := hT b; omega
    obtain ⟨xs, hs, hf, hl, hk⟩ := h.kids
    simp only [Nd.kids] at hl hk
    obtain ⟨x0, x1, sv⟩ := x
    obtain rfl : k = x0 := (congrArg Prod.fst h.ones).symm
    obtain rfl : c = x1 := (congrArg (fun q : N3 => q.2.1) h.ones).symm
    dsimp only at hs hf
    have hkl := nszL_len kids
    simp only [nsz] at hn
    have hzz : ¬ (fun q : Nat => T ≤ q) 0 := fun e => by omega
    refine Ret.enter Tryz.func21 Tryz.ntmps21 rfl rfl ?_
    refine WC.seq ?_
    refine WC.region ?_
    refine WL.boxO hR (T + 1) (by omega) rfl rfl ?_
    intro nb w1 O1 hn1 hU1 hR1 hE1
    refine WL.allocO hR1 T (by omega) (Tryz.zeroValue48 _) rfl ?_
    intro xb w2 O2 hx2 hU2 hR2 hE2
    have hn2 := hn1.upd hU2 (by omega) (by omega)
    have n0 : w2.cell? ((⟨nb, 0, none⟩ : Addr).add 0) = some (.int .i64 k) := hn2.cell 0 rfl
    have n1 : w2.cell? ((⟨nb, 0, none⟩ : Addr).add 1) = some (.int .i64 c) := hn2.cell 1 rfl
    refine WL.nil ?_
    refine QF.seqNext ?_
    refine WC.seq ?_
    refine WC.region ?_
    refine WL.v (RV.fieldAddr 0 Tryz.underlying62 rfl rfl (Tryz.sizeOf3 _) (by decide) rfl) rfl ?_
    refine WL.v (RV.load (by first | exact n0 | exact n1) (Tryz.isAgg3 _) rfl) rfl ?_
    refine WL.v (RV.fieldAddr 1 Tryz.underlying62 rfl rfl (Tryz.sizeOf3 _) (by decide) rfl) rfl ?_
    refine WL.v (RV.load (by first | exact n0 | exact n1) (Tryz.isAgg3 _) rfl) rfl ?_
    refine WL.v (RV.buildF pl48 (Tryz.zeroValue48 _) rfl (by first | rfl | (simp only [List.all_cons, List.all_nil]; rfl)) rfl rfl) rfl ?_
    refine WL.allocO hR2 (T + 2) (by omega) (Tryz.zeroValue48 _) rfl ?_
    intro ob w3 O3 ho3 hU3 hR3 hE3
    refine WL.storeAgg (us := #[.int .i64 k, .int .i64 c, .slice none 0 0]) ho3 rfl (Tryz.sizeOf48 _) rfl rfl rfl rfl ?_
    have ho4 := ho3.setRow (us := #[.int .i64 k, .int .i64 c, .slice none 0 0])
    have hU4 : Upd (fun q => q = T + 2) O3 w3 O3 (w3.setRow ob #[.int .i64 k, .int .i64 c, .slice none 0 0]) := Upd.setRow (by omega) ho3.tag rfl
    have hU34 := hU3.trans hU4
    have hR4 := hR3.upd hU4
    have hn4 := hn2.upd hU34 (by omega) (by omega)
    have hx4 := hx2.upd hU34 (by omega) (by omega)
    have hUt4 : Upd (fun q => T ≤ q) O w O3 _ := ((hU1.mono (fun _ h => by rw [h]; omega) hzz).trans (hU2.mono (fun _ h => by rw [h]; omega) hzz)).trans (hU34.mono (fun _ h => by rw [h]; omega) hzz)
    generalize w3.setRow ob #[.int .i64 k, .int .i64 c, .slice none 0 0] = w4 at *
    refine WL.nil ?_
    refine QF.seqNext ?_
    refine WC.seq ?_
    refine WC.seq ?_
    refine WC.region ?_
    refine WL.v (RV.assign rfl) rfl ?_
    refine WL.nil ?_
    refine QF.seqNext ?_
    refine WC.block ?_
    refine WC.loop (fun y : Nat × (Nat → Nat) × World × Value × List N3 => [(1, .pointer (some ⟨nb, 0, none⟩)), (2, .pointer (some ⟨xb, 0, none⟩)), (3, .pointer (some ⟨ob, 0, none⟩)), (4, .int .i64 y.1)]) (fun y : Nat × (Nat → Nat) × World × Value × List N3 => y.2.2.1) (fun y : Nat × (Nat → Nat) × World × Value × List N3 => y.1 ≤ xs.length ∧ BlkO y.2.1 y.2.2.1 (T + 1) nb #[.int .i64 k, .int .i64 c, sv] 62 ∧ BlkO y.2.1 y.2.2.1 T xb #[.int .i64 0, .int .i64 0, .slice none 0 0] 48 ∧ BlkO y.2.1 y.2.2.1 (T + 2) ob #[.int .i64 k, .int .i64 c, y.2.2.2.1] 48 ∧ RowT encN 48 3 y.2.1 y.2.2.1 (T + 3) y.2.2.2.1 y.2.2.2.2 ∧ y.2.2.2.2.length = y.1 ∧ (∀ m, m < y.1 → Nt y.2.1 y.2.2.1 (nth kids m) (nth y.2.2.2.2 m)) ∧ Upd (fun q => T ≤ q) O w y.2.1 y.2.2.1 ∧ Rng B y.2.1 y.2.2.1) (fun y : Nat × (Nat → Nat) × World × Value × List N3 => xs.length - y.1) (0, O3, w4, .slice none 0 0, []) (⟨Nat.zero_le _, hn4, hx4, ho4, RowT.nil _ _ _ _ _ _, rfl, fun m hm => absurd hm (Nat.not_lt_zero m), hUt4, hR4⟩) ⟨rfl, rfl, rfl, rfl, trivial⟩ rfl ?_
    rintro ⟨i, O1', w1', lv, zs⟩ ⟨hi, hn1', hx1', ho1', hrow1, hzl, hzn, hUt1, hR1'⟩
    dsimp only at hi hn1' hx1' ho1' hrow1 hzl hzn hUt1 hR1' ⊢
    have hE1' := Upd.noneE hUt1 hTT
    have hs1 := hs.ext hE1'
    have c2 : w1'.cell? ((⟨nb, 0, none⟩ : Addr).add 2) = some sv := hn1'.cell 2 rfl
    refine WC.seq ?_
    refine WC.seq ?_
    refine WC.region ?_
    refine WL.v (RV.move rfl) rfl ?_
    refine WL.v (RV.fieldAddr 2 Tryz.underlying62 rfl rfl (Tryz.sizeOf60 _) (by decide) rfl) rfl ?_
    refine WL.v (RV.load (by first | exact c2) (Tryz.isAgg60 _) rfl) rfl ?_
    refine WL.v (RV.len (by first | exact hs1) Tryz.underlying60 rfl) rfl ?_
    refine WL.v (RV.lss rfl rfl) rfl ?_
    refine WL.nil ?_
    refine QF.seqNext ?_
    refine WC.cond rfl ?_ ?_
    · intro hlt
      replace hlt : i < xs.length := by have := of_decide_eq_true hlt; omega
      have hkn := hk i hlt
      have hxo := hkn.one
      have hkz := nszL_nth kids i (by omega)
      have hnD := hn1'.drew
      have hxD := hx1'.drew
      have hoD := ho1'.drew
      have hrowD := hrow1.drew
      have hRD := hR1'.drew
      have hznD : ∀ m, m < i → Nt O1' w1'.drew (nth kids m) (nth zs m) := fun m hm => (hzn m hm).drew
      have hUtD := hUt1.drew
      have hED := Upd.noneE hUtD hTT
      have hSD := And.intro (hnD.cell 2 rfl) hED
      refine WC.skip ?_
      refine QF.seqNext ?_
      refine WC.seq ?_
      refine WC.block ?_
      refine WC.draw (fun W => W.cell? ⟨nb, 2, none⟩ = some sv ∧ Ext w W) 12 rfl (by kernel_rfl) ?_
      refine WH.take 0 rfl (by kernel_rfl) (by kernel_rfl) (by kernel_rfl) hSD (fun w1 hw1 => RV.fieldAddr 2 Tryz.underlying48 rfl rfl (Tryz.sizeOf46 _) (by decide) rfl) rfl ?_
      refine WH.take 2 rfl (by kernel_rfl) (by kernel_rfl) (by kernel_rfl) hSD (fun w1 hw1 => RV.fieldAddr 2 Tryz.underlying62 rfl rfl (Tryz.sizeOf60 _) (by decide) rfl) rfl ?_
      refine WH.take 3 rfl (by kernel_rfl) (by kernel_rfl) (by kernel_rfl) hSD (fun w1 hw1 => RV.load (by first | exact hw1.1) (Tryz.isAgg60 _) rfl) rfl ?_
      refine WH.take 4 rfl (by kernel_rfl) (by kernel_rfl) (by kernel_rfl) hSD (fun w1 hw1 => RV.move rfl) rfl ?_
      refine WH.take 5 rfl (by kernel_rfl) (by kernel_rfl) (by kernel_rfl) hSD (fun w1 hw1 => RV.indexAddr (by first | exact hs.ext hw1.2) Tryz.underlying60 (Tryz.sizeOf62 _) rfl rfl _ rfl (by omega)) rfl ?_
      refine WH.take 6 rfl (by kernel_rfl) (by kernel_rfl) (by kernel_rfl) hSD (fun w1 hw1 => RV.loadAgg (us := encN (nth xs i)) (fun j u hu => (hs.ext hw1.2).cell hlt hu) (Tryz.isAgg62 _) (Tryz.sizeOf62 _) rfl) rfl ?_
      generalize w1'.drew = wD at *
      have hc2 : wD.cell? ((⟨ob, 0, none⟩ : Addr).add 2) = some lv := hoD.cell 2 rfl
      have hcall := to5_ret n (by omega) (nth kids i) (by omega) B O1' (nth xs i) wD hRD (hkn.ext hED)
      refine WH.two 1 7 (by kernel_rfl) rfl rfl ?_ ?_
      · skip
        refine WL.v (RV.load hc2 (Tryz.isAgg46 _) rfl) rfl ?_
        refine WL.nil ?_
        refine QF.after hSD ?_
        refine WH.one 7 (by kernel_rfl) rfl ?_
        refine WL.call Tryz.call21 rfl hcall rfl ?_
        rintro v w5 ⟨z, rfl, hz5, hE5⟩
        have hX5 : Upd (fun _ => False) O1' wD O1' w5 := Upd.of_ext (fun h => h) O1' hE5
        have hn5 := BlkO.upd hnD hX5 (by omega) (fun h => h)
        have hx5 := BlkO.upd hxD hX5 (by omega) (fun h => h)
        have ho5 := BlkO.upd hoD hX5 (by omega) (fun h => h)
        have hrow5 := RowT.upd hrowD hX5 (by omega) (fun h => h)
        have hR5 := Rng.upd hRD hX5
        have hzn5 : ∀ m, m < i → Nt O1' w5 (nth kids m) (nth zs m) := fun m hm => (hznD m hm).upd hX5
        have hUt5 := Upd.trans hUtD (hX5.mono (fun _ h => h.elim) hzz)
        have hS5 := And.intro (hn5.cell 2 rfl) (Upd.noneE hUt5 hTT)
        refine WL.nil ?_
        refine QF.after hS5 ?_
        refine WH.one 8 (by kernel_rfl) rfl ?_
        refine WL.buildOne2 elN (enc := encN) z rfl rfl rfl (by decide) rfl ?_
        intro w6 h6 hE6
        have hX6 : Upd (fun _ => False) O1' w5 O1' w6 := Upd.of_ext (fun h => h) O1' hE6
        have hn6 := hn5.upd hX6 (by omega) (fun h => h)
        have hx6 := hx5.upd hX6 (by omega) (fun h => h)
        have ho6 := ho5.upd hX6 (by omega) (fun h => h)
        have hrow6 := hrow5.upd hX6 (by omega) (fun h => h)
        have hR6 := hR5.upd hX6
        have hzn6 : ∀ m, m < i → Nt O1' w6 (nth kids m) (nth zs m) := fun m hm => (hzn5 m hm).upd hX6
        have hz6 := hz5.upd hX6
        have hUt6 := hUt5.trans (hX6.mono (fun _ h => h.elim) hzz)
        have hS6 := And.intro (hn6.cell 2 rfl) (Upd.noneE hUt6 hTT)
        refine WL.nil ?_
        refine QF.after hS6 ?_
        have hone6 : ∀ u ∈ [z], ∀ c ∈ encN u, c.oneCell' = true := fun u hu => by
          rw [List.mem_singleton.1 hu]; exact enc_one hz6.one
        refine WH.one 9 (by kernel_rfl) rfl ?_
        refine WL.appendSl elN hrow6 hR6 h6 (by simp) rfl rfl (fun _ _ => rfl) hone6 (by simp; omega) (by simp; omega) (by omega) rfl ?_
        intro lv7 w7 O7 hrow7 hU7 hR7
        have hs7 := hrow7.one
        have hn7 := BlkO.upd hn6 hU7 (by omega) (by omega)
        have ho7 := BlkO.upd ho6 hU7 (by omega) (by omega)
        have hx7 := BlkO.upd hx6 hU7 (by omega) (by omega)
        have hUt7 := hUt6.trans (hU7.mono (fun _ h => by rw [h]; omega) hzz)
        have hS7 := And.intro (hn7.cell 2 rfl) (Upd.noneE hUt7 hTT)
        refine WL.nil ?_
        refine QF.after hS7 ?_
        refine WH.take 10 rfl (by kernel_rfl) (by kernel_rfl) (by kernel_rfl) hS7 (fun w1 hw1 => RV.fieldAddr 2 Tryz.underlying48 rfl rfl (Tryz.sizeOf46 _) (by decide) rfl) rfl ?_
        refine WH.one 11 (by kernel_rfl) rfl ?_
        refine WL.storeBlk (j := 2) ho7 rfl (Tryz.sizeOf46 _) hs7 rfl rfl rfl ?_
        have ho8 : BlkO O7 (w7.setCell ⟨ob, 2, none⟩ lv7) (T + 2) ob #[.int .i64 k, .int .i64 c, lv7] 48 := ho7.set 2 lv7
        have hU8 : Upd (fun q => q = T + 2) O7 w7 O7 (w7.setCell ⟨ob, 2, none⟩ lv7) := Upd.set (by omega) ho7.tag rfl
        have hn8 := hn7.upd hU8 (by omega) (by omega)
        have hUt8 := hUt7.trans (hU8.mono (fun _ h => by rw [h]; omega) hzz)
        have hS8 := And.intro (hn8.cell 2 rfl) (Upd.noneE hUt8 hTT)
        refine WL.nil ?_
        refine QF.after hS8 ?_
        refine WH.done (by kernel_rfl) ?_
        refine QF.blockNormal ?_
        refine QF.seqNext ?_
        refine WC.region ?_
        refine WL.v (RV.move rfl) rfl ?_
        refine WL.v (RV.add rfl rfl (Fit.i64 (by omega))) rfl ?_
        refine WL.v (RV.assign rfl) rfl ?_
        refine WL.nil ?_
        refine QF.next ((i + 1, O7, (w7.setCell ⟨ob, 2, none⟩ lv7), lv7, zs ++ [z])) (⟨hlt, hn8, hx7.upd hU8 (by omega) (by omega), ho8, hrow7.upd hU8 (by omega) (by omega), by simp [hzl], fun m hm => ?_, hUt8, hR7.upd hU8⟩) (by dsimp only; omega) ⟨rfl, rfl, rfl, rfl, trivial⟩ rfl
        dsimp only at hm ⊢
        by_cases e : m < i
        · rw [nth_eq (xs := zs ++ [z]) (by simp; omega), List.getElem_append_left (by omega), ← nth_eq (by omega)]
          exact ((hzn6 m e).upd hU7).upd hU8
        · obtain rfl : m = zs.length := by omega
          rw [nth_eq (xs := zs ++ [z]) (by simp), List.getElem_append_right (by omega)]
          simp only [Nat.sub_self, List.getElem_cons_zero]
          rw [hzl]
          exact (hz6.upd hU7).upd hU8
      · skip
        refine WL.call Tryz.call21 rfl hcall rfl ?_
        rintro v w5 ⟨z, rfl, hz5, hE5⟩
        have hX5 : Upd (fun _ => False) O1' wD O1' w5 := Upd.of_ext (fun h => h) O1' hE5
        have hn5 := BlkO.upd hnD hX5 (by omega) (fun h => h)
        have hx5 := BlkO.upd hxD hX5 (by omega) (fun h => h)
        have ho5 := BlkO.upd hoD hX5 (by omega) (fun h => h)
        have hrow5 := RowT.upd hrowD hX5 (by omega) (fun h => h)
        have hR5 := Rng.upd hRD hX5
        have hzn5 : ∀ m, m < i → Nt O1' w5 (nth kids m) (nth zs m) := fun m hm => (hznD m hm).upd hX5
        have hUt5 := Upd.trans hUtD (hX5.mono (fun _ h => h.elim) hzz)
        have hS5 := And.intro (hn5.cell 2 rfl) (Upd.noneE hUt5 hTT)
        refine WL.nil ?_
        refine QF.after hS5 ?_
        have hc5 : w5.cell? ((⟨ob, 0, none⟩ : Addr).add 2) = some lv := ho5.cell 2 rfl
        refine WH.two 1 8 (by kernel_rfl) rfl rfl ?_ ?_
        · skip
          refine WL.v (RV.load hc5 (Tryz.isAgg46 _) rfl) rfl ?_
          refine WL.nil ?_
          refine QF.after hS5 ?_
          refine WH.one 8 (by kernel_rfl) rfl ?_
          refine WL.buildOne2 elN (enc := encN) z rfl rfl rfl (by decide) rfl ?_
          intro w6 h6 hE6
          have hX6 : Upd (fun _ => False) O1' w5 O1' w6 := Upd.of_ext (fun h => h) O1' hE6
          have hn6 := hn5.upd hX6 (by omega) (fun h => h)
          have hx6 := hx5.upd hX6 (by omega) (fun h => h)
          have ho6 := ho5.upd hX6 (by omega) (fun h => h)
          have hrow6 := hrow5.upd hX6 (by omega) (fun h => h)
          have hR6 := hR5.upd hX6
          have hzn6 : ∀ m, m < i → Nt O1' w6 (nth kids m) (nth zs m) := fun m hm => (hzn5 m hm).upd hX6
          have hz6 := hz5.upd hX6
          have hUt6 := hUt5.trans (hX6.mono (fun _ h => h.elim) hzz)
          have hS6 := And.intro (hn6.cell 2 rfl) (Upd.noneE hUt6 hTT)
          refine WL.nil ?_
          refine QF.after hS6 ?_
          have hone6 : ∀ u ∈ [z], ∀ c ∈ encN u, c.oneCell' = true := fun u hu => by
            rw [List.mem_singleton.1 hu]; exact enc_one hz6.one
          refine WH.one 9 (by kernel_rfl) rfl ?_
          refine WL.appendSl elN hrow6 hR6 h6 (by simp) rfl rfl (fun _ _ => rfl) hone6 (by simp; omega) (by simp; omega) (by omega) rfl ?_
          intro lv7 w7 O7 hrow7 hU7 hR7
          have hs7 := hrow7.one
          have hn7 := BlkO.upd hn6 hU7 (by omega) (by omega)
          have ho7 := BlkO.upd ho6 hU7 (by omega) (by omega)
          have hx7 := BlkO.upd hx6 hU7 (by omega) (by omega)
          have hUt7 := hUt6.trans (hU7.mono (fun _ h => by rw [h]; omega) hzz)
          have hS7 := And.intro (hn7.cell 2 rfl) (Upd.noneE hUt7 hTT)
          refine WL.nil ?_
          refine QF.after hS7 ?_
          refine WH.take 10 rfl (by kernel_rfl) (by kernel_rfl) (by kernel_rfl) hS7 (fun w1 hw1 => RV.fieldAddr 2 Tryz.underlying48 rfl rfl (Tryz.sizeOf46 _) (by decide) rfl) rfl ?_
          refine WH.one 11 (by kernel_rfl) rfl ?_
          refine WL.storeBlk (j := 2) ho7 rfl (Tryz.sizeOf46 _) hs7 rfl rfl rfl ?_
          have ho8 : BlkO O7 (w7.setCell ⟨ob, 2, none⟩ lv7) (T + 2) ob #[.int .i64 k, .int .i64 c, lv7] 48 := ho7.set 2 lv7
          have hU8 : Upd (fun q => q = T + 2) O7 w7 O7 (w7.setCell ⟨ob, 2, none⟩ lv7) := Upd.set (by omega) ho7.tag rfl
          have hn8 := hn7.upd hU8 (by omega) (by omega)
          have hUt8 := hUt7.trans (hU8.mono (fun _ h => by rw [h]; omega) hzz)
          have hS8 := And.intro (hn8.cell 2 rfl) (Upd.noneE hUt8 hTT)
          refine WL.nil ?_
          refine QF.after hS8 ?_
          refine WH.done (by kernel_rfl) ?_
          refine QF.blockNormal ?_
          refine QF.seqNext ?_
          refine WC.region ?_
          refine WL.v (RV.move rfl) rfl ?_
          refine WL.v (RV.add rfl rfl (Fit.i64 (by omega))) rfl ?_
          refine WL.v (RV.assign rfl) rfl ?_
          refine WL.nil ?_
          refine QF.next ((i + 1, O7, (w7.setCell ⟨ob, 2, none⟩ lv7), lv7, zs ++ [z])) (⟨hlt, hn8, hx7.upd hU8 (by omega) (by omega), ho8, hrow7.upd hU8 (by omega) (by omega), by simp [hzl], fun m hm => ?_, hUt8, hR7.upd hU8⟩) (by dsimp only; omega) ⟨rfl, rfl, rfl, rfl, trivial⟩ rfl
          dsimp only at hm ⊢
          by_cases e : m < i
          · rw [nth_eq (xs := zs ++ [z]) (by simp; omega), List.getElem_append_left (by omega), ← nth_eq (by omega)]
            exact ((hzn6 m e).upd hU7).upd hU8
          · obtain rfl : m = zs.length := by omega
            rw [nth_eq (xs := zs ++ [z]) (by simp), List.getElem_append_right (by omega)]
            simp only [Nat.sub_self, List.getElem_cons_zero]
            rw [hzl]
            exact (hz6.upd hU7).upd hU8
        · skip
          refine WL.buildOne2 elN (enc := encN) z rfl rfl rfl (by decide) rfl ?_
          intro w6 h6 hE6
          have hX6 : Upd (fun _ => False) O1' w5 O1' w6 := Upd.of_ext (fun h => h) O1' hE6
          have hn6 := hn5.upd hX6 (by omega) (fun h => h)
          have hx6 := hx5.upd hX6 (by omega) (fun h => h)
          have ho6 := ho5.upd hX6 (by omega) (fun h => h)
          have hrow6 := hrow5.upd hX6 (by omega) (fun h => h)
          have hR6 := hR5.upd hX6
          have hzn6 : ∀ m, m < i → Nt O1' w6 (nth kids m) (nth zs m) := fun m hm => (hzn5 m hm).upd hX6
          have hz6 := hz5.upd hX6
          have hUt6 := hUt5.trans (hX6.mono (fun _ h => h.elim) hzz)
          have hS6 := And.intro (hn6.cell 2 rfl) (Upd.noneE hUt6 hTT)
          refine WL.nil ?_
          refine QF.after hS6 ?_
          have hc6 : w6.cell? ((⟨ob, 0, none⟩ : Addr).add 2) = some lv := ho6.cell 2 rfl
          refine WH.one 1 (by kernel_rfl) rfl ?_
          refine WL.v (RV.load hc6 (Tryz.isAgg46 _) rfl) rfl ?_
          refine WL.nil ?_
          refine QF.after hS6 ?_
          have hone6 : ∀ u ∈ [z], ∀ c ∈ encN u, c.oneCell' = true := fun u hu => by
            rw [List.mem_singleton.1 hu]; exact enc_one hz6.one
          refine WH.one 9 (by kernel_rfl) rfl ?_
          refine WL.appendSl elN hrow6 hR6 h6 (by simp) rfl rfl (fun _ _ => rfl) hone6 (by simp; omega) (by simp; omega) (by omega) rfl ?_
          intro lv7 w7 O7 hrow7 hU7 hR7
          have hs7 := hrow7.one
          have hn7 := BlkO.upd hn6 hU7 (by omega) (by omega)
          have ho7 := BlkO.upd ho6 hU7 (by omega) (by omega)
          have hx7 := BlkO.upd hx6 hU7 (by omega) (by omega)
          have hUt7 := hUt6.trans (hU7.mono (fun _ h => by rw [h]; omega) hzz)
          have hS7 := And.intro (hn7.cell 2 rfl) (Upd.noneE hUt7 hTT)
          refine WL.nil ?_
          refine QF.after hS7 ?_
          refine WH.take 10 rfl (by kernel_rfl) (by kernel_rfl) (by kernel_rfl) hS7 (fun w1 hw1 => RV.fieldAddr 2 Tryz.underlying48 rfl rfl (Tryz.sizeOf46 _) (by decide) rfl) rfl ?_
          refine WH.one 11 (by kernel_rfl) rfl ?_
          refine WL.storeBlk (j := 2) ho7 rfl (Tryz.sizeOf46 _) hs7 rfl rfl rfl ?_
          have ho8 : BlkO O7 (w7.setCell ⟨ob, 2, none⟩ lv7) (T + 2) ob #[.int .i64 k, .int .i64 c, lv7] 48 := ho7.set 2 lv7
          have hU8 : Upd (fun q => q = T + 2) O7 w7 O7 (w7.setCell ⟨ob, 2, none⟩ lv7) := Upd.set (by omega) ho7.tag rfl
          have hn8 := hn7.upd hU8 (by omega) (by omega)
          have hUt8 := hUt7.trans (hU8.mono (fun _ h => by rw [h]; omega) hzz)
          have hS8 := And.intro (hn8.cell 2 rfl) (Upd.noneE hUt8 hTT)
          refine WL.nil ?_
          refine QF.after hS8 ?_
          refine WH.done (by kernel_rfl) ?_
          refine QF.blockNormal ?_
          refine QF.seqNext ?_
          refine WC.region ?_
          refine WL.v (RV.move rfl) rfl ?_
          refine WL.v (RV.add rfl rfl (Fit.i64 (by omega))) rfl ?_
          refine WL.v (RV.assign rfl) rfl ?_
          refine WL.nil ?_
          refine QF.next ((i + 1, O7, (w7.setCell ⟨ob, 2, none⟩ lv7), lv7, zs ++ [z])) (⟨hlt, hn8, hx7.upd hU8 (by omega) (by omega), ho8, hrow7.upd hU8 (by omega) (by omega), by simp [hzl], fun m hm => ?_, hUt8, hR7.upd hU8⟩) (by dsimp only; omega) ⟨rfl, rfl, rfl, rfl, trivial⟩ rfl
          dsimp only at hm ⊢
          by_cases e : m < i
          · rw [nth_eq (xs := zs ++ [z]) (by simp; omega), List.getElem_append_left (by omega), ← nth_eq (by omega)]
            exact ((hzn6 m e).upd hU7).upd hU8
          · obtain rfl : m = zs.length := by omega
            rw [nth_eq (xs := zs ++ [z]) (by simp), List.getElem_append_right (by omega)]
            simp only [Nat.sub_self, List.getElem_cons_zero]
            rw [hzl]
            exact (hz6.upd hU7).upd hU8
    · intro hge
      obtain rfl : i = xs.length := by have := of_decide_eq_false hge; omega
      have hlo := hrow1.one
      refine WC.exit ?_
      refine QF.thenExit ?_
      refine QF.thenExit ?_
      refine QF.blockHit ?_
      refine QF.seqNext ?_
      refine WC.seq ?_
      refine WC.region ?_
      refine WL.v (RV.loadAgg (us := encN ((k, c, lv) : N3)) ho1'.cellsAdd (Tryz.isAgg48 _) (Tryz.sizeOf48 _) rfl) rfl ?_
      refine WL.storeAgg (us := #[.int .i64 k, .int .i64 c, lv]) hx1' rfl (Tryz.sizeOf48 _) (nv_ok (x := (k, c, lv)) hlo) rfl rfl rfl ?_
      have hx9 := hx1'.setRow (us := #[.int .i64 k, .int .i64 c, lv])
      have hU9 : Upd (fun q => q = T) O1' w1' O1' (w1'.setRow xb #[.int .i64 k, .int .i64 c, lv]) := Upd.setRow (by omega) hx1'.tag rfl
      have hrow9 := hrow1.upd hU9 (by omega) (by omega)
      have hUt9 := hUt1.trans (hU9.mono (fun _ h => by rw [h]; omega) hzz)
      have hN : Nt O (w1'.setRow xb #[.int .i64 k, .int .i64 c, lv]) (.mk k c kids) (k, c, lv) :=
        .mk hrow9.sl (hrow9.freeT (by omega) (fun b => by have := hT b; omega) (hR1'.upd hU9) hUt9) (by omega) (fun m hm => ((hzn m (by omega)).upd hU9).low hUt9)
      refine WL.nil ?_
      refine QF.seqNext ?_
      refine WC.ret ?_
      refine QF.doneC1 rfl rfl (hx9.cellsAdd) (Tryz.isAgg48 _) (Tryz.sizeOf48 _) (⟨(k, c, lv), rfl, hN, Upd.noneE hUt9 hTT⟩)
end Go.Proofs.YtmohcfjopaccdaaGreatDoor
