/- Package expr, walked: size, clone; Parse. -/
import Derived.Test.YtmohcfjopaccdaaGreatDoorExC
namespace Go.Proofs.YtmohcfjopaccdaaGreatDoor
open Go.VL Go.Proofs
set_option maxRecDepth 10000

theorem size_ret : ∀ (n : Nat) (t : Nd), nsz t ≤ n → ∀ (x : N3) (w : World) (most : Nat), Nt (fun _ => 0) w t x → most ≤ 1000000 → Ret Tryz.prog 73 [nv x, .int .i64 (most : Int)] w fun v w' => v = .int .i64 ((min (nsz t) (most + 1) : Nat) : Int) ∧ Ext w w'
  | 0, t, hn => by have := nsz_pos t; omega
  | n + 1, .mk k c kids, hn => by
    intro x w most h hm
    obtain ⟨xs, hs, hf, hl, hk⟩ := h.kids
    simp only [Nd.kids] at hl hk
    have hkl := nszL_len kids
    simp only [nsz] at hn ⊢
    have hlen := hs.len_le
    refine Ret.enter Tryz.func73 Tryz.ntmps73 rfl rfl ?_
    refine WC.seq ?_
    refine WC.region ?_
    refine WL.boxO (Rng.start w) 1 (by omega) rfl rfl ?_
    intro xb w1 O1 hx1 hU1 hR1 hE1
    have hs1 := hs.ext hE1
    refine WL.v (RV.assign rfl) rfl ?_
    refine WL.nil ?_
    refine QF.seqNext ?_
    refine WC.seq ?_
    refine WC.region ?_
    refine WL.v (RV.assign rfl) rfl ?_
    refine WL.nil ?_
    refine QF.seqNext ?_
    refine WC.seq ?_
    refine WC.seq ?_
    refine WC.region ?_
    refine WL.v (RV.fieldAddr 2 Tryz.underlying48 rfl rfl (Tryz.sizeOf46 _) (by decide) rfl) rfl ?_
    refine WL.v (RV.load (by first | exact hx1.cell 2 rfl) (Tryz.isAgg46 _) rfl) rfl ?_
    refine WL.v (RV.len (by first | exact hs1) Tryz.underlying46 rfl) rfl ?_
    refine WL.v (RV.move rfl) rfl ?_
    refine WL.nil ?_
    refine QF.seqNext ?_
    refine WC.block ?_
    refine WC.loop (fun y : Nat × World => [(1, .int .i64 (most : Int)), (5, .int .i64 ((min (nszL (kids.take y.1) + 1) (most + 1) : Nat) : Int)), (9, x.2.2), (10, .int .i64 xs.length), (11, .int .i64 y.1)]) (fun y : Nat × World => y.2) (fun y : Nat × World => y.1 ≤ xs.length ∧ Ext w y.2) (fun y : Nat × World => xs.length - y.1) (0, w1) (⟨Nat.zero_le _, hE1⟩) ⟨rfl, rfl, rfl, rfl, rfl, trivial⟩ rfl ?_
    rintro ⟨i, w2⟩ ⟨hi, hE2⟩
    dsimp only at hi hE2 ⊢
    have hs2 := hs.ext hE2
    refine WC.seq ?_
    refine WC.region ?_
    refine WL.v (RV.lss rfl rfl) rfl ?_
    refine WL.nil ?_
    refine QF.seqNext ?_
    refine WC.seq ?_
    refine WC.cond rfl ?_ ?_
    · intro hlt
      replace hlt : i < xs.length := by have := of_decide_eq_true hlt; omega
      have hsu := nszL_succ kids i (by omega)
      have htk := nszL_take kids (i + 1)
      have hkn := (hk i hlt).ext hE2
      have hxo := hkn.one
      have hkz := nszL_nth kids i (by omega)
      refine WC.skip ?_
      refine QF.seqNext ?_
      refine WC.seq ?_
      refine WC.block ?_
      refine WC.seq ?_
      refine WC.region ?_
      refine WL.v (RV.indexAddr (by first | exact hs2) Tryz.underlying46 (Tryz.sizeOf48 _) rfl rfl _ rfl (by omega)) rfl ?_
      refine WL.v (RV.loadAgg (us := encN (nth xs i)) (fun j u hu => hs2.cell hlt hu) (Tryz.isAgg48 _) (Tryz.sizeOf48 _) rfl) rfl ?_
      refine WL.allocO (Rng.start w2) 1 (by omega) (Tryz.zeroValue48 _) rfl ?_
      intro kb w3 O3 hk3 hU3 hR3 hE3
      refine WL.storeAgg (us := #[.int .i64 (nth xs i).1, .int .i64 (nth xs i).2.1, (nth xs i).2.2]) hk3 rfl (Tryz.sizeOf48 _) (nv_ok hxo) rfl rfl rfl ?_
      have hk4 := hk3.setRow (us := #[.int .i64 (nth xs i).1, .int .i64 (nth xs i).2.1, (nth xs i).2.2])
      have hE4 : Ext w2 (w3.setRow kb #[.int .i64 (nth xs i).1, .int .i64 (nth xs i).2.1, (nth xs i).2.2]) := (hU3.trans (Upd.setRow (by decide) hk3.tag rfl)).ext
      generalize w3.setRow kb #[.int .i64 (nth xs i).1, .int .i64 (nth xs i).2.1, (nth xs i).2.2] = w4 at *
      refine WL.nil ?_
      refine QF.seqNext ?_
      refine WC.seq ?_
      refine WC.seq ?_
      refine WC.region ?_
      refine WL.v (RV.move rfl) rfl ?_
      refine WL.v (RV.move rfl) rfl ?_
      refine WL.v (RV.gtr rfl rfl) rfl ?_
      refine WL.nil ?_
      refine QF.seqNext ?_
      refine WC.cond rfl ?_ ?_
      · intro hgt
        replace hgt : most < nszL (kids.take i) + 1 := by have := of_decide_eq_true hgt; omega
        refine WC.seq ?_
        refine WC.region ?_
        refine WL.v (RV.move rfl) rfl ?_
        refine WL.v (RV.assign rfl) rfl ?_
        refine WL.nil ?_
        refine QF.seqNext ?_
        refine WC.ret ?_
        refine QF.thenRet ?_
        refine QF.blockRet ?_
        refine QF.thenRet ?_
        refine QF.thenRet ?_
        refine QF.blockRet ?_
        refine QF.thenRet ?_
        refine QF.done1 rfl rfl (⟨by congr 2; omega, hE2.trans hE4⟩)
      · intro hle
        replace hle : nszL (kids.take i) + 1 ≤ most := by have := of_decide_eq_false hle; omega
        refine WC.skip ?_
        refine QF.seqNext ?_
        refine WC.region ?_
        refine WL.v (RV.move rfl) rfl ?_
        refine WL.v (RV.loadAgg (us := encN (nth xs i)) hk4.cellsAdd (Tryz.isAgg48 _) (Tryz.sizeOf48 _) rfl) rfl ?_
        refine WL.v (RV.move rfl) rfl ?_
        refine WL.v (RV.move rfl) rfl ?_
        refine WL.v (RV.sub rfl rfl (Fit.i64 (by omega))) rfl ?_
        rw [show (most : Int) - ((min (nszL (kids.take i) + 1) (most + 1) : Nat) : Int) = ((most - (nszL (kids.take i) + 1) : Nat) : Int) from by omega]
        refine WL.call Tryz.call73 rfl (size_ret n (nth kids i) (by omega) (nth xs i) w4 (most - (nszL (kids.take i) + 1)) (hkn.ext hE4) (by omega)) rfl ?_
        rintro v w5 ⟨rfl, hE5⟩
        refine WL.v (RV.add rfl rfl (Fit.i64 (by omega))) rfl ?_
        refine WL.v (RV.assign rfl) rfl ?_
        refine WL.nil ?_
        refine QF.blockNormal ?_
        refine QF.seqNext ?_
        refine WC.region ?_
        refine WL.v (RV.add rfl rfl (Fit.i64 (by omega))) rfl ?_
        refine WL.v (RV.move rfl) rfl ?_
        refine WL.nil ?_
        rw [show ((min (nszL (kids.take i) + 1) (most + 1) : Nat) : Int) + ((min (nsz (nth kids i)) (most - (nszL (kids.take i) + 1) + 1) : Nat) : Int) = ((min (nszL (kids.take (i + 1)) + 1) (most + 1) : Nat) : Int) from by omega]
        refine QF.next ((i + 1, w5)) (⟨hlt, (hE2.trans hE4).trans hE5⟩) (by dsimp only; omega) ⟨rfl, rfl, rfl, rfl, rfl, trivial⟩ rfl
    · intro hge
      obtain rfl : i = xs.length := by have := of_decide_eq_false hge; omega
      refine WC.exit ?_
      refine QF.thenExit ?_
      refine QF.thenExit ?_
      refine QF.blockHit ?_
      refine QF.seqNext ?_
      refine WC.seq ?_
      refine WC.region ?_
      refine WL.v (RV.move rfl) rfl ?_
      refine WL.v (RV.assign rfl) rfl ?_
      refine WL.nil ?_
      refine QF.seqNext ?_
      refine WC.ret ?_
      refine QF.done1 rfl rfl (⟨by rw [← hl, List.take_length], hE2⟩)
theorem Upd.noneE {S : Nat → Prop} {O O' : Nat → Nat} {w w' : World} (h : Upd S O w O' w') (hS : ∀ b, ¬ S (O b)) : Ext w w' := ⟨h.os, h.tape, h.output, h.size, fun b hb => h.blk b hb (hS b)⟩
theorem Nt.ones {O : Nat → Nat} {w : World} {t : Nd} {x : N3} (h : Nt O w t x) : x = (t.kind, t.cls, x.2.2) := by cases h; rfl
theorem clone_ret : ∀ (n : Nat), n ≤ 1000000 → ∀ (t : Nd), nsz t ≤ n → ∀ (B : Nat) (O : Nat → Nat) (x : N3) (w : World), Rng B O w → Nt (fun _ => 0) w t x → Ret Tryz.prog 84 [nv x] w fun v w' => ∃ y, v = nv y ∧ Nt O w' t y ∧ Ext w w'
  | 0, _, t, hn => by have := nsz_pos t; omega
  | n + 1, hn6, .mk k c kids, hn => by
    intro B O x w hR h
    obtain ⟨T, hT0, hT⟩ := hR.bound
    obtain ⟨xs, hs, hf, hl, hk⟩ := h.kids
    simp only [Nd.kids] at hl hk
    obtain ⟨x0, x1, sv⟩ := x
    obtain rfl : k = x0 := (congrArg Prod.fst h.ones).symm
    obtain rfl : c = x1 := (congrArg (fun q : N3 => q.2.1) h.ones).symm
    dsimp only at hs hf
    have hkl := nszL_len kids
    simp only [nsz] at hn
    have hzz : ¬ (fun q : Nat => T ≤ q) 0 := fun e => by omega
    refine Ret.enter Tryz.func84 Tryz.ntmps84 rfl rfl ?_
    refine WC.seq ?_
    refine WC.region ?_
    refine WL.boxO hR (T + 1) (by omega) rfl rfl ?_
    intro nb w1 O1 hn1 hU1 hR1 hE1
    refine WL.allocO hR1 T (by omega) (Tryz.zeroValue48 _) rfl ?_
    intro xb w2 O2 hx2 hU2 hR2 hE2
    have hn2 := hn1.upd hU2 (by omega) (by omega)
    have n0 : w2.cell? ((⟨nb, 0, none⟩ : Addr).add 0) = some (.int .i64 k) := hn2.cell 0 rfl
    have n1 : w2.cell? ((⟨nb, 0, none⟩ : Addr).add 1) = some (.int .i64 c) := hn2.cell 1 rfl
    refine WL.nil ?_
    refine QF.seqNext ?_
    refine WC.seq ?_
    refine WC.region ?_
    refine WL.v (RV.fieldAddr 0 Tryz.underlying48 rfl rfl (Tryz.sizeOf3 _) (by decide) rfl) rfl ?_
    refine WL.v (RV.load (by first | exact n0 | exact n1) (Tryz.isAgg3 _) rfl) rfl ?_
    refine WL.v (RV.fieldAddr 1 Tryz.underlying48 rfl rfl (Tryz.sizeOf3 _) (by decide) rfl) rfl ?_
    refine WL.v (RV.load (by first | exact n0 | exact n1) (Tryz.isAgg3 _) rfl) rfl ?_
    refine WL.v (RV.buildF pl48 (Tryz.zeroValue48 _) rfl (by first | rfl | (simp only [List.all_cons, List.all_nil]; rfl)) rfl rfl) rfl ?_
    refine WL.allocO hR2 (T + 2) (by omega) (Tryz.zeroValue48 _) rfl ?_
    intro ob w3 O3 ho3 hU3 hR3 hE3
    refine WL.storeAgg (us := #[.int .i64 k, .int .i64 c, .slice none 0 0]) ho3 rfl (Tryz.sizeOf48 _) rfl rfl rfl rfl ?_
    have ho4 := ho3.setRow (us := #[.int .i64 k, .int .i64 c, .slice none 0 0])
    have hU4 : Upd (fun q => q = T + 2) O3 w3 O3 (w3.setRow ob #[.int .i64 k, .int .i64 c, .slice none 0 0]) := Upd.setRow (by omega) ho3.tag rfl
    have hU34 := hU3.trans hU4
    have hR4 := hR3.upd hU4
    have hn4 := hn2.upd hU34 (by omega) (by omega)
    have hx4 := hx2.upd hU34 (by omega) (by omega)
    have hUt4 : Upd (fun q => T ≤ q) O w O3 _ := ((hU1.mono (fun _ h => by rw [h]; omega) hzz).trans (hU2.mono (fun _ h => by rw [h]; omega) hzz)).trans (hU34.mono (fun _ h => by rw [h]; omega) hzz)
    generalize w3.setRow ob #[.int .i64 k, .int .i64 c, .slice none 0 0] = w4 at *
    have hE4 := Upd.noneE hUt4 (fun b => by have := hT b; omega)
    have hs4 := hs.ext hE4
    have n2 : w4.cell? ((⟨nb, 0, none⟩ : Addr).add 2) = some sv := hn4.cell 2 rfl
    refine WL.nil ?_
    refine QF.seqNext ?_
    refine WC.seq ?_
    refine WC.seq ?_
    refine WC.region ?_
    refine WL.v (RV.fieldAddr 2 Tryz.underlying48 rfl rfl (Tryz.sizeOf46 _) (by decide) rfl) rfl ?_
    refine WL.v (RV.load (by first | exact n2) (Tryz.isAgg46 _) rfl) rfl ?_
    refine WL.v (RV.len (by first | exact hs4) Tryz.underlying46 rfl) rfl ?_
    refine WL.v (RV.move rfl) rfl ?_
    refine WL.nil ?_
    refine QF.seqNext ?_
    refine WC.block ?_
    refine WC.loop (fun y : Nat × (Nat → Nat) × World × Value × List N3 => [(2, .pointer (some ⟨xb, 0, none⟩)), (3, .pointer (some ⟨ob, 0, none⟩)), (12, sv), (13, .int .i64 xs.length), (14, .int .i64 y.1)]) (fun y : Nat × (Nat → Nat) × World × Value × List N3 => y.2.2.1) (fun y : Nat × (Nat → Nat) × World × Value × List N3 => y.1 ≤ xs.length ∧ BlkO y.2.1 y.2.2.1 T xb #[.int .i64 0, .int .i64 0, .slice none 0 0] 48 ∧ BlkO y.2.1 y.2.2.1 (T + 2) ob #[.int .i64 k, .int .i64 c, y.2.2.2.1] 48 ∧ RowT encN 48 3 y.2.1 y.2.2.1 (T + 3) y.2.2.2.1 y.2.2.2.2 ∧ y.2.2.2.2.length = y.1 ∧ (∀ m, m < y.1 → Nt y.2.1 y.2.2.1 (nth kids m) (nth y.2.2.2.2 m)) ∧ Upd (fun q => T ≤ q) O w y.2.1 y.2.2.1 ∧ Rng B y.2.1 y.2.2.1) (fun y : Nat × (Nat → Nat) × World × Value × List N3 => xs.length - y.1) (0, O3, w4, .slice none 0 0, []) (⟨Nat.zero_le _, hx4, ho4, RowT.nil _ _ _ _ _ _, rfl, fun m hm => absurd hm (Nat.not_lt_zero m), hUt4, hR4⟩) ⟨rfl, rfl, rfl, rfl, rfl, trivial⟩ rfl ?_
    rintro ⟨i, O1', w1', lv, zs⟩ ⟨hi, hx1', ho1', hrow1, hzl, hzn, hUt1, hR1'⟩
    dsimp only at hi hx1' ho1' hrow1 hzl hzn hUt1 hR1' ⊢
    have hE1' := Upd.noneE hUt1 (fun b => by have := hT b; omega)
    have hs1 := hs.ext hE1'
    refine WC.seq ?_
    refine WC.region ?_
    refine WL.v (RV.lss rfl rfl) rfl ?_
    refine WL.nil ?_
    refine QF.seqNext ?_
    refine WC.seq ?_
    refine WC.cond rfl ?_ ?_
    · intro hlt
      replace hlt : i < xs.length := by have := of_decide_eq_true hlt; omega
      have hkn := (hk i hlt).ext hE1'
      have hxo := hkn.one
      have hkz := nszL_nth kids i (by omega)
      refine WC.skip ?_
      refine QF.seqNext ?_
      refine WC.seq ?_
      refine WC.block ?_
      refine WC.seq ?_
      refine WC.region ?_
      refine WL.v (RV.indexAddr (by first | exact hs1) Tryz.underlying46 (Tryz.sizeOf48 _) rfl rfl _ rfl (by omega)) rfl ?_
      refine WL.v (RV.loadAgg (us := encN (nth xs i)) (fun j u hu => hs1.cell hlt hu) (Tryz.isAgg48 _) (Tryz.sizeOf48 _) rfl) rfl ?_
      refine WL.allocO hR1' (T + 4) (by omega) (Tryz.zeroValue48 _) rfl ?_
      intro kb w2' O2' hk2 hU2' hR2' hE2'
      refine WL.storeAgg (us := #[.int .i64 (nth xs i).1, .int .i64 (nth xs i).2.1, (nth xs i).2.2]) hk2 rfl (Tryz.sizeOf48 _) (nv_ok hxo) rfl rfl rfl ?_
      have hk3 := hk2.setRow (us := #[.int .i64 (nth xs i).1, .int .i64 (nth xs i).2.1, (nth xs i).2.2])
      have hU3' : Upd (fun q => q = T + 4) O2' w2' O2' (w2'.setRow kb #[.int .i64 (nth xs i).1, .int .i64 (nth xs i).2.1, (nth xs i).2.2]) := Upd.setRow (by omega) hk2.tag rfl
      have hU23 := hU2'.trans hU3'
      have hx3 := (hx1'.upd hU23 (by omega) (by omega)).drew
      have ho3' := (ho1'.upd hU23 (by omega) (by omega)).drew
      have hrow3 := (hrow1.upd hU23 (by omega) (by omega)).drew
      have hR3' := (hR1'.upd hU23).drew
      have hzn3 : ∀ m, m < i → Nt O2' (w2'.setRow kb #[.int .i64 (nth xs i).1, .int .i64 (nth xs i).2.1, (nth xs i).2.2]).drew (nth kids m) (nth zs m) := fun m hm => ((hzn m hm).upd hU23).drew
      have hUt3 := (hUt1.trans (hU23.mono (fun _ h => by rw [h]; omega) hzz)).drew
      have hE3' := Upd.noneE hUt3 (fun b => by have := hT b; omega)
      have hk3d := hk3.drew
      have hkn3 : Nt (fun _ => 0) (w2'.setRow kb #[.int .i64 (nth xs i).1, .int .i64 (nth xs i).2.1, (nth xs i).2.2]).drew (nth kids i) (nth xs i) := (hk i hlt).ext hE3'
      refine WL.nil ?_
      refine QF.seqNext ?_
      refine WC.draw (fun W => ∀ (m : Nat) (u : Value), (encN (nth xs i))[m]? = some u → W.cell? ((⟨kb, 0, none⟩ : Addr).add m) = some u) 8 rfl (by kernel_rfl) ?_
      generalize (w2'.setRow kb #[.int .i64 (nth xs i).1, .int .i64 (nth xs i).2.1, (nth xs i).2.2]).drew = w3' at *
      have hc2 : w3'.cell? ((⟨ob, 0, none⟩ : Addr).add 2) = some lv := ho3'.cell 2 rfl
      refine WH.take 0 rfl (by kernel_rfl) (by kernel_rfl) (by kernel_rfl) hk3d.cellsAdd (fun w1 hw1 => RV.fieldAddr 2 Tryz.underlying48 rfl rfl (Tryz.sizeOf46 _) (by decide) rfl) rfl ?_
      refine WH.take 2 rfl (by kernel_rfl) (by kernel_rfl) (by kernel_rfl) hk3d.cellsAdd (fun w1 hw1 => RV.loadAgg (us := encN (nth xs i)) hw1 (Tryz.isAgg48 _) (Tryz.sizeOf48 _) rfl) rfl ?_
      have hcall := clone_ret n (by omega) (nth kids i) (by omega) B O2' (nth xs i) w3' hR3' hkn3
      refine WH.two 1 3 (by kernel_rfl) rfl rfl ?_ ?_
      · skip
        refine WL.v (RV.load hc2 (Tryz.isAgg46 _) rfl) rfl ?_
        refine WL.nil ?_
        refine QF.after hk3d.cellsAdd ?_
        refine WH.one 3 (by kernel_rfl) rfl ?_
        refine WL.call Tryz.call84 rfl hcall rfl ?_
        rintro v w5 ⟨z, rfl, hz5, hE5⟩
        have hX5 : Upd (fun _ => False) O2' w3' O2' w5 := Upd.of_ext (fun h => h) O2' hE5
        have hx5 := hx3.upd hX5 (by omega) (fun h => h)
        have ho5 := ho3'.upd hX5 (by omega) (fun h => h)
        have hrow5 := hrow3.upd hX5 (by omega) (fun h => h)
        have hR5 := hR3'.upd hX5
        have hk5 := hk3d.upd hX5 (by omega) (fun h => h)
        have hzn5 : ∀ m, m < i → Nt O2' w5 (nth kids m) (nth zs m) := fun m hm => (hzn3 m hm).upd hX5
        have hUt5 := hUt3.trans (hX5.mono (fun _ h => h.elim) hzz)
        refine WL.nil ?_
        refine QF.after hk5.cellsAdd ?_
        refine WH.one 4 (by kernel_rfl) rfl ?_
        refine WL.buildOne2 elN (enc := encN) z rfl rfl rfl (by decide) rfl ?_
        intro w6 h6 hE6
        have hX6 : Upd (fun _ => False) O2' w5 O2' w6 := Upd.of_ext (fun h => h) O2' hE6
        have hx6 := hx5.upd hX6 (by omega) (fun h => h)
        have ho6 := ho5.upd hX6 (by omega) (fun h => h)
        have hrow6 := hrow5.upd hX6 (by omega) (fun h => h)
        have hR6 := hR5.upd hX6
        have hk6 := hk5.upd hX6 (by omega) (fun h => h)
        have hzn6 : ∀ m, m < i → Nt O2' w6 (nth kids m) (nth zs m) := fun m hm => (hzn5 m hm).upd hX6
        have hz6 := hz5.upd hX6
        have hUt6 := hUt5.trans (hX6.mono (fun _ h => h.elim) hzz)
        refine WL.nil ?_
        refine QF.after hk6.cellsAdd ?_
        have hone6 : ∀ u ∈ [z], ∀ c ∈ encN u, c.oneCell' = true := fun u hu => by
          rw [List.mem_singleton.1 hu]; exact enc_one hz6.one
        refine WH.one 5 (by kernel_rfl) rfl ?_
        refine WL.appendSl elN hrow6 hR6 h6 (by simp) rfl rfl (fun _ _ => rfl) hone6 (by simp; omega) (by simp; omega) (by omega) rfl ?_
        intro lv7 w7 O7 hrow7 hU7 hR7
        have hs7 := hrow7.one
        have ho7 := BlkO.upd ho6 hU7 (by omega) (by omega)
        have hx7 := BlkO.upd hx6 hU7 (by omega) (by omega)
        have hk7 := BlkO.upd hk6 hU7 (by omega) (by omega)
        refine WL.nil ?_
        refine QF.after hk7.cellsAdd ?_
        refine WH.take 6 rfl (by kernel_rfl) (by kernel_rfl) (by kernel_rfl) hk7.cellsAdd (fun w1 hw1 => RV.fieldAddr 2 Tryz.underlying48 rfl rfl (Tryz.sizeOf46 _) (by decide) rfl) rfl ?_
        refine WH.one 7 (by kernel_rfl) rfl ?_
        refine WL.storeBlk (j := 2) ho7 rfl (Tryz.sizeOf46 _) hs7 rfl rfl rfl ?_
        have ho8 : BlkO O7 (w7.setCell ⟨ob, 2, none⟩ lv7) (T + 2) ob #[.int .i64 k, .int .i64 c, lv7] 48 := ho7.set 2 lv7
        have hU8 : Upd (fun q => q = T + 2) O7 w7 O7 (w7.setCell ⟨ob, 2, none⟩ lv7) := Upd.set (by omega) ho7.tag rfl
        have hk8 := hk7.upd hU8 (by omega) (by omega)
        refine WL.nil ?_
        refine QF.after hk8.cellsAdd ?_
        have hzz : ¬ (fun q : Nat => T ≤ q) 0 := fun e => by omega
        have hUt8 := (hUt6.trans (hU7.mono (fun _ h => by rw [h]; omega) hzz)).trans (hU8.mono (fun _ h => by rw [h]; omega) hzz)
        refine WH.done (by kernel_rfl) ?_
        refine QF.blockNormal ?_
        refine QF.seqNext ?_
        refine WC.region ?_
        refine WL.v (RV.add rfl rfl (Fit.i64 (by omega))) rfl ?_
        refine WL.v (RV.move rfl) rfl ?_
        refine WL.nil ?_
        refine QF.next ((i + 1, O7, (w7.setCell ⟨ob, 2, none⟩ lv7), lv7, zs ++ [z])) (⟨hlt, hx7.upd hU8 (by omega) (by omega), ho8, hrow7.upd hU8 (by omega) (by omega), by simp [hzl], fun m hm => ?_, hUt8, hR7.upd hU8⟩) (by dsimp only; omega) ⟨rfl, rfl, rfl, rfl, rfl, trivial⟩ rfl
        dsimp only at hm ⊢
        by_cases e : m < i
        · rw [nth_eq (xs := zs ++ [z]) (by simp; omega), List.getElem_append_left (by omega), ← nth_eq (by omega)]
          exact ((hzn6 m e).upd hU7).upd hU8
        · obtain rfl : m = zs.length := by omega
          rw [nth_eq (xs := zs ++ [z]) (by simp), List.getElem_append_right (by omega)]
          simp only [Nat.sub_self, List.getElem_cons_zero]
          rw [hzl]
          exact (hz6.upd hU7).upd hU8
      · skip
        refine WL.call Tryz.call84 rfl hcall rfl ?_
        rintro v w5 ⟨z, rfl, hz5, hE5⟩
        have hX5 : Upd (fun _ => False) O2' w3' O2' w5 := Upd.of_ext (fun h => h) O2' hE5
        have hx5 := hx3.upd hX5 (by omega) (fun h => h)
        have ho5 := ho3'.upd hX5 (by omega) (fun h => h)
        have hrow5 := hrow3.upd hX5 (by omega) (fun h => h)
        have hR5 := hR3'.upd hX5
        have hk5 := hk3d.upd hX5 (by omega) (fun h => h)
        have hzn5 : ∀ m, m < i → Nt O2' w5 (nth kids m) (nth zs m) := fun m hm => (hzn3 m hm).upd hX5
        have hUt5 := hUt3.trans (hX5.mono (fun _ h => h.elim) hzz)
        refine WL.nil ?_
        refine QF.after hk5.cellsAdd ?_
        have hc5 : w5.cell? ((⟨ob, 0, none⟩ : Addr).add 2) = some lv := ho5.cell 2 rfl
        refine WH.two 1 4 (by kernel_rfl) rfl rfl ?_ ?_
        · skip
          refine WL.v (RV.load hc5 (Tryz.isAgg46 _) rfl) rfl ?_
          refine WL.nil ?_
          refine QF.after hk5.cellsAdd ?_
          refine WH.one 4 (by kernel_rfl) rfl ?_
          refine WL.buildOne2 elN (enc := encN) z rfl rfl rfl (by decide) rfl ?_
          intro w6 h6 hE6
          have hX6 : Upd (fun _ => False) O2' w5 O2' w6 := Upd.of_ext (fun h => h) O2' hE6
          have hx6 := hx5.upd hX6 (by omega) (fun h => h)
          have ho6 := ho5.upd hX6 (by omega) (fun h => h)
          have hrow6 := hrow5.upd hX6 (by omega) (fun h => h)
          have hR6 := hR5.upd hX6
          have hk6 := hk5.upd hX6 (by omega) (fun h => h)
          have hzn6 : ∀ m, m < i → Nt O2' w6 (nth kids m) (nth zs m) := fun m hm => (hzn5 m hm).upd hX6
          have hz6 := hz5.upd hX6
          have hUt6 := hUt5.trans (hX6.mono (fun _ h => h.elim) hzz)
          refine WL.nil ?_
          refine QF.after hk6.cellsAdd ?_
          have hone6 : ∀ u ∈ [z], ∀ c ∈ encN u, c.oneCell' = true := fun u hu => by
            rw [List.mem_singleton.1 hu]; exact enc_one hz6.one
          refine WH.one 5 (by kernel_rfl) rfl ?_
          refine WL.appendSl elN hrow6 hR6 h6 (by simp) rfl rfl (fun _ _ => rfl) hone6 (by simp; omega) (by simp; omega) (by omega) rfl ?_
          intro lv7 w7 O7 hrow7 hU7 hR7
          have hs7 := hrow7.one
          have ho7 := BlkO.upd ho6 hU7 (by omega) (by omega)
          have hx7 := BlkO.upd hx6 hU7 (by omega) (by omega)
          have hk7 := BlkO.upd hk6 hU7 (by omega) (by omega)
          refine WL.nil ?_
          refine QF.after hk7.cellsAdd ?_
          refine WH.take 6 rfl (by kernel_rfl) (by kernel_rfl) (by kernel_rfl) hk7.cellsAdd (fun w1 hw1 => RV.fieldAddr 2 Tryz.underlying48 rfl rfl (Tryz.sizeOf46 _) (by decide) rfl) rfl ?_
          refine WH.one 7 (by kernel_rfl) rfl ?_
          refine WL.storeBlk (j := 2) ho7 rfl (Tryz.sizeOf46 _) hs7 rfl rfl rfl ?_
          have ho8 : BlkO O7 (w7.setCell ⟨ob, 2, none⟩ lv7) (T + 2) ob #[.int .i64 k, .int .i64 c, lv7] 48 := ho7.set 2 lv7
          have hU8 : Upd (fun q => q = T + 2) O7 w7 O7 (w7.setCell ⟨ob, 2, none⟩ lv7) := Upd.set (by omega) ho7.tag rfl
          have hk8 := hk7.upd hU8 (by omega) (by omega)
          refine WL.nil ?_
          refine QF.after hk8.cellsAdd ?_
          have hzz : ¬ (fun q : Nat => T ≤ q) 0 := fun e => by omega
          have hUt8 := (hUt6.trans (hU7.mono (fun _ h => by rw [h]; omega) hzz)).trans (hU8.mono (fun _ h => by rw [h]; omega) hzz)
          refine WH.done (by kernel_rfl) ?_
          refine QF.blockNormal ?_
          refine QF.seqNext ?_
          refine WC.region ?_
          refine WL.v (RV.add rfl rfl (Fit.i64 (by omega))) rfl ?_
          refine WL.v (RV.move rfl) rfl ?_
          refine WL.nil ?_
          refine QF.next ((i + 1, O7, (w7.setCell ⟨ob, 2, none⟩ lv7), lv7, zs ++ [z])) (⟨hlt, hx7.upd hU8 (by omega) (by omega), ho8, hrow7.upd hU8 (by omega) (by omega), by simp [hzl], fun m hm => ?_, hUt8, hR7.upd hU8⟩) (by dsimp only; omega) ⟨rfl, rfl, rfl, rfl, rfl, trivial⟩ rfl
          dsimp only at hm ⊢
          by_cases e : m < i
          · rw [nth_eq (xs := zs ++ [z]) (by simp; omega), List.getElem_append_left (by omega), ← nth_eq (by omega)]
            exact ((hzn6 m e).upd hU7).upd hU8
          · obtain rfl : m = zs.length := by omega
            rw [nth_eq (xs := zs ++ [z]) (by simp), List.getElem_append_right (by omega)]
            simp only [Nat.sub_self, List.getElem_cons_zero]
            rw [hzl]
            exact (hz6.upd hU7).upd hU8
        · skip
          refine WL.buildOne2 elN (enc := encN) z rfl rfl rfl (by decide) rfl ?_
          intro w6 h6 hE6
          have hX6 : Upd (fun _ => False) O2' w5 O2' w6 := Upd.of_ext (fun h => h) O2' hE6
          have hx6 := hx5.upd hX6 (by omega) (fun h => h)
          have ho6 := ho5.upd hX6 (by omega) (fun h => h)
          have hrow6 := hrow5.upd hX6 (by omega) (fun h => h)
          have hR6 := hR5.upd hX6
          have hk6 := hk5.upd hX6 (by omega) (fun h => h)
          have hzn6 : ∀ m, m < i → Nt O2' w6 (nth kids m) (nth zs m) := fun m hm => (hzn5 m hm).upd hX6
          have hz6 := hz5.upd hX6
          have hUt6 := hUt5.trans (hX6.mono (fun _ h => h.elim) hzz)
          refine WL.nil ?_
          refine QF.after hk6.cellsAdd ?_
          have hc6 : w6.cell? ((⟨ob, 0, none⟩ : Addr).add 2) = some lv := ho6.cell 2 rfl
          refine WH.one 1 (by kernel_rfl) rfl ?_
          refine WL.v (RV.load hc6 (Tryz.isAgg46 _) rfl) rfl ?_
          refine WL.nil ?_
          refine QF.after hk6.cellsAdd ?_
          have hone6 : ∀ u ∈ [z], ∀ c ∈ encN u, c.oneCell' = true := fun u hu => by
            rw [List.mem_singleton.1 hu]; exact enc_one hz6.one
          refine WH.one 5 (by kernel_rfl) rfl ?_
          refine WL.appendSl elN hrow6 hR6 h6 (by simp) rfl rfl (fun _ _ => rfl) hone6 (by simp; omega) (by simp; omega) (by omega) rfl ?_
          intro lv7 w7 O7 hrow7 hU7 hR7
          have hs7 := hrow7.one
          have ho7 := BlkO.upd ho6 hU7 (by omega) (by omega)
          have hx7 := BlkO.upd hx6 hU7 (by omega) (by omega)
          have hk7 := BlkO.upd hk6 hU7 (by omega) (by omega)
          refine WL.nil ?_
          refine QF.after hk7.cellsAdd ?_
          refine WH.take 6 rfl (by kernel_rfl) (by kernel_rfl) (by kernel_rfl) hk7.cellsAdd (fun w1 hw1 => RV.fieldAddr 2 Tryz.underlying48 rfl rfl (Tryz.sizeOf46 _) (by decide) rfl) rfl ?_
          refine WH.one 7 (by kernel_rfl) rfl ?_
          refine WL.storeBlk (j := 2) ho7 rfl (Tryz.sizeOf46 _) hs7 rfl rfl rfl ?_
          have ho8 : BlkO O7 (w7.setCell ⟨ob, 2, none⟩ lv7) (T + 2) ob #[.int .i64 k, .int .i64 c, lv7] 48 := ho7.set 2 lv7
          have hU8 : Upd (fun q => q = T + 2) O7 w7 O7 (w7.setCell ⟨ob, 2, none⟩ lv7) := Upd.set (by omega) ho7.tag rfl
          have hk8 := hk7.upd hU8 (by omega) (by omega)
          refine WL.nil ?_
          refine QF.after hk8.cellsAdd ?_
          have hzz : ¬ (fun q : Nat => T ≤ q) 0 := fun e => by omega
          have hUt8 := (hUt6.trans (hU7.mono (fun _ h => by rw [h]; omega) hzz)).trans (hU8.mono (fun _ h => by rw [h]; omega) hzz)
          refine WH.done (by kernel_rfl) ?_
          refine QF.blockNormal ?_
          refine QF.seqNext ?_
          refine WC.region ?_
          refine WL.v (RV.add rfl rfl (Fit.i64 (by omega))) rfl ?_
          refine WL.v (RV.move rfl) rfl ?_
          refine WL.nil ?_
          refine QF.next ((i + 1, O7, (w7.setCell ⟨ob, 2, none⟩ lv7), lv7, zs ++ [z])) (⟨hlt, hx7.upd hU8 (by omega) (by omega), ho8, hrow7.upd hU8 (by omega) (by omega), by simp [hzl], fun m hm => ?_, hUt8, hR7.upd hU8⟩) (by dsimp only; omega) ⟨rfl, rfl, rfl, rfl, rfl, trivial⟩ rfl
          dsimp only at hm ⊢
          by_cases e : m < i
          · rw [nth_eq (xs := zs ++ [z]) (by simp; omega), List.getElem_append_left (by omega), ← nth_eq (by omega)]
            exact ((hzn6 m e).upd hU7).upd hU8
          · obtain rfl : m = zs.length := by omega
            rw [nth_eq (xs := zs ++ [z]) (by simp), List.getElem_append_right (by omega)]
            simp only [Nat.sub_self, List.getElem_cons_zero]
            rw [hzl]
            exact (hz6.upd hU7).upd hU8
    · intro hge
      obtain rfl : i = xs.length := by have := of_decide_eq_false hge; omega
      have hlo := hrow1.one
      refine WC.exit ?_
      refine QF.thenExit ?_
      refine QF.thenExit ?_
      refine QF.blockHit ?_
      refine QF.seqNext ?_
      refine WC.seq ?_
      refine WC.region ?_
      refine WL.v (RV.loadAgg (us := encN ((k, c, lv) : N3)) ho1'.cellsAdd (Tryz.isAgg48 _) (Tryz.sizeOf48 _) rfl) rfl ?_
      refine WL.storeAgg (us := #[.int .i64 k, .int .i64 c, lv]) hx1' rfl (Tryz.sizeOf48 _) (nv_ok (x := (k, c, lv)) hlo) rfl rfl rfl ?_
      have hx9 := hx1'.setRow (us := #[.int .i64 k, .int .i64 c, lv])
      have hU9 : Upd (fun q => q = T) O1' w1' O1' (w1'.setRow xb #[.int .i64 k, .int .i64 c, lv]) := Upd.setRow (by omega) hx1'.tag rfl
      have hrow9 := hrow1.upd hU9 (by omega) (by omega)
      have hUt9 := hUt1.trans (hU9.mono (fun _ h => by rw [h]; omega) hzz)
      have hN : Nt O (w1'.setRow xb #[.int .i64 k, .int .i64 c, lv]) (.mk k c kids) (k, c, lv) :=
        .mk hrow9.sl (hrow9.freeT (by omega) (fun b => by have := hT b; omega) (hR1'.upd hU9) hUt9) (by omega) (fun m hm => ((hzn m (by omega)).upd hU9).low hUt9)
      refine WL.nil ?_
      refine QF.seqNext ?_
      refine WC.ret ?_
      refine QF.doneC1 rfl rfl (hx9.cellsAdd) (Tryz.isAgg48 _) (Tryz.sizeOf48 _) (⟨(k, c, lv), rfl, hN, Upd.noneE hUt9 (fun b => by have := hT b; omega)⟩)
end Go.Proofs.YtmohcfjopaccdaaGreatDoor
