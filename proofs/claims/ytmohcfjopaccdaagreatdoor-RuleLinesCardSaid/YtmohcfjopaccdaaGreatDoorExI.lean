/- Package expr, walked: Parse. -/
import Derived.Test.YtmohcfjopaccdaaGreatDoorExG
namespace Go.VL
/-- Two who keep count of owners, in one. -/
def mix (A C : Nat → Nat) (b : Nat) : Nat := if A b = 0 then C b else A b
theorem mix_tag {A C : Nat → Nat} {b i : Nat} (h : A b = i) (hi : i ≠ 0) : mix A C b = i := by unfold mix; rw [if_neg (by omega)]; exact h
theorem mix_z {A C : Nat → Nat} {b : Nat} (h : mix A C b = 0) : C b = 0 := by
  unfold mix at h
  split at h
  · exact h
  · rename_i h1; exact absurd h h1
theorem Rng.mix {B : Nat} {A C : Nat → Nat} {w : World} (h : Rng B A w) (k : Rng B C w) : Rng B (mix A C) w := ⟨h.le, fun b hb => by
  unfold VL.mix at hb
  split at hb
  · exact k.rng b hb
  · rename_i h1; exact h.rng b h1⟩
end Go.VL
namespace Go.Proofs.YtmohcfjopaccdaaGreatDoor
open Go.VL Go.Proofs
set_option maxRecDepth 10000
variable {kn : Kn}

def PostX (O : Nat → Nat) (w : World) (v : Value) : XR → Prop
  | .ok t => ∃ x, v = .tuple #[nv x, .int .i64 0, .int .i64 0] ∧ Nt O w t x
  | .bad p e => v = .tuple #[nv (0, 0, .slice none 0 0), .int .i64 (p : Int), .int .i64 e] ∧ e ≠ 0
theorem pl123 : Places Tryz.prog 123 #[(0, 1), (1, 1)] := ⟨_, Tryz.underlying123, fun w => by kernel_rfl⟩
theorem pl125 : Places Tryz.prog 125 #[(0, 2), (2, 1), (3, 1), (4, 1), (5, 1)] := ⟨_, Tryz.underlying125, fun w => by kernel_rfl⟩
theorem parse2_ret (kv : Value) (l : List UInt8) (B : Nat) (O O' : Nat → Nat) (w : World) (hR0 : Rng B O w) (hR : Rng B O' w) (hkn : Known O' w kv kn) : Ret Tryz.prog 56 [.string (bs l), kv] w fun v w' => Ext w w' ∧ PostX O w' v (exprK kn l) := by
  obtain ⟨T, hT0, hT⟩ := hR.bound
  have hzz : ¬ (fun q : Nat => T ≤ q) 0 := fun e => by omega
  have hA := alts_reads (kv := kv) (kn := kn) 20 (Nat.le_refl _)
  rw [show (20 : Int) - ((20 : Nat) : Int) = 0 from by omega] at hA
  have hgA := altsK_good (kn := kn) 20 l
  obtain ⟨ms, hkm⟩ := hkn
  obtain ⟨qa, qc, hkv, _⟩ := hkm.1.shape
  replace hkn : Known O' w kv kn := ⟨ms, hkm⟩
  subst hkv
  refine Ret.enter Tryz.func56 Tryz.ntmps56 rfl rfl ?_
  refine WC.seq ?_
  refine WC.region ?_
  refine WL.allocO hR T (by omega) (Tryz.zeroValue48 _) rfl ?_
  intro xb w1 O1 hx1 hU1 hR1 hE1
  have hUt1 : Upd (fun q => T ≤ q) O' w O1 w1 := hU1.mono (fun _ h => Nat.le_of_eq h.symm) hzz
  refine WL.v (RV.assign rfl) rfl ?_
  refine WL.v (RV.assign rfl) rfl ?_
  refine WL.nil ?_
  refine QF.seqNext ?_
  refine WC.seq ?_
  refine WC.seq ?_
  refine WC.region ?_
  refine WL.v (RV.move rfl) rfl ?_
  refine WL.v (RV.lenS Tryz.underlying9 rfl) rfl ?_
  refine WL.v (RV.gtr rfl rfl) rfl ?_
  refine WL.nil ?_
  refine QF.seqNext ?_
  by_cases hl : 4096 < l.length
  · have hM : exprK kn l = .bad 0 3 := by unfold exprK; rw [if_pos hl]
    rw [hM]
    refine WC.condT rfl ((decide_eq_true (by omega))) ?_
    refine WC.seq ?_
    refine WC.region ?_
    refine WL.v (RV.buildF pl48 (Tryz.zeroValue48 _) rfl (by first | rfl | (simp only [List.all_cons, List.all_nil]; rfl)) rfl rfl) rfl ?_
    refine WL.storeAgg (us := #[.int .i64 0, .int .i64 0, .slice none 0 0]) hx1 rfl (Tryz.sizeOf48 _) rfl rfl rfl rfl ?_
    have hxz := BlkO.setRow (us := #[.int .i64 0, .int .i64 0, .slice none 0 0]) hx1
    have hUz : Upd (fun k => k = T) O1 w1 O1 (World.setRow w1 xb #[.int .i64 0, .int .i64 0, .slice none 0 0]) := Upd.setRow (by omega) (BlkO.tag hx1) rfl
    refine WL.v (RV.assign rfl) rfl ?_
    refine WL.v (RV.assign rfl) rfl ?_
    refine WL.nil ?_
    refine QF.seqNext ?_
    refine WC.ret ?_
    refine QF.thenRet ?_
    refine QF.doneC3 rfl rfl rfl rfl hxz.cellsAdd (Tryz.isAgg48 _) (Tryz.sizeOf48 _) ⟨Upd.noneE (hUt1.trans (hUz.mono (fun _ h => Nat.le_of_eq h.symm) hzz)) (fun b => by have := hT b; omega), rfl, by decide⟩
  · skip
    refine WC.condF rfl ((decide_eq_false (by omega))) ?_
    refine WC.skip ?_
    refine QF.seqNext ?_
    refine WC.seq ?_
    refine WC.region ?_
    refine WL.v (RV.move rfl) rfl ?_
    refine WL.v (RV.buildF pl123 (Tryz.zeroValue123 _) rfl (by first | rfl | (simp only [List.all_cons, List.all_nil]; rfl)) rfl rfl) rfl ?_
    refine WL.v (RV.move rfl) rfl ?_
    refine WL.v (RV.build (cells := rdr (.slice qa ms.length qc) l 0 0 0 0) pl125 (Tryz.zeroValue125 _) rfl rfl) rfl ?_
    refine WL.boxO hR1 (T + 1) (by omega) rfl rfl ?_
    intro rb w2 O2 hb2' hU2 hR2 hE2
    have hb2 : Rdr (.slice qa ms.length qc) O2 w2 (T + 1) rb l ((l.length : Int) - (l.length : Int)) 0 0 0 := by
      rw [show (l.length : Int) - (l.length : Int) = 0 from by omega]; exact hb2'
    have hx2 := hx1.upd hU2 (by omega) (by omega)
    have hUt2 := hUt1.trans (hU2.mono (fun _ h => by rw [h]; omega) hzz)
    refine WL.v (RV.assign rfl) rfl ?_
    refine WL.nil ?_
    refine QF.seqNext ?_
    refine WC.seq ?_
    refine WC.region ?_
    refine WL.v (RV.move rfl) rfl ?_
    refine WL.call Tryz.call81 rfl (hA B O2 (T + 1) rb l l w2 hR2 (by omega) (List.suffix_refl l) (by omega) trivial hb2 (hkn.upd hUt2)) rfl ?_
    rintro v w3 ⟨x, rfl, hU3, hP3⟩
    have hxo := hP3.one
    have hx3 := hx2.upd hU3 (by omega) (by omega)
    have hR3 := hR2.upd hU3
    have hUt3 := hUt2.trans (hU3.mono (fun _ h => by rw [h]; omega) hzz)
    refine WL.allocO hR3 (T + 2) (by omega) (Tryz.zeroValue48 _) rfl ?_
    intro nb w4 O4 hn4 hU4 hR4 hE4
    refine WL.storeAgg (us := #[.int .i64 x.1, .int .i64 x.2.1, x.2.2]) hn4 rfl (Tryz.sizeOf48 _) (nv_ok hxo) rfl rfl rfl ?_
    have hn5 := hn4.setRow (us := #[.int .i64 x.1, .int .i64 x.2.1, x.2.2])
    have hU5 : Upd (fun k => k = T + 2) O4 w4 O4 (w4.setRow nb #[.int .i64 x.1, .int .i64 x.2.1, x.2.2]) := Upd.setRow (by omega) hn4.tag rfl
    have hU45 := hU4.trans hU5
    have hx5 := hx3.upd hU45 (by omega) (by omega)
    have hP5 := hP3.upd hU45 (by omega) (by omega)
    have hR5 := hR3.upd hU45
    have hUt5 := hUt3.trans (hU45.mono (fun _ h => by rw [h]; omega) hzz)
    generalize w4.setRow nb #[.int .i64 x.1, .int .i64 x.2.1, x.2.2] = w5 at *
    cases hf : altsK kn 20 l with
    | bad p e =>
      rw [hf] at hgA hP5
      have hM : exprK kn l = .bad (l.length - p) e := by unfold exprK; rw [if_neg hl, hf]
      have hgA1 := hgA.1
      have hgA2 := hgA.2
      obtain ⟨g1, a, op', hb5, g2, g3, g4, g5⟩ := hP5
      replace hb5 : BlkO O4 w5 (T + 1) rb (rdr (.slice qa ms.length qc) l a op' ((l.length : Int) - (p : Int)) e) 125 := hb5
      rw [hM]
      refine WL.nil ?_
      refine QF.seqNext ?_
      refine WC.seq ?_
      refine WC.seq ?_
      refine WC.region ?_
      refine WL.v (RV.move rfl) rfl ?_
      refine WL.v (RV.nilPtr rfl) rfl ?_
      refine WL.v (RV.fieldAddr 5 Tryz.underlying125 rfl rfl (Tryz.sizeOf27 _) (by decide) rfl) rfl ?_
      refine WL.v (RV.load (by first | exact hb5.r0 | exact hb5.r1 | exact hb5.r2 | exact hb5.r3 | exact hb5.r4 | exact hb5.r5) (Tryz.isAgg27 _) rfl) rfl ?_
      refine WL.v (RV.eql rfl rfl) rfl ?_
      refine WL.v (RV.move rfl) rfl ?_
      refine WL.know (d := 25) rfl (b' := false) ((by simpa using hgA2)) ?_
      refine WL.off rfl rfl rfl ?_
      refine WL.off rfl rfl rfl ?_
      refine WL.off rfl rfl rfl ?_
      refine WL.off rfl rfl rfl ?_
      refine WL.off rfl rfl rfl ?_
      refine WL.v (RV.pickF rfl rfl) rfl ?_
      refine WL.nil ?_
      refine QF.seqNext ?_
      refine WC.condF rfl rfl ?_
      refine WC.skip ?_
      refine QF.seqNext ?_
      refine WC.seq ?_
      refine WC.seq ?_
      refine WC.region ?_
      refine WL.v (RV.move rfl) rfl ?_
      refine WL.v (RV.nilPtr rfl) rfl ?_
      refine WL.v (RV.fieldAddr 5 Tryz.underlying125 rfl rfl (Tryz.sizeOf27 _) (by decide) rfl) rfl ?_
      refine WL.v (RV.load (by first | exact hb5.r0 | exact hb5.r1 | exact hb5.r2 | exact hb5.r3 | exact hb5.r4 | exact hb5.r5) (Tryz.isAgg27 _) rfl) rfl ?_
      refine WL.v (RV.eql rfl rfl) rfl ?_
      refine WL.v (RV.move rfl) rfl ?_
      refine WL.know (d := 44) rfl (b' := false) ((by simpa using hgA2)) ?_
      refine WL.off rfl rfl rfl ?_
      refine WL.off rfl rfl rfl ?_
      refine WL.off rfl rfl rfl ?_
      refine WL.off rfl rfl rfl ?_
      refine WL.off rfl rfl rfl ?_
      refine WL.off rfl rfl rfl ?_
      refine WL.off rfl rfl rfl ?_
      refine WL.off rfl rfl rfl ?_
      refine WL.v (RV.pickF rfl rfl) rfl ?_
      refine WL.nil ?_
      refine QF.seqNext ?_
      refine WC.condF rfl rfl ?_
      refine WC.skip ?_
      refine QF.seqNext ?_
      refine WC.seq ?_
      refine WC.block ?_
      refine WC.seq ?_
      refine WC.region ?_
      refine WL.v (RV.move rfl) rfl ?_
      refine WL.v (RV.nilPtr rfl) rfl ?_
      refine WL.v (RV.fieldAddr 5 Tryz.underlying125 rfl rfl (Tryz.sizeOf27 _) (by decide) rfl) rfl ?_
      refine WL.v (RV.load (by first | exact hb5.r0 | exact hb5.r1 | exact hb5.r2 | exact hb5.r3 | exact hb5.r4 | exact hb5.r5) (Tryz.isAgg27 _) rfl) rfl ?_
      refine WL.v (RV.neq rfl rfl) rfl ?_
      refine WL.v (RV.assign rfl) rfl ?_
      refine WL.nil ?_
      refine QF.seqNext ?_
      refine WC.condT rfl ((by simpa using hgA2)) ?_
      have hbd := BlkO.drew hb5
      refine WC.seq ?_
      refine WC.draw (fun W => W.cell? ⟨rb, 4, none⟩ = some (.int .i64 ((l.length : Int) - (p : Int))) ∧ W.cell? ⟨rb, 5, none⟩ = some (.int .i64 e)) 12 rfl (by kernel_rfl) ?_
      refine WH.take 0 rfl (by kernel_rfl) (by kernel_rfl) (by kernel_rfl) ⟨hbd.r4, hbd.r5⟩ (fun w1 hw1 => RV.buildF pl48 (Tryz.zeroValue48 _) rfl (by first | rfl | (simp only [List.all_cons, List.all_nil]; rfl)) rfl rfl) rfl ?_
      refine WH.take 1 rfl (by kernel_rfl) (by kernel_rfl) (by kernel_rfl) ⟨hbd.r4, hbd.r5⟩ (fun w1 hw1 => RV.move rfl) rfl ?_
      refine WH.take 2 rfl (by kernel_rfl) (by kernel_rfl) (by kernel_rfl) ⟨hbd.r4, hbd.r5⟩ (fun w1 hw1 => RV.nilPtr rfl) rfl ?_
      refine WH.take 3 rfl (by kernel_rfl) (by kernel_rfl) (by kernel_rfl) ⟨hbd.r4, hbd.r5⟩ (fun w1 hw1 => RV.fieldAddr 4 Tryz.underlying125 rfl rfl (Tryz.sizeOf3 _) (by decide) rfl) rfl ?_
      refine WH.take 4 rfl (by kernel_rfl) (by kernel_rfl) (by kernel_rfl) ⟨hbd.r4, hbd.r5⟩ (fun w1 hw1 => RV.load (by first | exact hw1.1 | exact hw1.2) (Tryz.isAgg3 _) rfl) rfl ?_
      refine WH.take 5 rfl (by kernel_rfl) (by kernel_rfl) (by kernel_rfl) ⟨hbd.r4, hbd.r5⟩ (fun w1 hw1 => RV.move rfl) rfl ?_
      refine WH.take 6 rfl (by kernel_rfl) (by kernel_rfl) (by kernel_rfl) ⟨hbd.r4, hbd.r5⟩ (fun w1 hw1 => RV.nilPtr rfl) rfl ?_
      refine WH.take 7 rfl (by kernel_rfl) (by kernel_rfl) (by kernel_rfl) ⟨hbd.r4, hbd.r5⟩ (fun w1 hw1 => RV.fieldAddr 5 Tryz.underlying125 rfl rfl (Tryz.sizeOf27 _) (by decide) rfl) rfl ?_
      refine WH.take 8 rfl (by kernel_rfl) (by kernel_rfl) (by kernel_rfl) ⟨hbd.r4, hbd.r5⟩ (fun w1 hw1 => RV.load (by first | exact hw1.1 | exact hw1.2) (Tryz.isAgg27 _) rfl) rfl ?_
      refine WH.one 9 (by kernel_rfl) rfl ?_
      refine WL.storeAgg (us := #[.int .i64 0, .int .i64 0, .slice none 0 0]) (BlkO.drew hx5) rfl (Tryz.sizeOf48 _) rfl rfl rfl rfl ?_
      have hxz := BlkO.setRow (us := #[.int .i64 0, .int .i64 0, .slice none 0 0]) (BlkO.drew hx5)
      have hUz : Upd (fun k => k = T) O4 (World.drew w5) O4 (World.setRow (World.drew w5) xb #[.int .i64 0, .int .i64 0, .slice none 0 0]) := Upd.setRow (by omega) (BlkO.tag hx5) rfl
      have hbz := BlkO.upd hbd hUz (by omega) (by omega)
      refine WL.nil ?_
      refine QF.after (⟨hbz.r4, hbz.r5⟩) ?_
      refine WH.take 10 rfl (by kernel_rfl) (by kernel_rfl) (by kernel_rfl) (⟨hbz.r4, hbz.r5⟩) (fun w1 hw1 => RV.assign rfl) rfl ?_
      refine WH.take 11 rfl (by kernel_rfl) (by kernel_rfl) (by kernel_rfl) (⟨hbz.r4, hbz.r5⟩) (fun w1 hw1 => RV.assign rfl) rfl ?_
      refine WH.done (by kernel_rfl) ?_
      refine QF.seqNext ?_
      refine WC.ret ?_
      refine QF.blockRet ?_
      refine QF.thenRet ?_
      refine QF.doneC3 rfl rfl rfl rfl hxz.cellsAdd (Tryz.isAgg48 _) (Tryz.sizeOf48 _) ⟨Upd.noneE ((hUt5.drew).trans (hUz.mono (fun _ h => Nat.le_of_eq h.symm) hzz)) (fun b => by have := hT b; omega), ?_⟩
      exact ⟨by rw [show (l.length : Int) - (p : Int) = ((l.length - p : Nat) : Int) from by omega]; rfl, hgA2⟩
    | ok t r =>
      rw [hf] at hgA hP5
      obtain ⟨hb5, hnt5⟩ := hP5
      replace hb5 : BlkO O4 w5 (T + 1) rb (rdr (.slice qa ms.length qc) l ((l.length : Int) - (r.length : Int)) 0 0 0) 125 := hb5
      have hr := hgA.1
      have hq := (skipB_suf r).trans hr
      have hql := hq.length_le
      refine WL.nil ?_
      refine QF.seqNext ?_
      refine WC.seq ?_
      refine WC.seq ?_
      refine WC.region ?_
      refine WL.v (RV.move rfl) rfl ?_
      refine WL.v (RV.nilPtr rfl) rfl ?_
      refine WL.v (RV.fieldAddr 5 Tryz.underlying125 rfl rfl (Tryz.sizeOf27 _) (by decide) rfl) rfl ?_
      refine WL.v (RV.load (by first | exact hb5.r0 | exact hb5.r1 | exact hb5.r2 | exact hb5.r3 | exact hb5.r4 | exact hb5.r5) (Tryz.isAgg27 _) rfl) rfl ?_
      refine WL.v (RV.eql rfl rfl) rfl ?_
      refine WL.v (RV.move rfl) rfl ?_
      refine WL.know (d := 25) rfl (b' := true) (rfl) ?_
      refine WL.on rfl ?_
      refine WL.v (RV.move rfl) rfl ?_
      refine WL.on rfl ?_
      refine WL.v (RV.nilPtr rfl) rfl ?_
      refine WL.on rfl ?_
      refine WL.v (RV.fieldAddr 0 Tryz.underlying125 rfl rfl (Tryz.sizeOf123 _) (by decide) rfl) rfl ?_
      refine WL.on rfl ?_
      refine WL.call Tryz.call82 rfl (peek_ret O4 w5 (T + 1) rb l r 0 0 0 (by omega) hr (by omega) hb5) rfl ?_
      rintro v w6 ⟨rfl, hb6, hU6⟩
      have hx6 := hx5.upd hU6 (by omega) (by omega)
      have hn6 := hn5.upd hU6 (by omega) (by omega)
      have hR6 := hR5.upd hU6
      have hnt6 := hnt5.upd hU6
      have hUt6 := hUt5.trans (hU6.mono (fun _ h => by rw [h]; omega) hzz)
      refine WL.on rfl ?_
      refine WL.v (RV.neq rfl rfl) rfl ?_
      refine WL.v (RV.pickT rfl rfl) rfl ?_
      refine WL.nil ?_
      refine QF.seqNext ?_
      by_cases hq0 : (skipB r).length = 0
      · have hqn : skipB r = [] := List.eq_nil_of_length_eq_zero hq0
        have hM0 : exprK kn l = if 2000 < nsz t then .bad 0 3 else .ok t := by unfold exprK; rw [if_neg hl, hf]; dsimp only; rw [if_neg (by omega)]
        refine WC.condF rfl ((by rw [hqn]; rfl)) ?_
        refine WC.skip ?_
        refine QF.seqNext ?_
        refine WC.seq ?_
        refine WC.seq ?_
        refine WC.region ?_
        refine WL.v (RV.move rfl) rfl ?_
        refine WL.v (RV.nilPtr rfl) rfl ?_
        refine WL.v (RV.fieldAddr 5 Tryz.underlying125 rfl rfl (Tryz.sizeOf27 _) (by decide) rfl) rfl ?_
        refine WL.v (RV.load (by first | exact hb6.r0 | exact hb6.r1 | exact hb6.r2 | exact hb6.r3 | exact hb6.r4 | exact hb6.r5) (Tryz.isAgg27 _) rfl) rfl ?_
        refine WL.v (RV.eql rfl rfl) rfl ?_
        refine WL.v (RV.move rfl) rfl ?_
        refine WL.know (d := 44) rfl (b' := true) (rfl) ?_
        refine WL.on rfl ?_
        refine WL.v (RV.move rfl) rfl ?_
        refine WL.on rfl ?_
        refine WL.v (RV.nilPtr rfl) rfl ?_
        refine WL.on rfl ?_
        refine WL.v (RV.fieldAddr 0 Tryz.underlying125 rfl rfl (Tryz.sizeOf123 _) (by decide) rfl) rfl ?_
        refine WL.on rfl ?_
        refine WL.v (RV.fieldAddr 1 Tryz.underlying123 rfl rfl (Tryz.sizeOf3 _) (by decide) rfl) rfl ?_
        refine WL.on rfl ?_
        refine WL.v (RV.load (by first | exact hb6.r0 | exact hb6.r1 | exact hb6.r2 | exact hb6.r3 | exact hb6.r4 | exact hb6.r5) (Tryz.isAgg3 _) rfl) rfl ?_
        refine WL.on rfl ?_
        refine WL.v (RV.move rfl) rfl ?_
        refine WL.on rfl ?_
        refine WL.v (RV.lenS Tryz.underlying9 rfl) rfl ?_
        refine WL.on rfl ?_
        refine WL.v (RV.lss rfl rfl) rfl ?_
        refine WL.v (RV.pickT rfl rfl) rfl ?_
        refine WL.nil ?_
        refine QF.seqNext ?_
        refine WC.condF rfl ((decide_eq_false (by omega))) ?_
        refine WC.skip ?_
        refine QF.seqNext ?_
        refine WC.seq ?_
        refine WC.block ?_
        refine WC.seq ?_
        refine WC.region ?_
        refine WL.v (RV.move rfl) rfl ?_
        refine WL.v (RV.nilPtr rfl) rfl ?_
        refine WL.v (RV.fieldAddr 5 Tryz.underlying125 rfl rfl (Tryz.sizeOf27 _) (by decide) rfl) rfl ?_
        refine WL.v (RV.load (by first | exact hb6.r0 | exact hb6.r1 | exact hb6.r2 | exact hb6.r3 | exact hb6.r4 | exact hb6.r5) (Tryz.isAgg27 _) rfl) rfl ?_
        refine WL.v (RV.neq rfl rfl) rfl ?_
        refine WL.v (RV.assign rfl) rfl ?_
        refine WL.nil ?_
        refine QF.seqNext ?_
        refine WC.condF rfl (rfl) ?_
        refine WC.seq ?_
        refine WC.region ?_
        refine WL.v (RV.loadAgg (us := encN x) hn6.cellsAdd (Tryz.isAgg48 _) (Tryz.sizeOf48 _) rfl) rfl ?_
        refine WL.call Tryz.call73 rfl (size_ret (nsz t) t (Nat.le_refl _) x w6 2000 hnt6.zero (by omega)) rfl ?_
        rintro v w7 ⟨rfl, hE7⟩
        have hX7 : Upd (fun _ => False) O4 w6 O4 w7 := Upd.of_ext (fun h => h) O4 hE7
        have hx7 := hx6.upd hX7 (by omega) (fun h => h)
        have hn7 := hn6.upd hX7 (by omega) (fun h => h)
        have hUt7 := hUt6.trans (hX7.mono (fun _ h => h.elim) hzz)
        have hnt7 := hnt6.upd hX7
        have hR7 := hR6.upd hX7
        refine WL.v (RV.gtr rfl rfl) rfl ?_
        refine WL.v (RV.assign rfl) rfl ?_
        refine WL.nil ?_
        refine QF.seqNext ?_
        by_cases hz : 2000 < nsz t
        · have hM : exprK kn l = .bad 0 3 := by rw [hM0, if_pos hz]
          rw [hM]
          refine WC.condT rfl ((decide_eq_true (by omega))) ?_
          refine WC.seq ?_
          refine WC.region ?_
          refine WL.v (RV.buildF pl48 (Tryz.zeroValue48 _) rfl (by first | rfl | (simp only [List.all_cons, List.all_nil]; rfl)) rfl rfl) rfl ?_
          refine WL.storeAgg (us := #[.int .i64 0, .int .i64 0, .slice none 0 0]) hx7 rfl (Tryz.sizeOf48 _) rfl rfl rfl rfl ?_
          have hxz := BlkO.setRow (us := #[.int .i64 0, .int .i64 0, .slice none 0 0]) hx7
          have hUz : Upd (fun k => k = T) O4 w7 O4 (World.setRow w7 xb #[.int .i64 0, .int .i64 0, .slice none 0 0]) := Upd.setRow (by omega) (BlkO.tag hx7) rfl
          refine WL.v (RV.assign rfl) rfl ?_
          refine WL.v (RV.assign rfl) rfl ?_
          refine WL.nil ?_
          refine QF.seqNext ?_
          refine WC.ret ?_
          refine QF.blockRet ?_
          refine QF.thenRet ?_
          refine QF.doneC3 rfl rfl rfl rfl hxz.cellsAdd (Tryz.isAgg48 _) (Tryz.sizeOf48 _) ⟨Upd.noneE (hUt7.trans (hUz.mono (fun _ h => Nat.le_of_eq h.symm) hzz)) (fun b => by have := hT b; omega), rfl, by decide⟩
        · have hM : exprK kn l = .ok t := by rw [hM0, if_neg hz]
          rw [hM]
          refine WC.condF rfl ((decide_eq_false (by omega))) ?_
          refine WC.skip ?_
          refine QF.blockNormal ?_
          refine QF.seqNext ?_
          refine WC.seq ?_
          refine WC.region ?_
          refine WL.v (RV.loadAgg (us := encN x) hn7.cellsAdd (Tryz.isAgg48 _) (Tryz.sizeOf48 _) rfl) rfl ?_
          refine WL.call Tryz.call84 rfl (clone_ret (nsz t) (by omega) t (Nat.le_refl _) B (mix O4 O) x w7 (hR7.mix (hR0.ext (Upd.noneE hUt7 (fun b => by have := hT b; omega)))) hnt7.zero) rfl ?_
          rintro v w8 ⟨y, rfl, hnt8, hE8⟩
          have hX8 : Upd (fun _ => False) O4 w7 O4 w8 := Upd.of_ext (fun h => h) O4 hE8
          have hx8 := hx7.upd hX8 (by omega) (fun h => h)
          have hUt8 := hUt7.trans (hX8.mono (fun _ h => h.elim) hzz)
          have hyo := hnt8.one
          refine WL.storeAgg (us := #[.int .i64 y.1, .int .i64 y.2.1, y.2.2]) hx8 rfl (Tryz.sizeOf48 _) (nv_ok hyo) rfl rfl rfl ?_
          have hx9 := hx8.setRow (us := #[.int .i64 y.1, .int .i64 y.2.1, y.2.2])
          have hU9 : Upd (fun k => k = T) O4 w8 O4 (w8.setRow xb #[.int .i64 y.1, .int .i64 y.2.1, y.2.2]) := Upd.setRow (by omega) hx8.tag rfl
          have hU9' : Upd (fun k => k = T) (mix O4 O) w8 (mix O4 O) (w8.setRow xb #[.int .i64 y.1, .int .i64 y.2.1, y.2.2]) := Upd.setRow (by omega) (mix_tag hx8.tag (by omega)) rfl
          have hUt9 := hUt8.trans (hU9.mono (fun _ h => Nat.le_of_eq h.symm) hzz)
          refine WL.v (RV.assign rfl) rfl ?_
          refine WL.v (RV.assign rfl) rfl ?_
          refine WL.nil ?_
          refine QF.seqNext ?_
          refine WC.ret ?_
          refine QF.doneC3 rfl rfl rfl rfl hx9.cellsAdd (Tryz.isAgg48 _) (Tryz.sizeOf48 _) ⟨Upd.noneE hUt9 (fun b => by have := hT b; omega), y, rfl, (hnt8.upd hU9').weak (fun b hb => mix_z hb)⟩
      · have hM : exprK kn l = .bad (l.length - (skipB r).length) 4 := by unfold exprK; rw [if_neg hl, hf]; dsimp only; rw [if_pos hq0]
        rw [hM]
        by_cases hc : (skipB r).headD 0 = 0
        · skip
          refine WC.condF rfl ((by rw [hc]; rfl)) ?_
          refine WC.skip ?_
          refine QF.seqNext ?_
          refine WC.seq ?_
          refine WC.seq ?_
          refine WC.region ?_
          refine WL.v (RV.move rfl) rfl ?_
          refine WL.v (RV.nilPtr rfl) rfl ?_
          refine WL.v (RV.fieldAddr 5 Tryz.underlying125 rfl rfl (Tryz.sizeOf27 _) (by decide) rfl) rfl ?_
          refine WL.v (RV.load (by first | exact hb6.r0 | exact hb6.r1 | exact hb6.r2 | exact hb6.r3 | exact hb6.r4 | exact hb6.r5) (Tryz.isAgg27 _) rfl) rfl ?_
          refine WL.v (RV.eql rfl rfl) rfl ?_
          refine WL.v (RV.move rfl) rfl ?_
          refine WL.know (d := 44) rfl (b' := true) (rfl) ?_
          refine WL.on rfl ?_
          refine WL.v (RV.move rfl) rfl ?_
          refine WL.on rfl ?_
          refine WL.v (RV.nilPtr rfl) rfl ?_
          refine WL.on rfl ?_
          refine WL.v (RV.fieldAddr 0 Tryz.underlying125 rfl rfl (Tryz.sizeOf123 _) (by decide) rfl) rfl ?_
          refine WL.on rfl ?_
          refine WL.v (RV.fieldAddr 1 Tryz.underlying123 rfl rfl (Tryz.sizeOf3 _) (by decide) rfl) rfl ?_
          refine WL.on rfl ?_
          refine WL.v (RV.load (by first | exact hb6.r0 | exact hb6.r1 | exact hb6.r2 | exact hb6.r3 | exact hb6.r4 | exact hb6.r5) (Tryz.isAgg3 _) rfl) rfl ?_
          refine WL.on rfl ?_
          refine WL.v (RV.move rfl) rfl ?_
          refine WL.on rfl ?_
          refine WL.v (RV.lenS Tryz.underlying9 rfl) rfl ?_
          refine WL.on rfl ?_
          refine WL.v (RV.lss rfl rfl) rfl ?_
          refine WL.v (RV.pickT rfl rfl) rfl ?_
          refine WL.nil ?_
          refine QF.seqNext ?_
          refine WC.condT rfl ((decide_eq_true (by omega))) ?_
          refine WC.region ?_
          refine WL.v (RV.move rfl) rfl ?_
          refine WL.v (RV.move rfl) rfl ?_
          refine WL.v (RV.nilPtr rfl) rfl ?_
          refine WL.v (RV.fieldAddr 0 Tryz.underlying125 rfl rfl (Tryz.sizeOf123 _) (by decide) rfl) rfl ?_
          refine WL.v (RV.fieldAddr 1 Tryz.underlying123 rfl rfl (Tryz.sizeOf3 _) (by decide) rfl) rfl ?_
          refine WL.v (RV.load (by first | exact hb6.r0 | exact hb6.r1 | exact hb6.r2 | exact hb6.r3 | exact hb6.r4 | exact hb6.r5) (Tryz.isAgg3 _) rfl) rfl ?_
          refine WL.call Tryz.call83 rfl (fail_ret _ O4 w6 (T + 1) rb l _ _ 0 ((l.length : Int) - ((skipB r).length : Int)) 4 (by omega) hR6 hb6) rfl ?_
          rintro v w7 ⟨_, hb7, hU7⟩
          have hx7 := hx6.upd hU7 (by omega) (by omega)
          have hUt7 := hUt6.trans (hU7.mono (fun _ h => by rw [h]; omega) hzz)
          refine WL.nil ?_
          refine QF.seqNext ?_
          refine WC.seq ?_
          refine WC.block ?_
          refine WC.seq ?_
          refine WC.region ?_
          refine WL.v (RV.move rfl) rfl ?_
          refine WL.v (RV.nilPtr rfl) rfl ?_
          refine WL.v (RV.fieldAddr 5 Tryz.underlying125 rfl rfl (Tryz.sizeOf27 _) (by decide) rfl) rfl ?_
          refine WL.v (RV.load (by first | exact hb7.r0 | exact hb7.r1 | exact hb7.r2 | exact hb7.r3 | exact hb7.r4 | exact hb7.r5) (Tryz.isAgg27 _) rfl) rfl ?_
          refine WL.v (RV.neq rfl rfl) rfl ?_
          refine WL.v (RV.assign rfl) rfl ?_
          refine WL.nil ?_
          refine QF.seqNext ?_
          refine WC.condT rfl (rfl) ?_
          have hbd := BlkO.drew hb7
          refine WC.seq ?_
          refine WC.draw (fun W => W.cell? ⟨rb, 4, none⟩ = some (.int .i64 ((l.length : Int) - ((skipB r).length : Int))) ∧ W.cell? ⟨rb, 5, none⟩ = some (.int .i64 4)) 12 rfl (by kernel_rfl) ?_
          refine WH.take 0 rfl (by kernel_rfl) (by kernel_rfl) (by kernel_rfl) ⟨hbd.r4, hbd.r5⟩ (fun w1 hw1 => RV.buildF pl48 (Tryz.zeroValue48 _) rfl (by first | rfl | (simp only [List.all_cons, List.all_nil]; rfl)) rfl rfl) rfl ?_
          refine WH.take 1 rfl (by kernel_rfl) (by kernel_rfl) (by kernel_rfl) ⟨hbd.r4, hbd.r5⟩ (fun w1 hw1 => RV.move rfl) rfl ?_
          refine WH.take 2 rfl (by kernel_rfl) (by kernel_rfl) (by kernel_rfl) ⟨hbd.r4, hbd.r5⟩ (fun w1 hw1 => RV.nilPtr rfl) rfl ?_
          refine WH.take 3 rfl (by kernel_rfl) (by kernel_rfl) (by kernel_rfl) ⟨hbd.r4, hbd.r5⟩ (fun w1 hw1 => RV.fieldAddr 4 Tryz.underlying125 rfl rfl (Tryz.sizeOf3 _) (by decide) rfl) rfl ?_
          refine WH.take 4 rfl (by kernel_rfl) (by kernel_rfl) (by kernel_rfl) ⟨hbd.r4, hbd.r5⟩ (fun w1 hw1 => RV.load (by first | exact hw1.1 | exact hw1.2) (Tryz.isAgg3 _) rfl) rfl ?_
          refine WH.take 5 rfl (by kernel_rfl) (by kernel_rfl) (by kernel_rfl) ⟨hbd.r4, hbd.r5⟩ (fun w1 hw1 => RV.move rfl) rfl ?_
          refine WH.take 6 rfl (by kernel_rfl) (by kernel_rfl) (by kernel_rfl) ⟨hbd.r4, hbd.r5⟩ (fun w1 hw1 => RV.nilPtr rfl) rfl ?_
          refine WH.take 7 rfl (by kernel_rfl) (by kernel_rfl) (by kernel_rfl) ⟨hbd.r4, hbd.r5⟩ (fun w1 hw1 => RV.fieldAddr 5 Tryz.underlying125 rfl rfl (Tryz.sizeOf27 _) (by decide) rfl) rfl ?_
          refine WH.take 8 rfl (by kernel_rfl) (by kernel_rfl) (by kernel_rfl) ⟨hbd.r4, hbd.r5⟩ (fun w1 hw1 => RV.load (by first | exact hw1.1 | exact hw1.2) (Tryz.isAgg27 _) rfl) rfl ?_
          refine WH.one 9 (by kernel_rfl) rfl ?_
          refine WL.storeAgg (us := #[.int .i64 0, .int .i64 0, .slice none 0 0]) (BlkO.drew hx7) rfl (Tryz.sizeOf48 _) rfl rfl rfl rfl ?_
          have hxz := BlkO.setRow (us := #[.int .i64 0, .int .i64 0, .slice none 0 0]) (BlkO.drew hx7)
          have hUz : Upd (fun k => k = T) O4 (World.drew w7) O4 (World.setRow (World.drew w7) xb #[.int .i64 0, .int .i64 0, .slice none 0 0]) := Upd.setRow (by omega) (BlkO.tag hx7) rfl
          have hbz := BlkO.upd hbd hUz (by omega) (by omega)
          refine WL.nil ?_
          refine QF.after (⟨hbz.r4, hbz.r5⟩) ?_
          refine WH.take 10 rfl (by kernel_rfl) (by kernel_rfl) (by kernel_rfl) (⟨hbz.r4, hbz.r5⟩) (fun w1 hw1 => RV.assign rfl) rfl ?_
          refine WH.take 11 rfl (by kernel_rfl) (by kernel_rfl) (by kernel_rfl) (⟨hbz.r4, hbz.r5⟩) (fun w1 hw1 => RV.assign rfl) rfl ?_
          refine WH.done (by kernel_rfl) ?_
          refine QF.seqNext ?_
          refine WC.ret ?_
          refine QF.blockRet ?_
          refine QF.thenRet ?_
          refine QF.doneC3 rfl rfl rfl rfl hxz.cellsAdd (Tryz.isAgg48 _) (Tryz.sizeOf48 _) ⟨Upd.noneE ((hUt7.drew).trans (hUz.mono (fun _ h => Nat.le_of_eq h.symm) hzz)) (fun b => by have := hT b; omega), ?_⟩
          exact ⟨by rw [show (l.length : Int) - ((skipB r).length : Int) = ((l.length - (skipB r).length : Nat) : Int) from by omega]; rfl, by decide⟩
        · skip
          refine WC.condT rfl ((byteBne _ 0 (by decide) hc)) ?_
          refine WC.region ?_
          refine WL.v (RV.move rfl) rfl ?_
          refine WL.v (RV.move rfl) rfl ?_
          refine WL.v (RV.nilPtr rfl) rfl ?_
          refine WL.v (RV.fieldAddr 0 Tryz.underlying125 rfl rfl (Tryz.sizeOf123 _) (by decide) rfl) rfl ?_
          refine WL.v (RV.fieldAddr 1 Tryz.underlying123 rfl rfl (Tryz.sizeOf3 _) (by decide) rfl) rfl ?_
          refine WL.v (RV.load (by first | exact hb6.r0 | exact hb6.r1 | exact hb6.r2 | exact hb6.r3 | exact hb6.r4 | exact hb6.r5) (Tryz.isAgg3 _) rfl) rfl ?_
          refine WL.call Tryz.call83 rfl (fail_ret _ O4 w6 (T + 1) rb l _ _ 0 ((l.length : Int) - ((skipB r).length : Int)) 4 (by omega) hR6 hb6) rfl ?_
          rintro v w7 ⟨_, hb7, hU7⟩
          have hx7 := hx6.upd hU7 (by omega) (by omega)
          have hUt7 := hUt6.trans (hU7.mono (fun _ h => by rw [h]; omega) hzz)
          refine WL.nil ?_
          refine QF.seqNext ?_
          refine WC.seq ?_
          refine WC.seq ?_
          refine WC.region ?_
          refine WL.v (RV.move rfl) rfl ?_
          refine WL.v (RV.nilPtr rfl) rfl ?_
          refine WL.v (RV.fieldAddr 5 Tryz.underlying125 rfl rfl (Tryz.sizeOf27 _) (by decide) rfl) rfl ?_
          refine WL.v (RV.load (by first | exact hb7.r0 | exact hb7.r1 | exact hb7.r2 | exact hb7.r3 | exact hb7.r4 | exact hb7.r5) (Tryz.isAgg27 _) rfl) rfl ?_
          refine WL.v (RV.eql rfl rfl) rfl ?_
          refine WL.v (RV.move rfl) rfl ?_
          refine WL.know (d := 44) rfl (b' := false) (rfl) ?_
          refine WL.off rfl rfl rfl ?_
          refine WL.off rfl rfl rfl ?_
          refine WL.off rfl rfl rfl ?_
          refine WL.off rfl rfl rfl ?_
          refine WL.off rfl rfl rfl ?_
          refine WL.off rfl rfl rfl ?_
          refine WL.off rfl rfl rfl ?_
          refine WL.off rfl rfl rfl ?_
          refine WL.v (RV.pickF rfl rfl) rfl ?_
          refine WL.nil ?_
          refine QF.seqNext ?_
          refine WC.condF rfl rfl ?_
          refine WC.skip ?_
          refine QF.seqNext ?_
          refine WC.seq ?_
          refine WC.block ?_
          refine WC.seq ?_
          refine WC.region ?_
          refine WL.v (RV.move rfl) rfl ?_
          refine WL.v (RV.nilPtr rfl) rfl ?_
          refine WL.v (RV.fieldAddr 5 Tryz.underlying125 rfl rfl (Tryz.sizeOf27 _) (by decide) rfl) rfl ?_
          refine WL.v (RV.load (by first | exact hb7.r0 | exact hb7.r1 | exact hb7.r2 | exact hb7.r3 | exact hb7.r4 | exact hb7.r5) (Tryz.isAgg27 _) rfl) rfl ?_
          refine WL.v (RV.neq rfl rfl) rfl ?_
          refine WL.v (RV.assign rfl) rfl ?_
          refine WL.nil ?_
          refine QF.seqNext ?_
          refine WC.condT rfl (rfl) ?_
          have hbd := BlkO.drew hb7
          refine WC.seq ?_
          refine WC.draw (fun W => W.cell? ⟨rb, 4, none⟩ = some (.int .i64 ((l.length : Int) - ((skipB r).length : Int))) ∧ W.cell? ⟨rb, 5, none⟩ = some (.int .i64 4)) 12 rfl (by kernel_rfl) ?_
          refine WH.take 0 rfl (by kernel_rfl) (by kernel_rfl) (by kernel_rfl) ⟨hbd.r4, hbd.r5⟩ (fun w1 hw1 => RV.buildF pl48 (Tryz.zeroValue48 _) rfl (by first | rfl | (simp only [List.all_cons, List.all_nil]; rfl)) rfl rfl) rfl ?_
          refine WH.take 1 rfl (by kernel_rfl) (by kernel_rfl) (by kernel_rfl) ⟨hbd.r4, hbd.r5⟩ (fun w1 hw1 => RV.move rfl) rfl ?_
          refine WH.take 2 rfl (by kernel_rfl) (by kernel_rfl) (by kernel_rfl) ⟨hbd.r4, hbd.r5⟩ (fun w1 hw1 => RV.nilPtr rfl) rfl ?_
          refine WH.take 3 rfl (by kernel_rfl) (by kernel_rfl) (by kernel_rfl) ⟨hbd.r4, hbd.r5⟩ (fun w1 hw1 => RV.fieldAddr 4 Tryz.underlying125 rfl rfl (Tryz.sizeOf3 _) (by decide) rfl) rfl ?_
          refine WH.take 4 rfl (by kernel_rfl) (by kernel_rfl) (by kernel_rfl) ⟨hbd.r4, hbd.r5⟩ (fun w1 hw1 => RV.load (by first | exact hw1.1 | exact hw1.2) (Tryz.isAgg3 _) rfl) rfl ?_
          refine WH.take 5 rfl (by kernel_rfl) (by kernel_rfl) (by kernel_rfl) ⟨hbd.r4, hbd.r5⟩ (fun w1 hw1 => RV.move rfl) rfl ?_
          refine WH.take 6 rfl (by kernel_rfl) (by kernel_rfl) (by kernel_rfl) ⟨hbd.r4, hbd.r5⟩ (fun w1 hw1 => RV.nilPtr rfl) rfl ?_
          refine WH.take 7 rfl (by kernel_rfl) (by kernel_rfl) (by kernel_rfl) ⟨hbd.r4, hbd.r5⟩ (fun w1 hw1 => RV.fieldAddr 5 Tryz.underlying125 rfl rfl (Tryz.sizeOf27 _) (by decide) rfl) rfl ?_
          refine WH.take 8 rfl (by kernel_rfl) (by kernel_rfl) (by kernel_rfl) ⟨hbd.r4, hbd.r5⟩ (fun w1 hw1 => RV.load (by first | exact hw1.1 | exact hw1.2) (Tryz.isAgg27 _) rfl) rfl ?_
          refine WH.one 9 (by kernel_rfl) rfl ?_
          refine WL.storeAgg (us := #[.int .i64 0, .int .i64 0, .slice none 0 0]) (BlkO.drew hx7) rfl (Tryz.sizeOf48 _) rfl rfl rfl rfl ?_
          have hxz := BlkO.setRow (us := #[.int .i64 0, .int .i64 0, .slice none 0 0]) (BlkO.drew hx7)
          have hUz : Upd (fun k => k = T) O4 (World.drew w7) O4 (World.setRow (World.drew w7) xb #[.int .i64 0, .int .i64 0, .slice none 0 0]) := Upd.setRow (by omega) (BlkO.tag hx7) rfl
          have hbz := BlkO.upd hbd hUz (by omega) (by omega)
          refine WL.nil ?_
          refine QF.after (⟨hbz.r4, hbz.r5⟩) ?_
          refine WH.take 10 rfl (by kernel_rfl) (by kernel_rfl) (by kernel_rfl) (⟨hbz.r4, hbz.r5⟩) (fun w1 hw1 => RV.assign rfl) rfl ?_
          refine WH.take 11 rfl (by kernel_rfl) (by kernel_rfl) (by kernel_rfl) (⟨hbz.r4, hbz.r5⟩) (fun w1 hw1 => RV.assign rfl) rfl ?_
          refine WH.done (by kernel_rfl) ?_
          refine QF.seqNext ?_
          refine WC.ret ?_
          refine QF.blockRet ?_
          refine QF.thenRet ?_
          refine QF.doneC3 rfl rfl rfl rfl hxz.cellsAdd (Tryz.isAgg48 _) (Tryz.sizeOf48 _) ⟨Upd.noneE ((hUt7.drew).trans (hUz.mono (fun _ h => Nat.le_of_eq h.symm) hzz)) (fun b => by have := hT b; omega), ?_⟩
          exact ⟨by rw [show (l.length : Int) - ((skipB r).length : Int) = ((l.length - (skipB r).length : Nat) : Int) from by omega]; rfl, by decide⟩
theorem parseK_ret (kv : Value) (l : List UInt8) (B : Nat) (O : Nat → Nat) (w : World) (hR : Rng B O w) (hkn : Known O w kv kn) : Ret Tryz.prog 56 [.string (bs l), kv] w fun v w' => Ext w w' ∧ PostX O w' v (exprK kn l) := parse2_ret kv l B O O w hR hR hkn
theorem parse_ret (l : List UInt8) (B : Nat) (O : Nat → Nat) (w : World) (hR : Rng B O w) (_hlm : l.length ≤ 100000) : Ret Tryz.prog 56 [.string (bs l), .slice none 0 0] w fun v w' => Ext w w' ∧ PostX O w' v (exprM l) :=
  exprK_nil l ▸ parseK_ret (kn := []) (.slice none 0 0) l B O w hR (Known.nil O w)
end Go.Proofs.YtmohcfjopaccdaaGreatDoor
