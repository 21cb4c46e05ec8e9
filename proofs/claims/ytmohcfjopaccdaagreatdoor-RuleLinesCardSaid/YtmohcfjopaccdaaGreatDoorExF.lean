/- Package expr, walked: often, seq, alts. -/
import Derived.Test.YtmohcfjopaccdaaGreatDoorExE
namespace Go.Proofs.YtmohcfjopaccdaaGreatDoor
open Go.VL Go.Proofs
set_option maxRecDepth 10000
variable {kv : Value} {kn : Kn}

theorem opM_idx (c : UInt8) : idxB [42, 43, 63] c = match opM c with | some k => (k : Nat) | none => -1 := by
  unfold idxB opM
  by_cases h1 : c = 42
  · subst h1; rfl
  · by_cases h2 : c = 43
    · subst h2; rfl
    · by_cases h3 : c = 63
      · subst h3; rfl
      · rw [if_neg h1, if_neg h2, if_neg h3]
        have : [(42 : UInt8), 43, 63].findIdx? (· == c) = none := by
          rw [List.findIdx?_eq_none_iff]
          intro x hx
          simp at hx
          rcases hx with rfl | rfl | rfl <;> simp <;> intro e <;> first | exact h1 e.symm | exact h2 e.symm | exact h3 e.symm
        rw [this]
theorem often_ret (al : Option (List UInt8 → PR)) (op : Int) (hop : 0 ≤ op ∧ op ≤ 20) (ha : AltsOK kv kn al op) (hg : GoodF al) : Reads kv kn 124 [] op (oftenK kn al) (fun _ => True) := by
  intro B O j rb l r w hR hj hr hl hpre h hkn
  obtain ⟨T, hT0, hT⟩ := hR.bound
  have hjT : j < T := by rw [← h.tag]; exact hT rb
  have hrl := hr.length_le
  refine Ret.enter Tryz.func124 Tryz.ntmps124 rfl rfl ?_
  refine WC.seq ?_
  refine WC.region ?_
  refine WL.allocO hR T (by omega) (Tryz.zeroValue48 _) rfl ?_
  intro xb w1 O1 hx1 hU1 hR1 hE1
  have hb1 := h.upd hU1 hj (by omega)
  have hUt1 := hU1.pT hj hT0 (Nat.le_refl _)
  have hga := atomK_good (kn := kn) hg r
  refine WL.nil ?_
  refine QF.seqNext ?_
  refine WC.seq ?_
  refine WC.region ?_
  refine WL.v (RV.move rfl) rfl ?_
  refine WL.call Tryz.call136 rfl (atom_ret al op hop ha hg B O1 j rb l r w1 hR1 hj hr hl trivial hb1 (hkn.upd hUt1)) rfl ?_
  rintro v w2 ⟨x, rfl, hU2, hP2⟩
  have hxo := hP2.one
  have hx2 := hx1.upd hU2 (by omega) (by omega)
  have hR2 := hR1.upd hU2
  have hUt2 := hUt1.trans (hU2.pj hT0)
  refine WL.allocO hR2 (T + 1) (by omega) (Tryz.zeroValue48 _) rfl ?_
  intro nb w3 O3 hn3 hU3 hR3 hE3
  refine WL.storeAgg (us := #[.int .i64 x.1, .int .i64 x.2.1, x.2.2]) hn3 rfl (Tryz.sizeOf48 _) (nv_ok hxo) rfl rfl rfl ?_
  have hn4 := hn3.setRow (us := #[.int .i64 x.1, .int .i64 x.2.1, x.2.2])
  have hU4 : Upd (fun k => k = T + 1) O3 w3 O3 (w3.setRow nb #[.int .i64 x.1, .int .i64 x.2.1, x.2.2]) := Upd.setRow (by omega) hn3.tag rfl
  have hU34 := hU3.trans hU4
  have hx4 := hx2.upd hU34 (by omega) (by omega)
  have hP4 := hP2.upd hU34 hj (by omega)
  have hR4 := hR2.upd hU34
  have hUt4 := hUt2.trans (hU34.pT hj hT0 (Nat.le_succ _))
  generalize w3.setRow nb #[.int .i64 x.1, .int .i64 x.2.1, x.2.2] = w4 at *
  cases hf : atomK kn al r with
  | bad p e =>
    rw [hf] at hga hP4
    have hM : oftenK kn al r = .bad p e := by unfold oftenK; rw [hf]
    have hP5 := hP4
    obtain ⟨g1, a, op', hb4, g2, g3, g4, g5⟩ := hP4
    replace hb4 : BlkO O3 w4 j rb (rdr kv l a op' ((l.length : Int) - (p : Int)) e) 125 := hb4
    refine WL.nil ?_
    refine QF.seqNext ?_
    refine WC.seq ?_
    refine WC.seq ?_
    refine WC.region ?_
    refine WL.v (RV.move rfl) rfl ?_
    refine WL.v (RV.nilPtr rfl) rfl ?_
    refine WL.v (RV.fieldAddr 5 Tryz.underlying125 rfl rfl (Tryz.sizeOf27 _) (by decide) rfl) rfl ?_
    refine WL.v (RV.load (by first | exact hb4.r0 | exact hb4.r1 | exact hb4.r2 | exact hb4.r3 | exact hb4.r4 | exact hb4.r5) (Tryz.isAgg27 _) rfl) rfl ?_
    refine WL.v (RV.neq rfl rfl) rfl ?_
    refine WL.nil ?_
    refine QF.seqNext ?_
    refine WC.condT rfl ((by simpa using hga.2)) ?_
    refine WC.seq ?_
    refine WC.region ?_
    refine WL.v (RV.loadAgg (us := encN x) hn4.cellsAdd (Tryz.isAgg48 _) (Tryz.sizeOf48 _) rfl) rfl ?_
    refine WL.storeAgg (us := #[.int .i64 x.1, .int .i64 x.2.1, x.2.2]) hx4 rfl (Tryz.sizeOf48 _) (nv_ok hxo) rfl rfl rfl ?_
    have hxd := BlkO.setRow (us := #[.int .i64 x.1, .int .i64 x.2.1, x.2.2]) hx4
    have hUd : Upd (fun k => k = T) O3 w4 O3 (World.setRow w4 xb #[.int .i64 x.1, .int .i64 x.2.1, x.2.2]) := Upd.setRow (by omega) (BlkO.tag hx4) rfl
    have hUz := hUt4.trans (hUd.pT hj hT0 (Nat.le_refl _))
    refine WL.nil ?_
    refine QF.seqNext ?_
    refine WC.ret ?_
    refine QF.thenRet ?_
    refine QF.doneC1 rfl rfl (hxd.cellsAdd) (Tryz.isAgg48 _) (Tryz.sizeOf48 _) (⟨x, rfl, hUz.priv hT hj, ?_⟩)
    rw [hM]
    exact (hP5.upd hUd hj (by omega)).low hUz h.tag
  | ok t r1 =>
    rw [hf] at hga hP4
    obtain ⟨hb4, hnt4⟩ := hP4
    replace hb4 : BlkO O3 w4 j rb (rdr kv l ((l.length : Int) - (r1.length : Int)) op 0 0) 125 := hb4
    have hr1 := hga.1.trans hr
    have hq1 := (skipB_suf r1).trans hr1
    have hql := hq1.length_le
    refine WL.nil ?_
    refine QF.seqNext ?_
    refine WC.seq ?_
    refine WC.seq ?_
    refine WC.region ?_
    refine WL.v (RV.move rfl) rfl ?_
    refine WL.v (RV.nilPtr rfl) rfl ?_
    refine WL.v (RV.fieldAddr 5 Tryz.underlying125 rfl rfl (Tryz.sizeOf27 _) (by decide) rfl) rfl ?_
    refine WL.v (RV.load (by first | exact hb4.r0 | exact hb4.r1 | exact hb4.r2 | exact hb4.r3 | exact hb4.r4 | exact hb4.r5) (Tryz.isAgg27 _) rfl) rfl ?_
    refine WL.v (RV.neq rfl rfl) rfl ?_
    refine WL.nil ?_
    refine QF.seqNext ?_
    refine WC.condF rfl (rfl) ?_
    refine WC.skip ?_
    refine QF.seqNext ?_
    refine WC.seq ?_
    refine WC.region ?_
    refine WL.v (RV.move rfl) rfl ?_
    refine WL.v (RV.nilPtr rfl) rfl ?_
    refine WL.v (RV.fieldAddr 0 Tryz.underlying125 rfl rfl (Tryz.sizeOf123 _) (by decide) rfl) rfl ?_
    refine WL.call Tryz.call82 rfl (peek_ret O3 w4 j rb l r1 op 0 0 hj hr1 (by omega) hb4) rfl ?_
    rintro v w5 ⟨rfl, hb5, hU5⟩
    have hx5 := hx4.upd hU5 (by omega) (by omega)
    have hn5 := hn4.upd hU5 (by omega) (by omega)
    have hR5 := hR4.upd hU5
    have hUt5 := hUt4.trans (hU5.pj hT0)
    have hnt5 := hnt4.upd hU5
    refine WL.call Tryz.call18 rfl (indexByte_ret [42, 43, 63] ((skipB r1).headD 0) w5) rfl ?_
    rintro v w9 ⟨rfl, hw9⟩
    rw [hw9, opM_idx]
    clear hw9 w9
    have hb6 := hb5.drew
    have hx6 := hx5.drew
    have hn6 := hn5.drew
    have hnt6 := hnt5.drew
    have hUt6 := hUt5.drew
    have hR6 := hR5.drew
    refine WL.v (RV.assign rfl) rfl ?_
    refine WL.nil ?_
    refine QF.seqNext ?_
    refine WC.seq ?_
    refine WC.seq ?_
    refine WC.still (by kernel_rfl) (by kernel_rfl) ?_
    refine WS.v (RV.move rfl) rfl ?_
    refine WS.v (RV.nilPtr rfl) rfl ?_
    refine WS.v (RV.fieldAddr 0 Tryz.underlying125 rfl rfl (Tryz.sizeOf123 _) (by decide) rfl) rfl ?_
    refine WS.v (RV.fieldAddr 1 Tryz.underlying123 rfl rfl (Tryz.sizeOf3 _) (by decide) rfl) rfl ?_
    refine WS.v (RV.load (by first | exact hb6.r0 | exact hb6.r1 | exact hb6.r2 | exact hb6.r3 | exact hb6.r4 | exact hb6.r5) (Tryz.isAgg3 _) rfl) rfl ?_
    refine WS.v (RV.move rfl) rfl ?_
    refine WS.v (RV.nilPtr rfl) rfl ?_
    refine WS.v (RV.fieldAddr 0 Tryz.underlying125 rfl rfl (Tryz.sizeOf123 _) (by decide) rfl) rfl ?_
    refine WS.v (RV.fieldAddr 0 Tryz.underlying123 rfl rfl (Tryz.sizeOf9 _) (by decide) rfl) rfl ?_
    refine WS.v (RV.load (by first | exact hb6.r0 | exact hb6.r1 | exact hb6.r2 | exact hb6.r3 | exact hb6.r4 | exact hb6.r5) (Tryz.isAgg9 _) rfl) rfl ?_
    refine WS.v (RV.lenS Tryz.underlying9 rfl) rfl ?_
    refine WS.v (RV.eql rfl rfl) rfl ?_
    refine WS.v (RV.move rfl) rfl ?_
    cases hk : opM ((skipB r1).headD 0) with
    | none =>
      have hM : oftenK kn al r = .ok t (skipB r1) := by unfold oftenK; rw [hf]; dsimp only; rw [hk]
      by_cases hq0 : (skipB r1).length = 0
      · skip
        refine WS.know (d := 30) rfl (b' := true) ((beq_iff_eq.2 (by omega))) ?_
        generalize w5.drew = w6 at *
        refine WS.off rfl rfl rfl ?_
        refine WS.off rfl rfl rfl ?_
        refine WS.v (RV.pickT rfl rfl) rfl ?_
        refine WS.nil ?_
        refine QF.seqNext ?_
        refine WC.condT rfl rfl ?_
        refine WC.seq ?_
        refine WC.region ?_
        refine WL.v (RV.loadAgg (us := encN x) hn6.cellsAdd (Tryz.isAgg48 _) (Tryz.sizeOf48 _) rfl) rfl ?_
        refine WL.storeAgg (us := #[.int .i64 x.1, .int .i64 x.2.1, x.2.2]) hx6 rfl (Tryz.sizeOf48 _) (nv_ok hxo) rfl rfl rfl ?_
        have hxd := BlkO.setRow (us := #[.int .i64 x.1, .int .i64 x.2.1, x.2.2]) hx6
        have hUd : Upd (fun k => k = T) O3 w6 O3 (World.setRow w6 xb #[.int .i64 x.1, .int .i64 x.2.1, x.2.2]) := Upd.setRow (by omega) (BlkO.tag hx6) rfl
        have hUz := hUt6.trans (hUd.pT hj hT0 (Nat.le_refl _))
        have hbd := hb6.upd hUd hj (by omega)
        refine WL.nil ?_
        refine QF.seqNext ?_
        refine WC.ret ?_
        refine QF.thenRet ?_
        refine QF.doneC1 rfl rfl (hxd.cellsAdd) (Tryz.isAgg48 _) (Tryz.sizeOf48 _) (⟨x, rfl, hUz.priv hT hj, ?_⟩)
        rw [hM]
        exact ⟨hbd.fgt h.tag, (hnt6.upd hUd).low hUz⟩
      · skip
        refine WS.know (d := 30) rfl (b' := false) ((beq_eq_false_iff_ne.2 (by omega))) ?_
        refine WS.on rfl ?_
        refine WS.v (RV.move rfl) rfl ?_
        refine WS.on rfl ?_
        refine WS.v (RV.lss rfl rfl) rfl ?_
        refine WS.v (RV.pickF rfl rfl) rfl ?_
        refine WS.nil ?_
        refine QF.seqNext ?_
        refine WC.condT rfl (rfl) ?_
        generalize w5.drew = w6 at *
        refine WC.seq ?_
        refine WC.region ?_
        refine WL.v (RV.loadAgg (us := encN x) hn6.cellsAdd (Tryz.isAgg48 _) (Tryz.sizeOf48 _) rfl) rfl ?_
        refine WL.storeAgg (us := #[.int .i64 x.1, .int .i64 x.2.1, x.2.2]) hx6 rfl (Tryz.sizeOf48 _) (nv_ok hxo) rfl rfl rfl ?_
        have hxd := BlkO.setRow (us := #[.int .i64 x.1, .int .i64 x.2.1, x.2.2]) hx6
        have hUd : Upd (fun k => k = T) O3 w6 O3 (World.setRow w6 xb #[.int .i64 x.1, .int .i64 x.2.1, x.2.2]) := Upd.setRow (by omega) (BlkO.tag hx6) rfl
        have hUz := hUt6.trans (hUd.pT hj hT0 (Nat.le_refl _))
        have hbd := hb6.upd hUd hj (by omega)
        refine WL.nil ?_
        refine QF.seqNext ?_
        refine WC.ret ?_
        refine QF.thenRet ?_
        refine QF.doneC1 rfl rfl (hxd.cellsAdd) (Tryz.isAgg48 _) (Tryz.sizeOf48 _) (⟨x, rfl, hUz.priv hT hj, ?_⟩)
        rw [hM]
        exact ⟨hbd.fgt h.tag, (hnt6.upd hUd).low hUz⟩
    | some k =>
      have hM : oftenK kn al r = .ok (.mk (6 + (k : Nat)) 0 [t]) (skipB r1).tail := by unfold oftenK; rw [hf]; dsimp only; rw [hk]
      obtain ⟨k1, k2⟩ := tail_good (opM_ne hk)
      have hk3 : k ≤ 2 := by
        unfold opM at hk
        (repeat' split at hk) <;> simp at hk <;> omega
      refine WS.know (d := 30) rfl (b' := false) ((beq_eq_false_iff_ne.2 (by omega))) ?_
      refine WS.on rfl ?_
      refine WS.v (RV.move rfl) rfl ?_
      refine WS.on rfl ?_
      refine WS.v (RV.lss rfl rfl) rfl ?_
      refine WS.v (RV.pickF rfl rfl) rfl ?_
      refine WS.nil ?_
      refine QF.seqNext ?_
      refine WC.condF rfl ((decide_eq_false (by simp))) ?_
      generalize w5.drew = w6 at *
      refine WC.skip ?_
      refine QF.seqNext ?_
      refine WC.seq ?_
      refine WC.region ?_
      refine WL.v (RV.move rfl) rfl ?_
      refine WL.v (RV.nilPtr rfl) rfl ?_
      refine WL.v (RV.fieldAddr 0 Tryz.underlying125 rfl rfl (Tryz.sizeOf123 _) (by decide) rfl) rfl ?_
      refine WL.v (RV.fieldAddr 1 Tryz.underlying123 rfl rfl (Tryz.sizeOf3 _) (by decide) rfl) rfl ?_
      refine WL.v (RV.load (by first | exact hb6.r0 | exact hb6.r1 | exact hb6.r2 | exact hb6.r3 | exact hb6.r4 | exact hb6.r5) (Tryz.isAgg3 _) rfl) rfl ?_
      refine WL.v (RV.add rfl rfl (Fit.i64 (by omega))) rfl ?_
      refine WL.v (RV.nilPtr rfl) rfl ?_
      refine WL.v (RV.fieldAddr 0 Tryz.underlying125 rfl rfl (Tryz.sizeOf123 _) (by decide) rfl) rfl ?_
      refine WL.v (RV.fieldAddr 1 Tryz.underlying123 rfl rfl (Tryz.sizeOf3 _) (by decide) rfl) rfl ?_
      refine WL.storeBlk (j := 1) hb6 rfl (Tryz.sizeOf3 _) rfl rfl rfl rfl ?_
      rw [show ((l.length : Int) - ((skipB r1).length : Int)) + 1 = (l.length : Int) - ((skipB r1).tail.length : Int) from by omega]
      have hb7 := BlkO.rAt hb6 ((l.length : Int) - ((skipB r1).tail.length : Int))
      have hU7 : Upd (fun k => k = j) O3 w6 O3 (World.setCell w6 ⟨rb, 1, none⟩ (.int .i64 ((l.length : Int) - ((skipB r1).tail.length : Int)))) := Upd.set (fun e => hj e.symm) (BlkO.tag hb6) rfl
      have hx7 := hx6.upd hU7 (by omega) (by omega)
      have hn7 := hn6.upd hU7 (by omega) (by omega)
      have hR7 := hR6.upd hU7
      have hUt7 := hUt6.trans (hU7.pj hT0)
      have hnt7 := hnt6.upd hU7
      generalize World.setCell w6 ⟨rb, 1, none⟩ (.int .i64 ((l.length : Int) - ((skipB r1).tail.length : Int))) = w7 at *
      refine WL.nil ?_
      refine QF.seqNext ?_
      refine WC.seq ?_
      refine WC.region ?_
      refine WL.v (RV.move rfl) rfl ?_
      refine WL.v (RV.add rfl rfl (Fit.i64 (by dsimp only; omega))) rfl ?_
      refine WL.v (RV.loadAgg (us := encN x) hn7.cellsAdd (Tryz.isAgg48 _) (Tryz.sizeOf48 _) rfl) rfl ?_
      refine WL.buildOne2 elN (enc := encN) x rfl rfl rfl (by decide) rfl ?_
      intro w8 h8 hE8
      have hX8 : Upd (fun _ => False) O3 w7 O3 w8 := Upd.of_ext (fun h => h) O3 hE8
      have hx8 := hx7.upd hX8 (by omega) (fun h => h)
      have hb8 := hb7.upd hX8 hj (fun h => h)
      have hUt8 := hUt7.trans (Upd.pE O3 hE8 hj hT0)
      have hnt8 := hnt7.upd hX8
      have hfr : Free O3 w8 (.slice (some ⟨w7.heap.size, 0, none⟩) 1 1) := fun a n c e _ => by
        cases e
        refine ⟨Classical.byContradiction fun hne => by have := (hR7.rng _ hne).2; simp at this, ?_⟩
        obtain ⟨_, _, e, _, _, hh⟩ := h8.shape
        have hc := World.block_lt_of_cell? _ _ (h8.cells 0 (by simp) 0 _ rfl)
        simpa [adr, Addr.add] using hc
      have hN : Nt O3 w8 (.mk (6 + (k : Nat)) 0 [t]) (6 + (k : Nat), 0, .slice (some ⟨w7.heap.size, 0, none⟩) 1 1) :=
        .mk (xs := [x]) h8 hfr rfl (fun i hi => by obtain rfl : i = 0 := by simpa using hi
                                                   rw [nth_cons0, nth_cons0]; exact hnt8)
      have hxo2 : ((6 + (k : Nat), 0, .slice (some ⟨w7.heap.size, 0, none⟩) 1 1) : N3).2.2.oneCell' = true := rfl
      clear hxo
      have hxo := hxo2
      refine WL.v (RV.buildF pl48 (Tryz.zeroValue48 _) rfl (by first | rfl | (simp only [List.all_cons, List.all_nil]; rfl)) rfl rfl) rfl ?_
      refine WL.storeAgg (us := #[.int .i64 ((6 + (k : Nat), 0, .slice (some ⟨w7.heap.size, 0, none⟩) 1 1) : N3).1, .int .i64 ((6 + (k : Nat), 0, .slice (some ⟨w7.heap.size, 0, none⟩) 1 1) : N3).2.1, ((6 + (k : Nat), 0, .slice (some ⟨w7.heap.size, 0, none⟩) 1 1) : N3).2.2]) hx8 rfl (Tryz.sizeOf48 _) (nv_ok hxo) rfl rfl rfl ?_
      have hxd := BlkO.setRow (us := #[.int .i64 ((6 + (k : Nat), 0, .slice (some ⟨w7.heap.size, 0, none⟩) 1 1) : N3).1, .int .i64 ((6 + (k : Nat), 0, .slice (some ⟨w7.heap.size, 0, none⟩) 1 1) : N3).2.1, ((6 + (k : Nat), 0, .slice (some ⟨w7.heap.size, 0, none⟩) 1 1) : N3).2.2]) hx8
      have hUd : Upd (fun k => k = T) O3 w8 O3 (World.setRow w8 xb #[.int .i64 ((6 + (k : Nat), 0, .slice (some ⟨w7.heap.size, 0, none⟩) 1 1) : N3).1, .int .i64 ((6 + (k : Nat), 0, .slice (some ⟨w7.heap.size, 0, none⟩) 1 1) : N3).2.1, ((6 + (k : Nat), 0, .slice (some ⟨w7.heap.size, 0, none⟩) 1 1) : N3).2.2]) := Upd.setRow (by omega) (BlkO.tag hx8) rfl
      have hUz := hUt8.trans (hUd.pT hj hT0 (Nat.le_refl _))
      have hbd := hb8.upd hUd hj (by omega)
      refine WL.nil ?_
      refine QF.seqNext ?_
      refine WC.ret ?_
      refine QF.doneC1 rfl rfl (hxd.cellsAdd) (Tryz.isAgg48 _) (Tryz.sizeOf48 _) (⟨_, rfl, hUz.priv hT hj, ?_⟩)
      rw [hM]
      exact ⟨hbd.fgt h.tag, (hN.upd hUd).low hUz⟩
end Go.Proofs.YtmohcfjopaccdaaGreatDoor
