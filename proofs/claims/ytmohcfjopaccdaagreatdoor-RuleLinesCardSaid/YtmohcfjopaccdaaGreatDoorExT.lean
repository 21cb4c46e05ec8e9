/- Packages slices and expr, walked: Contains; told, joined, text. -/
import Derived.Test.YtmohcfjopaccdaaGreatDoorJoin
namespace Go.Proofs.YtmohcfjopaccdaaGreatDoor
open Go.VL Go.Proofs
set_option maxRecDepth 10000

/-! Plain. -/
def toldM (ks : List Int) (t : Nd) : List UInt8 := if t.kind ∈ ks then 40 :: (textM t ++ [41]) else textM t
theorem toldL_map (ks : List Int) : ∀ (l : List Nd), toldL ks l = l.map (toldM ks)
  | [] => by simp [toldL]
  | t :: r => by rw [toldL, toldL_map ks r, List.map_cons]; rfl
mutual
theorem textM_len : ∀ (t : Nd), (textM t).length + 3 ≤ 14 * nsz t
  | .mk k c l => by
    have h4 := toldF_len [4, 5] 32 l
    have h5 := toldF_len [5] 124 l
    have h6 := toldH_len [4, 5, 6, 7, 8] l
    have hn := nameM_le c
    have hj : ∀ (s : UInt8) (x : List (List UInt8)), (joinM [s] x).length ≤ (x.flatMap fun y => [s] ++ y).length := fun s x => by cases x <;> simp [joinM]
    have hj4 := hj 32 (toldL [4, 5] l)
    have hj5 := hj 124 (toldL [5] l)
    simp only [textM, nsz]
    split
    · omega
    · split
      · simp; omega
      · split
        · simp; omega
        · split
          · simp; omega
          · split
            · omega
            · split
              · omega
              · split
                · simp at h6 ⊢; omega
                · simp; omega
theorem toldF_len (ks : List Int) (s : UInt8) : ∀ (l : List Nd), ((toldL ks l).flatMap fun y => [s] ++ y).length ≤ 14 * nszL l
  | [] => by simp [toldL]
  | t :: r => by
    have h1 := textM_len t
    have h2 := toldF_len ks s r
    simp only [toldL, List.flatMap_cons, List.length_append, nszL, List.length_singleton]
    split <;> (try simp only [List.length_cons, List.length_append, List.length_nil]) <;> omega
theorem toldH_len (ks : List Int) : ∀ (l : List Nd), ((toldL ks l).headD []).length ≤ 14 * nszL l
  | [] => by simp [toldL]
  | t :: r => by
    have h1 := textM_len t
    simp only [toldL, List.headD_cons, nszL]
    split <;> simp <;> omega
end
theorem toldM_len (ks : List Int) (t : Nd) : (toldM ks t).length ≤ 14 * nsz t := by
  have := textM_len t
  unfold toldM
  split <;> simp <;> omega

/-! Walks. -/
theorem indexI_ret (l : List Int) (c : Int) (sv : Value) (w : World) (h : Sl encI 1 w sv l) : Ret Tryz.prog 135 [sv, .int .i64 c] w fun v w' => v = .int .i64 (firstN (fun i => c == nth l i) l.length) ∧ w' = w := by
  have hl := h.len_le
  refine Ret.enter Tryz.func135 Tryz.ntmps135 rfl rfl ?_
  refine WC.seq ?_
  refine WC.region ?_
  refine WL.v (RV.assign rfl) rfl ?_
  refine WL.nil ?_
  refine QF.seqNext ?_
  refine WC.seq ?_
  refine WC.seq ?_
  refine WC.region ?_
  refine WL.v (RV.move rfl) rfl ?_
  refine WL.v (RV.len (by first | exact h) Tryz.underlying23 rfl) rfl ?_
  refine WL.v (RV.move rfl) rfl ?_
  refine WL.nil ?_
  refine QF.seqNext ?_
  refine WC.block ?_
  refine WC.loop (fun x : Nat => [(0, sv), (1, .int .i64 c), (7, .int .i64 l.length), (8, .int .i64 x)]) (fun x : Nat => w) (fun x : Nat => x ≤ l.length ∧ ∀ i, i < x → (c == nth l i) = false) (fun x : Nat => l.length - x) 0 (⟨Nat.zero_le _, fun i hi => absurd hi (Nat.not_lt_zero i)⟩) ⟨rfl, rfl, rfl, rfl, trivial⟩ rfl ?_
  rintro k ⟨hk, hno⟩
  refine WC.seq ?_
  refine WC.region ?_
  refine WL.v (RV.lss rfl rfl) rfl ?_
  refine WL.nil ?_
  refine QF.seqNext ?_
  refine WC.seq ?_
  refine WC.cond rfl ?_ ?_
  · intro hlt
    replace hlt : k < l.length := by have := of_decide_eq_true hlt; omega
    have m1 := h.ld hlt
    refine WC.skip ?_
    refine QF.seqNext ?_
    refine WC.seq ?_
    refine WC.block ?_
    refine WC.seq ?_
    refine WC.region ?_
    refine WL.v (RV.move rfl) rfl ?_
    refine WL.v (RV.assign rfl) rfl ?_
    refine WL.nil ?_
    refine QF.seqNext ?_
    refine WC.seq ?_
    refine WC.region ?_
    refine WL.v (RV.move rfl) rfl ?_
    refine WL.v (RV.move rfl) rfl ?_
    refine WL.v (RV.move rfl) rfl ?_
    refine WL.v (RV.indexAddr (by first | exact h) Tryz.underlying23 (Tryz.sizeOf3 _) rfl rfl _ rfl (by omega)) rfl ?_
    refine WL.v (RV.load (by first | exact m1) (Tryz.isAgg3 _) rfl) rfl ?_
    refine WL.v (RV.eql rfl rfl) rfl ?_
    refine WL.nil ?_
    refine QF.seqNext ?_
    refine WC.cond rfl ?_ ?_
    · intro hy
      refine WC.seq ?_
      refine WC.region ?_
      refine WL.v (RV.move rfl) rfl ?_
      refine WL.v (RV.assign rfl) rfl ?_
      refine WL.nil ?_
      refine QF.seqNext ?_
      refine WC.ret ?_
      refine QF.blockRet ?_
      refine QF.thenRet ?_
      refine QF.thenRet ?_
      refine QF.blockRet ?_
      refine QF.thenRet ?_
      refine QF.done1 rfl rfl (⟨by rw [firstN_yes (q := fun i => c == nth l i) hlt hy hno], rfl⟩)
    · intro hy
      refine WC.skip ?_
      refine QF.blockNormal ?_
      refine QF.seqNext ?_
      refine WC.region ?_
      refine WL.v (RV.add rfl rfl (Fit.i64 (by omega))) rfl ?_
      refine WL.v (RV.move rfl) rfl ?_
      refine WL.nil ?_
      refine QF.next (k + 1) (⟨hlt, fun i hi => (Nat.lt_succ_iff_lt_or_eq.1 hi).elim (hno i) (fun e => by rw [e]; exact hy)⟩) (by omega) ⟨rfl, rfl, rfl, rfl, trivial⟩ rfl
  · intro hge
    replace hge : l.length ≤ k := by have := of_decide_eq_false hge; omega
    refine WC.exit ?_
    refine QF.thenExit ?_
    refine QF.thenExit ?_
    refine QF.blockHit ?_
    refine QF.seqNext ?_
    refine WC.seq ?_
    refine WC.region ?_
    refine WL.v (RV.assign rfl) rfl ?_
    refine WL.nil ?_
    refine QF.seqNext ?_
    refine WC.ret ?_
    refine QF.done1 rfl rfl (⟨by rw [firstN_no (q := fun i => c == nth l i) fun i hi => hno i (by omega)], rfl⟩)
theorem containsI_ret (l : List Int) (c : Int) (sv : Value) (w : World) (h : Sl encI 1 w sv l) : Ret Tryz.prog 121 [sv, .int .i64 c] w fun v w' => v = .bool (decide (c ∈ l)) ∧ w' = w := by
  have he : anyN (fun i => c == nth l i) l.length = decide (c ∈ l) := by
    rw [anyN_list (p := fun x => c == x), Bool.eq_iff_iff]
    simp [List.any_eq_true]
  refine Ret.enter Tryz.func121 Tryz.ntmps121 rfl rfl ?_
  refine WC.seq ?_
  refine WC.region ?_
  refine WL.v (RV.assign rfl) rfl ?_
  refine WL.nil ?_
  refine QF.seqNext ?_
  refine WC.seq ?_
  refine WC.region ?_
  refine WL.v (RV.move rfl) rfl ?_
  refine WL.v (RV.move rfl) rfl ?_
  refine WL.call Tryz.call135 rfl (indexI_ret l c sv w h) rfl ?_
  rintro v w9 ⟨rfl, hw9⟩
  rw [hw9]
  clear hw9 w9
  refine WL.v (RV.geq rfl rfl) rfl ?_
  refine WL.v (RV.assign rfl) rfl ?_
  refine WL.nil ?_
  refine QF.seqNext ?_
  refine WC.ret ?_
  refine QF.done1 rfl rfl (⟨congrArg Value.bool (firstN_any.trans he), rfl⟩)
theorem told_ret (t : Nd) (ks : List Int) (kv : Value) (x : N3) (w : World) (h : Nt (fun _ => 0) w t x) (hk : Sl encI 1 w kv ks) (hT : TextC t) (hn : nsz t ≤ 2000) : Ret Tryz.prog 94 [nv x, kv] w fun v w' => v = .string (bs (toldM ks t)) ∧ Ext w w' := by
  have hx := h.kind
  have hxo := h.one
  have hlen := textM_len t
  refine Ret.enter Tryz.func94 Tryz.ntmps94 rfl rfl ?_
  refine WC.seq ?_
  refine WC.region ?_
  refine WL.boxO (Rng.start w) 1 (by omega) rfl rfl ?_
  intro xb w1 O1 hx1 hU1 hR1 hE1
  have hc1 : ∀ W, Ext w1 W → ∀ (j : Nat) (u : Value), (encN x)[j]? = some u → W.cell? ((⟨xb, 0, none⟩ : Addr).add j) = some u := fun W hE j u hu => hE.cell (hx1.cellsAdd j u hu)
  have c0 : w1.cell? ((⟨xb, 0, none⟩ : Addr).add 0) = some (.int .i64 t.kind) := by rw [← hx]; exact hx1.cell 0 rfl
  refine WL.v (RV.assign rfl) rfl ?_
  refine WL.nil ?_
  refine QF.seqNext ?_
  refine WC.seq ?_
  refine WC.seq ?_
  refine WC.region ?_
  refine WL.v (RV.move rfl) rfl ?_
  refine WL.v (RV.fieldAddr 0 Tryz.underlying48 rfl rfl (Tryz.sizeOf3 _) (by decide) rfl) rfl ?_
  refine WL.v (RV.load (by first | exact c0) (Tryz.isAgg3 _) rfl) rfl ?_
  refine WL.call Tryz.call121 rfl (containsI_ret ks t.kind kv w1 (hk.ext hE1)) rfl ?_
  rintro v w9 ⟨rfl, hw9⟩
  rw [hw9]
  clear hw9 w9
  refine WL.nil ?_
  refine QF.seqNext ?_
  by_cases hm : t.kind ∈ ks
  · have hM : toldM ks t = [40] ++ textM t ++ [41] := by unfold toldM; rw [if_pos hm]; rfl
    rw [hM]
    refine WC.condT rfl ((decide_eq_true hm)) ?_
    refine WC.seq ?_
    refine WC.region ?_
    refine WL.v (RV.loadAgg (us := encN x) (hc1 w1 (Ext.refl _)) (Tryz.isAgg48 _) (Tryz.sizeOf48 _) rfl) rfl ?_
    refine WL.call Tryz.call72 rfl (hT x w1 (h.ext hE1)) rfl ?_
    rintro v w2 ⟨rfl, hE2⟩
    refine WL.v (RV.addS rfl rfl (by simp; omega)) rfl ?_
    refine WL.v (RV.addS rfl rfl (by simp; omega)) rfl ?_
    refine WL.v (RV.assign rfl) rfl ?_
    refine WL.nil ?_
    refine QF.seqNext ?_
    refine WC.ret ?_
    refine QF.thenRet ?_
    refine QF.done1 rfl rfl (⟨rfl, hE1.trans hE2⟩)
  · have hM : toldM ks t = textM t := by unfold toldM; rw [if_neg hm]
    rw [hM]
    refine WC.condF rfl ((decide_eq_false hm)) ?_
    refine WC.skip ?_
    refine QF.seqNext ?_
    refine WC.seq ?_
    refine WC.region ?_
    refine WL.v (RV.loadAgg (us := encN x) (hc1 w1 (Ext.refl _)) (Tryz.isAgg48 _) (Tryz.sizeOf48 _) rfl) rfl ?_
    refine WL.call Tryz.call72 rfl (hT x w1 (h.ext hE1)) rfl ?_
    rintro v w2 ⟨rfl, hE2⟩
    refine WL.v (RV.assign rfl) rfl ?_
    refine WL.nil ?_
    refine QF.seqNext ?_
    refine WC.ret ?_
    refine QF.done1 rfl rfl (⟨rfl, hE1.trans hE2⟩)
theorem joined_ret (kids : List Nd) (xs : List N3) (sv : Value) (c : UInt8) (ks : List Int) (kv : Value) (w : World) (h : Sl encN 3 w sv xs) (hl : kids.length = xs.length) (hk : ∀ i, i < xs.length → Nt (fun _ => 0) w (nth kids i) (nth xs i)) (hkv : Sl encI 1 w kv ks) (hT : ∀ i, i < xs.length → TextC (nth kids i)) (hn : nszL kids ≤ 2000) :
    Ret Tryz.prog 93 [sv, .string (bs [c]), kv] w fun v w' => v = .string (bs (joinM [c] (toldL ks kids))) ∧ Ext w w' := by
  have hkl := nszL_len kids
  have hlen := h.len_le
  refine Ret.enter Tryz.func93 Tryz.ntmps93 rfl rfl ?_
  refine WC.seq ?_
  refine WC.region ?_
  refine WL.v (RV.assign rfl) rfl ?_
  refine WL.nil ?_
  refine QF.seqNext ?_
  refine WC.seq ?_
  refine WC.region ?_
  refine WL.v (RV.assign rfl) rfl ?_
  refine WL.nil ?_
  refine QF.seqNext ?_
  refine WC.seq ?_
  refine WC.seq ?_
  refine WC.region ?_
  refine WL.v (RV.move rfl) rfl ?_
  refine WL.v (RV.len (by first | exact h) Tryz.underlying46 rfl) rfl ?_
  refine WL.v (RV.move rfl) rfl ?_
  refine WL.nil ?_
  refine QF.seqNext ?_
  refine WC.block ?_
  refine WC.loop (fun y : Nat × (Nat → Nat) × World × Value => [(1, .string (bs [c])), (2, kv), (7, y.2.2.2), (10, sv), (11, .int .i64 xs.length), (12, .int .i64 y.1)]) (fun y : Nat × (Nat → Nat) × World × Value => y.2.2.1) (fun y : Nat × (Nat → Nat) × World × Value => y.1 ≤ xs.length ∧ RowT encS1 9 1 y.2.1 y.2.2.1 1 y.2.2.2 ((kids.take y.1).map (toldM ks)) ∧ Upd (fun q => 1 ≤ q) (fun _ => 0) w y.2.1 y.2.2.1 ∧ Rng w.heap.size y.2.1 y.2.2.1) (fun y : Nat × (Nat → Nat) × World × Value => xs.length - y.1) (0, (fun _ => 0), w, .slice none 0 0) (⟨Nat.zero_le _, RowT.nil _ _ _ _ _ _, Upd.refl (by decide) _ _, Rng.start w⟩) ⟨rfl, rfl, rfl, rfl, rfl, rfl, trivial⟩ rfl ?_
  rintro ⟨i, O1, w1, lv⟩ ⟨hi, hrow1, hU1, hR1⟩
  dsimp only at hi hrow1 hU1 hR1 ⊢
  have hzz : ¬ (fun q : Nat => 1 ≤ q) 0 := fun e => by omega
  have hE1 := hU1.ext
  have hs1 := h.ext hE1
  refine WC.seq ?_
  refine WC.region ?_
  refine WL.v (RV.lss rfl rfl) rfl ?_
  refine WL.nil ?_
  refine QF.seqNext ?_
  refine WC.seq ?_
  refine WC.cond rfl ?_ ?_
  · intro hlt
    replace hlt : i < xs.length := by have := of_decide_eq_true hlt; omega
    have hkn := (hk i hlt).ext hE1
    have hxo := hkn.one
    have hkz := nszL_nth kids i (by omega)
    refine WC.skip ?_
    refine QF.seqNext ?_
    refine WC.seq ?_
    refine WC.block ?_
    refine WC.seq ?_
    refine WC.region ?_
    refine WL.v (RV.indexAddr (by first | exact hs1) Tryz.underlying46 (Tryz.sizeOf48 _) rfl rfl _ rfl (by omega)) rfl ?_
    refine WL.v (RV.loadAgg (us := encN (nth xs i)) (fun j u hu => hs1.cell hlt hu) (Tryz.isAgg48 _) (Tryz.sizeOf48 _) rfl) rfl ?_
    refine WL.allocO hR1 2 (by omega) (Tryz.zeroValue48 _) rfl ?_
    intro kb w2 O2 hk2 hU2 hR2 hE2
    refine WL.storeAgg (us := #[.int .i64 (nth xs i).1, .int .i64 (nth xs i).2.1, (nth xs i).2.2]) hk2 rfl (Tryz.sizeOf48 _) (nv_ok hxo) rfl rfl rfl ?_
    have hk3 := hk2.setRow (us := #[.int .i64 (nth xs i).1, .int .i64 (nth xs i).2.1, (nth xs i).2.2])
    have hU3 : Upd (fun q => q = 2) O2 w2 O2 (w2.setRow kb #[.int .i64 (nth xs i).1, .int .i64 (nth xs i).2.1, (nth xs i).2.2]) := Upd.setRow (by omega) hk2.tag rfl
    have hU23 := hU2.trans hU3
    have hrow3 := hrow1.upd hU23 (by omega) (by omega)
    have hR3 := hR2.upd hU3
    have hUt3 := hU1.trans (hU23.mono (fun _ h => by rw [h]; omega) hzz)
    generalize w2.setRow kb #[.int .i64 (nth xs i).1, .int .i64 (nth xs i).2.1, (nth xs i).2.2] = w3 at *
    have hE3 := hUt3.ext
    refine WL.nil ?_
    refine QF.seqNext ?_
    refine WC.region ?_
    refine WL.v (RV.move rfl) rfl ?_
    refine WL.v (RV.loadAgg (us := encN (nth xs i)) hk3.cellsAdd (Tryz.isAgg48 _) (Tryz.sizeOf48 _) rfl) rfl ?_
    refine WL.v (RV.move rfl) rfl ?_
    refine WL.call Tryz.call94 rfl (told_ret (nth kids i) ks kv (nth xs i) w3 ((hk i hlt).ext hE3) (hkv.ext hE3) (hT i hlt) (by omega)) rfl ?_
    rintro v w4 ⟨rfl, hE4⟩
    have hX4 : Upd (fun _ => False) O2 w3 O2 w4 := Upd.of_ext (fun h => h) O2 hE4
    have hrow4 := hrow3.upd hX4 (by omega) (fun h => h)
    have hR4 := hR3.upd hX4
    have hUt4 := hUt3.trans (hX4.mono (fun _ h => h.elim) hzz)
    have hrl : ((kids.take i).map (toldM ks)).length = i := by simp; omega
    refine WL.push elSt hrow4 hR4 (toldM ks (nth kids i)) (fun _ => rfl) rfl rfl rfl (by simp [Value.oneCell', encS1]) (by omega) (by omega) (by omega) (by decide) rfl rfl ?_
    intro lv5 w5 O5 hrow5 hU5 hR5
    refine WL.v (RV.assign rfl) rfl ?_
    refine WL.nil ?_
    refine QF.blockNormal ?_
    refine QF.seqNext ?_
    refine WC.region ?_
    refine WL.v (RV.add rfl rfl (Fit.i64 (by omega))) rfl ?_
    refine WL.v (RV.move rfl) rfl ?_
    refine WL.nil ?_
    refine QF.next ((i + 1, O5, w5, lv5)) (⟨hlt, by dsimp only; rw [List.take_succ_eq_append_getElem (by omega), List.map_append, List.map_singleton, ← nth_eq (by omega)]; exact hrow5, hUt4.trans (hU5.mono (fun _ h => by rw [h]; omega) hzz), hR5⟩) (by dsimp only; omega) ⟨rfl, rfl, rfl, rfl, rfl, rfl, trivial⟩ rfl
  · intro hge
    obtain rfl : i = xs.length := by have := of_decide_eq_false hge; omega
    rw [← hl, List.take_length, ← toldL_map] at hrow1
    have hsl := hrow1.sl
    refine WC.exit ?_
    refine QF.thenExit ?_
    refine QF.thenExit ?_
    refine QF.blockHit ?_
    refine QF.seqNext ?_
    refine WC.seq ?_
    refine WC.region ?_
    refine WL.v (RV.move rfl) rfl ?_
    refine WL.v (RV.move rfl) rfl ?_
    refine WL.call Tryz.call120 rfl (join_ret c (toldL ks kids) lv w1 hsl (by rw [toldL_map, List.length_map]; omega) (fun x hx => by rw [toldL_map] at hx; obtain ⟨t, ht, rfl⟩ := List.mem_map.1 hx; obtain ⟨j, hj, rfl⟩ := mem_nth ht; have g1 := toldM_len ks (nth kids j); have g2 := nszL_nth kids j hj; omega)) rfl ?_
    rintro v w2 ⟨rfl, hE2⟩
    refine WL.v (RV.assign rfl) rfl ?_
    refine WL.nil ?_
    refine QF.seqNext ?_
    refine WC.ret ?_
    refine QF.done1 rfl rfl (⟨rfl, hE1.trans hE2⟩)
end Go.Proofs.YtmohcfjopaccdaaGreatDoor
