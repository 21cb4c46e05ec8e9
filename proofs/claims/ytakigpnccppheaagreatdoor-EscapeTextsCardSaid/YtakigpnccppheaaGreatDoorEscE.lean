/- Package scalar, walked: the iterator over some bytes' pieces, Valid, All. -/
import Derived.Test.YtakigpnccppheaaGreatDoorEscD
import Derived.Test.YtakigpnccppheaaGreatDoorVr
namespace Go.Proofs.YtakigpnccppheaaGreatDoor
open Go.VL Go.Proofs
set_option maxRecDepth 4000

theorem atOf_zero (ps : List Pce) : atOf ps 0 = 0 := rfl
theorem decP_drop (L : List UInt8) : ∀ i, i ≤ (decP L).length → decP (L.drop (atOf (decP L) i)) = (decP L).drop i ∧ (i < (decP L).length → decM (L.drop (atOf (decP L) i)) = nth (decP L) i ∧ atOf (decP L) i < L.length)
  | 0, _ => by
    refine ⟨by rw [atOf_zero]; rfl, fun h => ?_⟩
    rw [atOf_zero, List.drop_zero]
    have hne : L ≠ [] := fun e => by subst e; simp [decP_nil] at h
    refine ⟨?_, by cases L with | nil => exact absurd rfl hne | cons a l => simp⟩
    have h2 := decP_step hne
    rw [nth_eq h]
    simp only [h2, List.getElem_cons_zero]
  | i + 1, hi => by
    obtain ⟨h1, h2⟩ := decP_drop L i (by omega)
    obtain ⟨h3, h4⟩ := h2 (by omega)
    have hne : L.drop (atOf (decP L) i) ≠ [] := fun e => by have := congrArg List.length e; simp at this; omega
    have h5 := decP_step hne
    have h6 : decP (L.drop (atOf (decP L) (i + 1))) = (decP L).drop (i + 1) := by
      rw [h1, h3, List.drop_eq_getElem_cons (by omega : i < (decP L).length), List.drop_drop] at h5
      have h7 := (List.cons.inj h5).2
      rw [atOf_succ _ _ (by omega), h7]
    refine ⟨h6, fun h => ?_⟩
    have hne2 : L.drop (atOf (decP L) (i + 1)) ≠ [] := fun e => by rw [e, decP_nil] at h6; have := congrArg List.length h6; simp at this; omega
    have h8 := decP_step hne2
    rw [h6, List.drop_eq_getElem_cons h] at h8
    refine ⟨by rw [nth_eq h]; exact (List.cons.inj h8).1.symm, Nat.lt_of_not_le fun e => hne2 (List.drop_eq_nil_of_le e)⟩
theorem atOf_all (L : List UInt8) : atOf (decP L) (decP L).length = L.length := by
  have := decP_sum _ L (Nat.le_refl _)
  unfold atOf; rw [List.take_length]; exact this

/-- The pieces of some bytes, with their places. -/
def pcs (L : List UInt8) : List (Nat × Pce) := (List.range (decP L).length).map fun i => (atOf (decP L) i, nth (decP L) i)
theorem pcs_len (L : List UInt8) : (pcs L).length = (decP L).length := by simp [pcs]
theorem pcs_get (L : List UInt8) (i : Nat) (h : i < (pcs L).length) : (pcs L)[i] = (atOf (decP L) i, nth (decP L) i) := by simp [pcs]
def encPc (x : Nat × Pce) : Value := .agg #[.int .i64 x.1, .int .i64 x.2.2.1, .int .i32 x.2.1, .bool x.2.2.2]

theorem pl92 : Places Tryz.prog 92 #[(0, 1), (1, 1), (2, 1), (3, 1)] := ⟨_, Tryz.underlying92, fun w => by kernel_rfl⟩
theorem pieces1_iter (L : List UInt8) (bv : Value) (b : Nat) :
    Iter Tryz.prog 47 [.pointer (some ⟨b, 0, none⟩)] encPc (pcs L) (fun W => W.cell? ⟨b, 0, none⟩ = some bv ∧ Bytes W bv L) := by
  intro l J Jx W hRd hJe hY h0
  have hLn := (hRd _ _ h0).2.len_le
  refine Ret.enterM Tryz.func47 Tryz.ntmps47 rfl rfl ?_
  refine WI.seq ?_
  refine WI.region (by first | exact .inl rfl | exact .inr rfl) (fun _ _ h => h) ?_
  refine WL.v (RV.assign rfl) rfl ?_
  refine WL.nil ?_
  refine QF.dn ?_
  refine QI.seqNext ?_
  refine WI.block ?_
  refine WI.loop (fun x : Nat × World × Int => [(0, .func (.yield l) #[] #[]), (1, .pointer (some ⟨b, 0, none⟩)), (3, .int .i64 x.2.2)]) (fun x : Nat × World × Int => x.2.1) (fun x : Nat × World × Int => x.1 ≤ (decP L).length ∧ J x.1 x.2.1 ∧ x.2.2 = (atOf (decP L) x.1 : Nat)) (fun x : Nat × World × Int => (decP L).length - x.1) (0, W, 0) (⟨Nat.zero_le _, h0, rfl⟩) ⟨rfl, rfl, rfl, trivial⟩ rfl ?_
  rintro ⟨i, w1, ii⟩ ⟨hi, hJ, hii⟩
  dsimp only at hi hJ hii ⊢
  subst hii
  obtain ⟨hb, hs⟩ := hRd _ _ hJ
  obtain ⟨hp1, hp2⟩ := decP_drop L i hi
  refine WI.seq ?_
  refine WI.seq ?_
  refine WI.region (by first | exact .inl rfl | exact .inr rfl) (fun _ _ h => h) ?_
  refine WL.v (RV.move rfl) rfl ?_
  refine WL.v (RV.load (by first | exact hb) (Tryz.isAgg31 _) rfl) rfl ?_
  refine WL.v (RV.len (by first | exact hs) Tryz.underlying31 rfl) rfl ?_
  refine WL.v (RV.lss rfl rfl) rfl ?_
  refine WL.nil ?_
  refine QF.dn ?_
  refine QI.seqNext ?_
  refine WI.cond rfl ?_ ?_
  · intro hlt
    replace hlt : atOf (decP L) i < L.length := by have := of_decide_eq_true hlt; omega
    have hil : i < (decP L).length := by
      refine Nat.lt_of_not_le fun h => ?_
      have : i = (decP L).length := by omega
      rw [this, atOf_all] at hlt; omega
    obtain ⟨hd, _⟩ := hp2 hil
    have hat := atOf_succ (decP L) i hil
    have hle2 := atOf_le L (i + 1)
    refine WI.skip ?_
    refine QI.seqNext ?_
    refine WI.block ?_
    refine WI.seq ?_
    refine WI.region (by first | exact .inl rfl | exact .inr rfl) (fun _ _ h => h) ?_
    refine WL.v (RV.load (by first | exact hb) (Tryz.isAgg31 _) rfl) rfl ?_
    refine WL.v (RV.move rfl) rfl ?_
    refine WL.call Tryz.call48 rfl (read_ret L bv (atOf (decP L) i) w1 hs hlt) rfl ?_
    rw [hd]
    rintro _ w2 ⟨rfl, hE⟩
    have hy := hY i (by rw [pcs_len]; exact hil) w1 w2 hJ hE
    rw [pcs_get] at hy
    refine WL.v (RV.move rfl) rfl ?_
    refine WL.v (RV.extract rfl rfl) rfl ?_
    refine WL.v (RV.extract rfl rfl) rfl ?_
    refine WL.v (RV.extract rfl rfl) rfl ?_
    refine WL.v (RV.assign rfl) rfl ?_
    refine WL.v (RV.assign rfl) rfl ?_
    refine WL.v (RV.assign rfl) rfl ?_
    refine WL.nil ?_
    refine QF.dn ?_
    refine QI.seqNext ?_
    refine WI.seq ?_
    refine WI.seq ?_
    refine WI.regionAt 6 (.inl rfl) (fun _ _ h => h) ?_
    refine WL.v (RV.move rfl) rfl ?_
    refine WL.v (RV.move rfl) rfl ?_
    refine WL.v (RV.move rfl) rfl ?_
    refine WL.v (RV.move rfl) rfl ?_
    refine WL.v (RV.move rfl) rfl ?_
    refine WL.v (RV.buildF pl92 (Tryz.zeroValue92 _) rfl (by first | rfl | (simp only [List.all_cons, List.all_nil]; rfl)) rfl rfl) rfl ?_
    refine WL.nil ?_
    refine QF.dn (QI.list ?_)
    refine WLI.yield rfl rfl (hy) rfl (by rintro e w' ⟨⟨rfl, _⟩ | ⟨rfl, _⟩, _⟩ <;> exact ⟨_, rfl⟩) ?_
    rintro v w3 ⟨⟨e, hJ3⟩ | ⟨e, hJ3⟩, _⟩
    · obtain rfl := Ending.returned.inj e
      refine WLI.wl (.inl rfl) (fun _ _ h => h) ?_
      refine WL.v (RV.not rfl) rfl ?_
      refine WL.nil ?_
      refine QF.dn ?_
      refine QI.seqNext ?_
      refine WI.condF rfl (rfl) ?_
      refine WI.skip ?_
      refine QI.seqNext ?_
      refine WI.region (by first | exact .inl rfl | exact .inr rfl) (fun _ _ h => h) ?_
      refine WL.v (RV.move rfl) rfl ?_
      refine WL.v (RV.move rfl) rfl ?_
      refine WL.v (RV.add rfl rfl (Fit.i64 (by omega))) rfl ?_
      refine WL.v (RV.assign rfl) rfl ?_
      refine WL.nil ?_
      refine QF.dn ?_
      refine QI.blockNormal ?_
      refine QI.next ((i + 1, w3, ((atOf (decP L) i : Nat) : Int) + ((nth (decP L) i).2.1 : Nat))) (⟨hil, hJ3, by dsimp only; rw [hat]; rfl⟩) (by dsimp only; omega) ⟨rfl, rfl, rfl, trivial⟩ rfl
    · obtain rfl := Ending.returned.inj e
      refine WLI.wl (.inl rfl) (fun _ _ h => h) ?_
      refine WL.v (RV.not rfl) rfl ?_
      refine WL.nil ?_
      refine QF.dn ?_
      refine QI.seqNext ?_
      refine WI.condT rfl (rfl) ?_
      refine WI.ret ?_
      refine QI.thenRet ?_
      refine QI.blockRet ?_
      refine QI.thenRet ?_
      refine QI.blockRet ?_
      refine QI.leave (Leave.done0 rfl (.inr hJ3))
  · intro hge
    replace hge : ¬ atOf (decP L) i < L.length := by have := of_decide_eq_false hge; omega
    obtain rfl : i = (decP L).length := by
      refine Nat.le_antisymm hi (Nat.le_of_not_lt fun h => hge (hp2 h).2)
    rw [← pcs_len] at hJ
    refine WI.exit ?_
    refine QI.thenExit ?_
    refine QI.thenExit ?_
    refine QI.blockHit ?_
    refine QI.leave (Leave.done0 rfl (.inl hJ))

theorem pieces_ret (bv : Value) (w : World) (h1 : bv.oneCell' = true) : Ret Tryz.prog 31 [bv] w fun v w' => ∃ b, v = .func (.func 47) #[] #[.pointer (some ⟨b, 0, none⟩)] ∧ w'.cell? ⟨b, 0, none⟩ = some bv ∧ w.heap.size ≤ b ∧ Ext w w' := by
  refine Ret.enter Tryz.func31 Tryz.ntmps31 rfl rfl ?_
  refine WC.seq ?_
  refine WC.region ?_
  refine WL.box rfl rfl ?_
  refine WL.v (RV.assign rfl) rfl ?_
  refine WL.nil ?_
  refine QF.seqNext ?_
  refine WC.seq ?_
  refine WC.region ?_
  refine WL.v (RV.mkFunc rfl rfl) rfl ?_
  refine WL.v (RV.assign rfl) rfl ?_
  refine WL.nil ?_
  refine QF.seqNext ?_
  refine WC.ret ?_
  refine QF.done1 rfl rfl (⟨_, rfl, ?_, Nat.le_refl _, Ext.alloc _ _⟩)
  rw [cell_of_row _ _ 0 bv.cells _ (0, 0) (heap_alloc_new w _)]
  cases bv <;> simp [Value.oneCell'] at h1 <;> rfl

def validM (L : List UInt8) : Bool := (decP L).all (·.2.2)
theorem validM_no (L : List UInt8) (i : Nat) (h : i < (decP L).length) (h2 : (nth (decP L) i).2.2 = false) : validM L = false := by
  rw [nth_eq h] at h2
  unfold validM; rw [List.all_eq_false]; exact ⟨_, List.getElem_mem h, by simp [h2]⟩
theorem validM_yes (L : List UInt8) (h : ∀ j, j < (decP L).length → (nth (decP L) j).2.2 = true) : validM L = true := by
  unfold validM; rw [List.all_eq_true]
  intro x hx
  obtain ⟨j, hj, rfl⟩ := List.getElem_of_mem hx
  rw [← nth_eq hj]; exact h j hj
@[reducible] def pcT : Nat := 92
theorem valid_ret (L : List UInt8) (bv : Value) (w : World) (h : Bytes w bv L) : Ret Tryz.prog 17 [bv] w fun v w' => v = .bool (validM L) ∧ Ext w w' := by
  refine Ret.enterM Tryz.func17 Tryz.ntmps17 rfl rfl ?_
  refine WI.seq ?_
  refine WI.region (by first | exact .inl rfl | exact .inr rfl) (fun _ _ h => h) ?_
  refine WL.allocO (Rng.start w) 1 (by omega) (Tryz.zeroValue4 _) rfl ?_
  intro rb w1 O1 hr1 hU1 hR1 hE1
  refine WL.nil ?_
  refine QF.dn ?_
  refine QI.seqNext ?_
  refine WI.seq ?_
  refine WI.seq ?_
  refine WI.region (by first | exact .inl rfl | exact .inr rfl) (fun _ _ h => h) ?_
  refine WL.v (RV.move rfl) rfl ?_
  refine WL.call Tryz.call31 rfl (pieces_ret bv w1 h.one) rfl ?_
  rintro _ w2 ⟨b, rfl, hb2, hbl, hE2⟩
  have hU2 : Upd (fun j => j ≠ 0) O1 w1 O1 w2 := Upd.of_ext (by simp) _ hE2
  have hfx : Fixed O1 w2 ⟨b, 0, none⟩ bv := ⟨hb2, Classical.byContradiction fun e => by have := (hR1.rng b e).2; omega⟩
  have hU12 : Upd (fun j => j ≠ 0) (fun _ => 0) w O1 w2 := (hU1.mono (by rintro _ rfl; decide) (by decide)).trans hU2
  have hr2 := hr1.upd (Upd.of_ext (S := fun _ => False) (fun h => h) O1 hE2) (by decide) (fun h => h)
  refine WL.nil ?_
  refine QF.dn ?_
  refine QI.seqNext ?_
  refine WI.block ?_
  refine WI.rangeFunc (L := 3) (K := 4) rfl Tryz.call47 (pieces1_iter L bv b) rfl rfl (fun W => Tryz.zeroValue92 W) (hR1.upd hU2) (by decide) (by decide) (by decide) (fun W O' b x ops Q' hb h => WL.storeAgg (us := (encPc x).cells) hb rfl (Tryz.sizeOf92 _) rfl rfl rfl rfl (h _ hb.setRow (Upd.setRow (by decide) hb.tag rfl))) (fun i O W => Upd (fun j => j ≠ 0) (fun _ => 0) w O W ∧ Fixed O W ⟨b, 0, none⟩ bv ∧ (∃ u, BlkO O W 1 rb #[.bool u] 4) ∧ ∀ j, j < i → (nth (decP L) j).2.2 = true) (fun c O W => c = .ret ∧ Upd (fun j => j ≠ 0) (fun _ => 0) w O W ∧ BlkO O W 1 rb #[.bool false] 4 ∧ validM L = false) (fun i O W O' W' ⟨h1, h2, ⟨u, h3⟩, h4⟩ hU => ⟨h1.trans (hU.mono (by rintro _ (rfl | rfl) <;> decide) (by decide)), h2.upd hU, ⟨u, h3.upd hU (by decide) (by decide)⟩, h4⟩) (fun c O W O' W' ⟨h0, h1, h2, h3⟩ hU => ⟨h0, h1.trans (hU.mono (by rintro _ rfl; decide) (by decide)), h2.upd hU (by decide) (by decide), h3⟩) (fun i O W ⟨h1, h2, _⟩ => ⟨h2.cell, h.ext h1.ext⟩) ⟨hU12, hfx, ⟨false, hr2⟩, by intro j hj; omega⟩ ?_ ?_ ?_
  · rintro l i hi pb O3 w3 hR3 ⟨hU3, hf3, ⟨u, hr3⟩, hall⟩ hpb
    rw [pcs_len] at hi
    rw [pcs_get] at hpb ⊢
    refine WI.block ?_
    refine WI.seq ?_
    refine WI.region (by first | exact .inl rfl | exact .inr rfl) (fun _ _ h => h) ?_
    refine WL.v (RV.fieldAddr 3 Tryz.underlying92 rfl rfl (Tryz.sizeOf4 _) (by decide) rfl) rfl ?_
    refine WL.v (RV.load (by first | exact hpb.cell 3 rfl) (Tryz.isAgg4 _) rfl) rfl ?_
    refine WL.v (RV.not rfl) rfl ?_
    refine WL.nil ?_
    refine QF.dn ?_
    refine QI.seqNext ?_
    refine WI.cond rfl ?_ ?_
    · intro hw
      replace hw : (nth (decP L) i).2.2 = false := by simpa using hw
      refine WI.seq ?_
      refine WI.region (by first | exact .inl rfl | exact .inr rfl) (fun _ _ h => h) ?_
      refine WL.storeBlk (j := 0) hr3 rfl (Tryz.sizeOf4 _) rfl rfl rfl rfl ?_
      have hUs : Upd (fun j => j = 1) O3 w3 O3 (w3.setCell ⟨rb, 0, none⟩ (.bool false)) := Upd.set (by decide) hr3.tag rfl
      refine WL.nil ?_
      refine QF.dn ?_
      refine QI.seqNext ?_
      refine WI.ret ?_
      refine QI.blockRet ?_
      exact QI.roundRet O3 (hUs.mono (by rintro _ rfl; decide) (by decide)) ⟨rfl, hU3.trans (hUs.mono (by rintro _ rfl; decide) (by decide)), hr3.set 0 _, validM_no L i hi hw⟩
    · intro hw
      replace hw : (nth (decP L) i).2.2 = true := by simpa using hw
      refine WI.skip ?_
      refine QI.blockNormal ?_
      refine QI.roundNext O3 (Upd.refl (by decide) _ _) ⟨hU3, hf3, ⟨u, hr3⟩, fun j hj => ?_⟩
      rcases Nat.lt_or_ge j i with hji | hji
      · exact hall j hji
      · obtain rfl : j = i := by omega
        exact hw
  · rintro D O3 w3 hR3 hD3 ⟨hU3, hf3, ⟨u, hr3⟩, hall⟩ hm
    rw [pcs_len] at hall
    refine QI.blockNormal ?_
    refine QI.seqNext ?_
    refine WI.seq ?_
    refine WI.region (by first | exact .inl rfl | exact .inr rfl) (fun _ _ h => h) ?_
    refine WL.storeBlk (j := 0) hr3 rfl (Tryz.sizeOf4 _) rfl rfl rfl rfl ?_
    have hUs : Upd (fun j => j = 1) O3 w3 O3 (w3.setCell ⟨rb, 0, none⟩ (.bool true)) := Upd.set (by decide) hr3.tag rfl
    have hr4 := hr3.set 0 (.bool true)
    have hm4 := (hUs.blk D (heap_lt hm) (by rw [hD3]; decide)).trans hm
    generalize w3.setCell ⟨rb, 0, none⟩ (.bool true) = w4 at *
    have hUm : Upd (fun j => j = 3) O3 w4 O3 (w4.putObj D (.deferred none)) := Upd.putObj (by decide) hD3 _
    have hr5 := hr4.upd hUm (by decide) (by decide)
    refine WL.nil ?_
    refine QF.dn ?_
    refine QI.seqNext ?_
    refine WI.ret ?_
    refine QI.leave (Leave.mark hm4 (Leave.doneC rfl rfl (hr5.cell 0 rfl) (Tryz.isAgg4 _) ⟨?_, ((hU3.trans (hUs.mono (by rintro _ rfl; decide) (by decide))).trans (hUm.mono (by rintro _ rfl; decide) (by decide))).ext⟩))
    rw [validM_yes L hall]; rfl
  · rintro D c O3 w3 hR3 hD3 ⟨rfl, hU3, hr3, hno⟩ hm
    have hUm : Upd (fun j => j = 3) O3 w3 O3 (w3.putObj D (.deferred none)) := Upd.putObj (by decide) hD3 _
    have hr5 := hr3.upd hUm (by decide) (by decide)
    refine WI.ret ?_
    refine QI.blockRet ?_
    refine QI.thenRet ?_
    exact QI.leave (Leave.mark hm (Leave.doneC rfl rfl (hr5.cell 0 rfl) (Tryz.isAgg4 _) ⟨by rw [hno]; rfl, (hU3.trans (hUm.mono (by rintro _ rfl; decide) (by decide))).ext⟩))

theorem elRune : Elem Tryz.prog 61 21 1 4 := ⟨Tryz.underlying61, by kernel_rfl, by decide⟩
abbrev rval (r : Int) : List Value := [.int .i32 r]
def runesM (L : List UInt8) : List Int := (decP L).map (·.1)
theorem runesM_len (L : List UInt8) : (runesM L).length = (decP L).length := by simp [runesM]
theorem runesM_nth (L : List UInt8) (i : Nat) (h : i < (decP L).length) : nth (runesM L) i = (nth (decP L) i).1 := by
  rw [nth_eq (by rw [runesM_len]; exact h), nth_eq h]; simp [runesM]
theorem runesM_succ (L : List UInt8) (i : Nat) (h : i < (decP L).length) : (runesM L).take (i + 1) = (runesM L).take i ++ [(nth (decP L) i).1] := by
  rw [← runesM_nth L i h]; exact take_nth (by rw [runesM_len]; exact h)
theorem scAll_ret (L : List UInt8) (bv : Value) (w : World) (h : Bytes w bv L) (hn : L.length ≤ 1000000) : Ret Tryz.prog 26 [bv] w fun v w' => Sl rval 1 w' v (runesM L) ∧ Ext w w' := by
  have hpl := decP_len L
  refine Ret.enterM Tryz.func26 Tryz.ntmps26 rfl rfl ?_
  refine WI.seq ?_
  refine WI.region (by first | exact .inl rfl | exact .inr rfl) (fun _ _ h => h) ?_
  refine WL.v (RV.assign rfl) rfl ?_
  refine WL.nil ?_
  refine QF.dn ?_
  refine QI.seqNext ?_
  refine WI.seq ?_
  refine WI.region (by first | exact .inl rfl | exact .inr rfl) (fun _ _ h => h) ?_
  refine WL.allocO (Rng.start w) 1 (by omega) (Tryz.zeroValue61 _) rfl ?_
  intro rb w1 O1 hr1 hU1 hR1 hE1
  refine WL.nil ?_
  refine QF.dn ?_
  refine QI.seqNext ?_
  refine WI.seq ?_
  refine WI.seq ?_
  refine WI.region (by first | exact .inl rfl | exact .inr rfl) (fun _ _ h => h) ?_
  refine WL.v (RV.move rfl) rfl ?_
  refine WL.call Tryz.call31 rfl (pieces_ret bv w1 h.one) rfl ?_
  rintro _ w2 ⟨b, rfl, hb2, hbl, hE2⟩
  have hU2 : Upd (fun j => j ≠ 0) O1 w1 O1 w2 := Upd.of_ext (by simp) _ hE2
  have hfx : Fixed O1 w2 ⟨b, 0, none⟩ bv := ⟨hb2, Classical.byContradiction fun e => by have := (hR1.rng b e).2; omega⟩
  have hU12 : Upd (fun j => j ≠ 0) (fun _ => 0) w O1 w2 := (hU1.mono (by rintro _ rfl; decide) (by decide)).trans hU2
  have hr2 := hr1.upd (Upd.of_ext (S := fun _ => False) (fun h => h) O1 hE2) (by decide) (fun h => h)
  refine WL.nil ?_
  refine QF.dn ?_
  refine QI.seqNext ?_
  refine WI.block ?_
  refine WI.rangeFunc (L := 3) (K := 4) rfl Tryz.call47 (pieces1_iter L bv b) rfl rfl (fun W => Tryz.zeroValue92 W) (hR1.upd hU2) (by decide) (by decide) (by decide) (fun W O' b x ops Q' hb h => WL.storeAgg (us := (encPc x).cells) hb rfl (Tryz.sizeOf92 _) rfl rfl rfl rfl (h _ hb.setRow (Upd.setRow (by decide) hb.tag rfl))) (fun i O W => Upd (fun j => j ≠ 0) (fun _ => 0) w O W ∧ Fixed O W ⟨b, 0, none⟩ bv ∧ ∃ lv, BlkO O W 1 rb #[lv] 61 ∧ RowT rval 21 1 O W 2 lv ((runesM L).take i)) (fun c O W => False) (fun i O W O' W' ⟨h1, h2, lv, h3, h4⟩ hU => ⟨h1.trans (hU.mono (by rintro _ (rfl | rfl) <;> decide) (by decide)), h2.upd hU, lv, h3.upd hU (by decide) (by decide), h4.upd hU (by decide) (by decide)⟩) (fun c O W O' W' h hU => h) (fun i O W ⟨h1, h2, _⟩ => ⟨h2.cell, h.ext h1.ext⟩) ⟨hU12, hfx, _, hr2, RowT.nil _ _ _ _ _ _⟩ ?_ ?_ ?_
  · rintro l i hi pb O3 w3 hR3 ⟨hU3, hf3, lv, hr3, hl3⟩ hpb
    rw [pcs_len] at hi
    rw [pcs_get] at hpb ⊢
    have htl : ((runesM L).take i).length ≤ i := by simp; omega
    refine WI.block ?_
    refine WI.region (by first | exact .inl rfl | exact .inr rfl) (fun _ _ h => h) ?_
    refine WL.v (RV.load (by first | exact hr3.cell 0 rfl | exact hpb.cell 2 rfl) (Tryz.isAgg61 _) rfl) rfl ?_
    refine WL.v (RV.fieldAddr 2 Tryz.underlying92 rfl rfl (Tryz.sizeOf21 _) (by decide) rfl) rfl ?_
    refine WL.v (RV.load (by first | exact hr3.cell 0 rfl | exact hpb.cell 2 rfl) (Tryz.isAgg21 _) rfl) rfl ?_
    refine WL.push elRune hl3 hR3 ((nth (decP L) i).1) (fun _ => rfl) rfl rfl rfl (by simp [Value.oneCell']) (by omega) (by omega) (by omega) (by decide) rfl rfl ?_
    intro lv4 w4 O4 hl4 hU4 hR4
    rw [← runesM_succ L i hi] at hl4
    have hr4 := hr3.upd hU4 (by decide) (by decide)
    have hf4 := hf3.upd hU4
    refine WL.storeBlk (j := 0) hr4 rfl (Tryz.sizeOf61 _) hl4.one rfl rfl rfl ?_
    have hUs : Upd (fun j => j = 1) O4 w4 O4 (w4.setCell ⟨rb, 0, none⟩ lv4) := Upd.set (by decide) hr4.tag rfl
    have hU34 : Upd (fun j => j ≠ 0 ∧ j ≠ 3) O3 w3 O4 (w4.setCell ⟨rb, 0, none⟩ lv4) := (hU4.mono (by rintro _ rfl; decide) (by decide)).trans (hUs.mono (by rintro _ rfl; decide) (by decide))
    have hr5 := hr4.set 0 lv4
    refine WL.nil ?_
    refine QF.dn ?_
    refine QI.blockNormal ?_
    exact QI.roundNext O4 hU34 ⟨hU3.trans (hU34.mono (fun _ h => h.1) (by decide)), hf4.upd hUs, lv4, hr5, hl4.upd hUs (by decide) (by decide)⟩
  · rintro D O3 w3 hR3 hD3 ⟨hU3, hf3, lv, hr3, hl3⟩ hm
    rw [pcs_len, ← runesM_len, List.take_length] at hl3
    refine QI.blockNormal ?_
    refine QI.seqNext ?_
    have hUm : Upd (fun j => j = 3) O3 w3 O3 (w3.putObj D (.deferred none)) := Upd.putObj (by decide) hD3 _
    refine WI.seq ?_
    refine WI.region (by first | exact .inl rfl | exact .inr rfl) (fun _ _ h => h) ?_
    refine WL.v (RV.load (by first | exact hr3.cell 0 rfl) (Tryz.isAgg61 _) rfl) rfl ?_
    refine WL.v (RV.assign rfl) rfl ?_
    refine WL.nil ?_
    refine QF.dn ?_
    refine QI.seqNext ?_
    refine WI.ret ?_
    exact QI.leave (Leave.mark hm (Leave.done1 rfl rfl ⟨(hl3.upd hUm (by decide) (by decide)).sl, (hU3.trans (hUm.mono (by rintro _ rfl; decide) (by decide))).ext⟩))
  · rintro D c O3 w3 hR3 hD3 hno hm
    exact hno.elim
end Go.Proofs.YtakigpnccppheaaGreatDoor
