/- Packages token, slices, walked: All of a text that was escaped. -/
import Derived.Test.YtakigpnccppheaaGreatDoorTokE
namespace Go.Proofs.YtakigpnccppheaaGreatDoor
open Go.VL Go.Proofs
set_option maxRecDepth 10000

def FreshIn (w w' : World) (v : Value) : Prop := ∀ a n c, v = .slice (some a) n c → w.heap.size ≤ a.block ∧ a.block < w'.heap.size
theorem rowFreshIn {α : Type} {enc : α → List Value} {E : TypeId} {sz : Nat} {S : Nat → Prop} {O' : Nat → Nat} {w w' : World} {i : Nat} {v : Value} {l : List α} (h : RowT enc E sz O' w' i v l) (hi : i ≠ 0) (u : Upd S (fun _ => 0) w O' w') : FreshIn w w' v := fun a n c e => by
  have htg := h.1.tag a.block (by rw [e]; rfl)
  rcases u.new a.block (by rw [htg]; exact hi) with h1 | h1
  · exact absurd rfl h1
  · exact h1
theorem elTok : Elem Tryz.prog 53 56 6 48 := ⟨Tryz.underlying53, by kernel_rfl, by decide⟩
theorem tokens_ret (bv : Value) (w : World) (h1 : bv.oneCell' = true) : Ret Tryz.prog 37 [bv] w fun v w' => ∃ b, v = .func (.func 52) #[] #[.pointer (some ⟨b, 0, none⟩)] ∧ w'.cell? ⟨b, 0, none⟩ = some bv ∧ Ext w w' := by
  refine Ret.enter Tryz.func37 Tryz.ntmps37 rfl rfl ?_
  refine WC.seq ?_
  refine WC.region ?_
  refine WL.box rfl rfl ?_
  refine WL.v (RV.assign rfl) rfl ?_
  refine WL.nil ?_
  refine QF.seqNext ?_
  refine WC.seq ?_
  refine WC.region ?_
  refine WL.v (RV.mkFunc rfl rfl) rfl ?_
  refine WL.v (RV.assign rfl) rfl ?_
  refine WL.nil ?_
  refine QF.seqNext ?_
  refine WC.ret ?_
  refine QF.done1 rfl rfl (⟨_, rfl, ?_, Ext.alloc _ _⟩)
  rw [cell_of_row _ _ 0 bv.cells _ (0, 0) (heap_alloc_new w _)]
  cases bv <;> simp [Value.oneCell'] at h1 <;> rfl
theorem appendSeq_ret {gf : Nat} {lb : List Value} {xs : List Tok} {Rd : World → Prop} (eg : ∀ (args : Array Value) (w : World), (callFunc gf args).run Tryz.prog w = .ok (.enter gf args) w) (it : Iter Tryz.prog gf lb tokV xs Rd) (w : World) (hRd : ∀ W, Ext w W → Rd W) (hn : xs.length ≤ 1000000) :
    Ret Tryz.prog 51 [.slice none 0 0, .func (.func gf) #[] lb.toArray] w fun v w' => Sl encT 6 w' v xs ∧ FreshIn w w' v ∧ Ext w w' := by
  refine Ret.enterM Tryz.func51 Tryz.ntmps51 rfl rfl ?_
  refine WI.seq ?_
  refine WI.region (by first | exact .inl rfl | exact .inr rfl) (fun _ _ h => h) ?_
  refine WL.boxO (Rng.start w) 1 (by omega) rfl rfl ?_
  intro rb w1 O1 hr1 hU1 hR1 hE1
  refine WL.v (RV.assign rfl) rfl ?_
  refine WL.nil ?_
  refine QF.dn ?_
  refine QI.seqNext ?_
  refine WI.seq ?_
  refine WI.seq ?_
  refine WI.region (by first | exact .inl rfl | exact .inr rfl) (fun _ _ h => h) ?_
  refine WL.v (RV.move rfl) rfl ?_
  refine WL.nil ?_
  refine QF.dn ?_
  refine QI.seqNext ?_
  refine WI.block ?_
  refine WI.rangeFunc (L := 3) (K := 4) rfl eg it rfl rfl (fun W => Tryz.zeroValue56 W) hR1 (by decide) (by decide) (by decide) (fun W O' b x ops Q' hb h => WL.storeAgg (us := (encT x).toArray) hb rfl (Tryz.sizeOf56 _) rfl rfl rfl rfl (h _ hb.setRow (Upd.setRow (by decide) hb.tag rfl))) (fun i O W => Upd (fun j => j ≠ 0) (fun _ => 0) w O W ∧ ∃ lv, BlkO O W 1 rb #[lv] 53 ∧ RowT encT 56 6 O W 2 lv (xs.take i)) (fun c O W => False) (fun i O W O' W' ⟨h1, lv, h3, h4⟩ hU => ⟨h1.trans (Upd.any hU), lv, h3.upd hU (by decide) (by decide), h4.upd hU (by decide) (by decide)⟩) (fun c O W O' W' h hU => h) (fun i O W ⟨h1, _⟩ => hRd W h1.ext) ⟨Upd.any hU1, _, hr1, RowT.nil _ _ _ _ _ _⟩ ?_ ?_ ?_
  · rintro l i hi pb O3 w3 hR3 ⟨hU3, lv, hr3, hl3⟩ hpb
    have htl : (xs.take i).length ≤ i := by simp; omega
    replace hpb : BlkO O3 w3 4 pb (encT xs[i]).toArray 56 := hpb
    refine WI.block ?_
    refine WI.region (by first | exact .inl rfl | exact .inr rfl) (fun _ _ h => h) ?_
    refine WL.v (RV.load (by first | exact hr3.cell 0 rfl) (Tryz.isAgg53 _) rfl) rfl ?_
    refine WL.v (RV.loadAgg (us := encT xs[i]) hpb.cellsAdd (Tryz.isAgg56 _) (Tryz.sizeOf56 _) rfl) rfl ?_
    refine WL.push elTok hl3 hR3 (xs[i]) (fun _ => rfl) rfl rfl rfl (by simp [Value.oneCell', encT]) (by omega) (by omega) (by omega) (by decide) rfl rfl ?_
    intro lv4 w4 O4 hl4 hU4 hR4
    rw [show xs.take i ++ [xs[i]] = xs.take (i + 1) from (List.take_succ_eq_append_getElem hi).symm] at hl4
    have hr4 := hr3.upd hU4 (by decide) (by decide)
    refine WL.storeBlk (j := 0) hr4 rfl (Tryz.sizeOf53 _) hl4.one rfl rfl rfl ?_
    have hUs : Upd (fun j => j = 1) O4 w4 O4 (w4.setCell ⟨rb, 0, none⟩ lv4) := Upd.set (by decide) hr4.tag rfl
    have hU34 : Upd (fun j => j ≠ 0 ∧ j ≠ 3) O3 w3 O4 (w4.setCell ⟨rb, 0, none⟩ lv4) := (hU4.mono (by rintro _ rfl; decide) (by decide)).trans (hUs.mono (by rintro _ rfl; decide) (by decide))
    have hr5 := hr4.set 0 lv4
    refine WL.nil ?_
    refine QF.dn ?_
    refine QI.blockNormal ?_
    exact QI.roundNext O4 hU34 ⟨hU3.trans (hU34.mono (fun _ h => h.1) (by decide)), lv4, hr5, hl4.upd hUs (by decide) (by decide)⟩
  · rintro D O3 w3 hR3 hD3 ⟨hU3, lv, hr3, hl3⟩ hm
    rw [List.take_length] at hl3
    refine QI.blockNormal ?_
    refine QI.seqNext ?_
    have hUm : Upd (fun j => j = 3) O3 w3 O3 (w3.putObj D (.deferred none)) := Upd.putObj (by decide) hD3 _
    refine WI.seq ?_
    refine WI.region (by first | exact .inl rfl | exact .inr rfl) (fun _ _ h => h) ?_
    refine WL.v (RV.load (by first | exact hr3.cell 0 rfl) (Tryz.isAgg53 _) rfl) rfl ?_
    refine WL.v (RV.assign rfl) rfl ?_
    refine WL.nil ?_
    refine QF.dn ?_
    refine QI.seqNext ?_
    refine WI.ret ?_
    exact QI.leave (Leave.mark hm (Leave.done1 rfl rfl ⟨(hl3.upd hUm (by decide) (by decide)).sl, rowFreshIn (hl3.upd hUm (by decide) (by decide)) (by decide) (hU3.trans (Upd.any hUm)), (hU3.trans (Upd.any hUm)).ext⟩))
  · rintro D c O3 w3 hR3 hD3 hno hm
    exact hno.elim
theorem collect_ret {gf : Nat} {lb : List Value} {xs : List Tok} {Rd : World → Prop} (eg : ∀ (args : Array Value) (w : World), (callFunc gf args).run Tryz.prog w = .ok (.enter gf args) w) (it : Iter Tryz.prog gf lb tokV xs Rd) (w : World) (hRd : ∀ W, Ext w W → Rd W) (hn : xs.length ≤ 1000000) :
    Ret Tryz.prog 36 [.func (.func gf) #[] lb.toArray] w fun v w' => Sl encT 6 w' v xs ∧ FreshIn w w' v ∧ Ext w w' := by
  refine Ret.enter Tryz.func36 Tryz.ntmps36 rfl rfl ?_
  refine WC.seq ?_
  refine WC.region ?_
  refine WL.v (RV.assign rfl) rfl ?_
  refine WL.nil ?_
  refine QF.seqNext ?_
  refine WC.seq ?_
  refine WC.region ?_
  refine WL.v (RV.move rfl) rfl ?_
  refine WL.call Tryz.call51 rfl (appendSeq_ret eg it w hRd hn) rfl ?_
  rintro v w1 ⟨h1, hf1, hE1⟩
  refine WL.v (RV.assign rfl) rfl ?_
  refine WL.nil ?_
  refine QF.seqNext ?_
  refine WC.ret ?_
  refine QF.done1 rfl rfl (⟨h1, hf1, hE1⟩)
theorem tokL_len : ∀ (n : Nat) (r : List UInt8) (a : Nat), r.length ≤ n → (tokL n r a).length ≤ n
  | 0, _, _, _ => by simp [tokL]
  | n + 1, [], _, _ => by simp [tokL]
  | n + 1, c :: r, a, h => by
    have h' : r.length ≤ n := by simpa using h
    cases hs : spec c with
    | true => rw [tokL_cons _ _ _ _ hs]; have := tokL_len n r (a + (escB c).length) h'; simp; omega
    | false =>
      rw [tokL_run _ _ _ _ hs]
      have hrr := congrArg List.length (run_rest (c :: r))
      have hrp := (runOf_pos (l := r) hs).1
      rw [List.length_append, hrp, List.length_cons, List.length_cons] at hrr
      have := tokL_len n (restOf (c :: r)) (a + (runOf (c :: r)).length) (by omega)
      simp; omega
theorem tokAll_ret (l : List UInt8) (bv : Value) (w : World) (h : Bytes w bv (escM l)) (hl : l.length ≤ 1000000) (h27 : ∀ b ∈ l, b ≠ 27) : Ret Tryz.prog 22 [bv] w fun v w' => Sl encT 6 w' v (tokL l.length l 0) ∧ FreshIn w w' v ∧ Ext w w' := by
  have hln := tokL_len l.length l 0 (Nat.le_refl _)
  refine Ret.enter Tryz.func22 Tryz.ntmps22 rfl rfl ?_
  refine WC.seq ?_
  refine WC.region ?_
  refine WL.v (RV.assign rfl) rfl ?_
  refine WL.nil ?_
  refine QF.seqNext ?_
  refine WC.seq ?_
  refine WC.region ?_
  refine WL.v (RV.move rfl) rfl ?_
  refine WL.call Tryz.call37 rfl (tokens_ret bv w h.one) rfl ?_
  rintro v w1 ⟨b, rfl, hb, hE1⟩
  refine WL.call Tryz.call36 rfl (collect_ret (lb := [.pointer (some ⟨b, 0, none⟩)]) Tryz.call52 (tokens1_iter l hl h27 bv b) w1 (fun W hE => ⟨hE.cell hb, (h.ext hE1).ext hE⟩) (by omega)) rfl ?_
  rintro v w2 ⟨h2, hf2, hE2⟩
  refine WL.v (RV.assign rfl) rfl ?_
  refine WL.nil ?_
  refine QF.seqNext ?_
  refine WC.ret ?_
  refine QF.done1 rfl rfl (⟨h2, fun a n c e => ⟨Nat.le_trans hE1.size (hf2 a n c e).1, (hf2 a n c e).2⟩, hE1.trans hE2⟩)
end Go.Proofs.YtakigpnccppheaaGreatDoor
