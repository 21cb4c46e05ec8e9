/- Package extract, walked: All, Text of a text that was escaped. -/
import Derived.Test.YtakigpnccppheaaGreatDoorTokH
namespace Go.Proofs.YtakigpnccppheaaGreatDoor
open Go.VL Go.Proofs
set_option maxRecDepth 10000

def runesT (T : List UInt8) (x : Tok) : List Int := if x.1 = 1 then [x.2.2.2] else runesM ((T.take x.2.2.1).drop x.2.1)
theorem take_drop_mid {T a b : List UInt8} {i : Nat} (h : T.drop i = a ++ b) (hi : i ≤ T.length) : (T.take (i + a.length)).drop i = a := by
  have e : T = T.take i ++ (a ++ b) := by rw [← h, List.take_append_drop]
  have hl : (T.take i).length = i := by simp; omega
  rw [e, ← List.append_assoc, List.take_left' (by simp [hl]), List.drop_left' hl]
theorem tokL_runes (T : List UInt8) : ∀ (n : Nat) (r : List UInt8) (a : Nat), a ≤ T.length → T.drop a = escM r → (tokL n r a).flatMap (runesT T) = itL n r ∧
    ∀ x ∈ tokL n r a, ((x.1 = 0 ∧ x.2.2.2 = 0) ∨ x.1 = 1) ∧ x.2.1 < x.2.2.1 ∧ x.2.2.1 ≤ T.length
  | 0, _, _, _, _ => ⟨rfl, by simp [tokL]⟩
  | n + 1, [], _, _, _ => ⟨rfl, by simp [tokL]⟩
  | n + 1, c :: r, a, ha, hd => by
    have hdl := congrArg List.length hd
    rw [List.length_drop] at hdl
    cases hs : spec c with
    | true =>
      rw [tokL_cons _ _ _ _ hs, List.flatMap_cons]
      rw [escM_cons] at hd hdl
      rw [List.length_append] at hdl
      have hp : 0 < (escB c).length := by rw [escB_spec hs]; simp
      obtain ⟨h1, h2⟩ := tokL_runes T n r (a + (escB c).length) (by omega) (by rw [← List.drop_drop, hd, List.drop_left])
      refine ⟨by rw [h1]; simp [runesT, itL, hs], fun x hx => ?_⟩
      rcases List.mem_cons.1 hx with rfl | hx
      · exact ⟨.inr rfl, by dsimp only; omega, by dsimp only; omega⟩
      · exact h2 x hx
    | false =>
      obtain ⟨hrp1, hrp2⟩ := runOf_pos (l := r) hs
      rw [tokL_run _ _ _ _ hs, List.flatMap_cons]
      rw [escM_split] at hd hdl
      rw [List.length_append] at hdl
      have hp : 0 < (runOf (c :: r)).length := by rw [hrp1]; simp
      obtain ⟨h1, h2⟩ := tokL_runes T n (restOf (c :: r)) (a + (runOf (c :: r)).length) (by omega) (by rw [← List.drop_drop, hd, List.drop_left])
      refine ⟨?_, fun x hx => ?_⟩
      · rw [h1]
        simp only [runesT, itL, hs]
        rw [if_neg (by decide), if_neg (by decide), take_drop_mid hd ha]
      · rcases List.mem_cons.1 hx with rfl | hx
        · exact ⟨.inl ⟨rfl, rfl⟩, by dsimp only; omega, by dsimp only; omega⟩
        · exact h2 x hx
theorem runesM_le (L : List UInt8) : (runesM L).length ≤ L.length := by rw [runesM_len]; exact decP_len L
theorem itL_len : ∀ (n : Nat) (l : List UInt8), (itL n l).length ≤ l.length
  | 0, _ => by simp [itL]
  | n + 1, [] => by simp [itL]
  | n + 1, b :: l => by
    unfold itL
    split
    · have := itL_len n l; simp; omega
    · have h1 := itL_len n (restOf (b :: l))
      have h2 := runesM_le (runOf (b :: l))
      have hrr := congrArg List.length (run_rest (b :: l))
      rw [List.length_append] at hrr
      rw [List.length_append]; omega
theorem flat_take_le {α β : Type} (f : α → List β) (xs : List α) (j : Nat) : ((xs.take j).flatMap f).length ≤ (xs.flatMap f).length := by
  conv => rhs; rw [← List.take_append_drop j xs]
  rw [List.flatMap_append, List.length_append]; omega
theorem free_slice {O : Nat → Nat} {w : World} {v : Value} {sz lo hi : Nat} (h : Free O w v) : Free O w (sliceV v sz lo hi) := fun a n c e => by
  cases v <;> simp only [sliceV] at e <;> first | cases e | skip
  case slice b m k =>
    cases b with
    | none => split at e <;> cases e
    | some q =>
      have := h q m k rfl
      split at e
      · cases e; exact this
      · simp only [Option.map_some, Value.slice.injEq, Option.some.injEq] at e
        obtain ⟨rfl, _⟩ := e
        have hb : (q.add (lo * sz)).block = q.block := by simp only [Addr.add]; split <;> rfl
        rw [hb]; exact this
theorem runesM_ne {L : List UInt8} (h : L ≠ []) : (runesM L).length ≠ 0 := by rw [runesM_step h]; simp

theorem exAll_ret (l : List UInt8) (bv : Value) (w : World) (h : Bytes w bv (escM l)) (hbf : Free (fun _ => 0) w bv) (hl : l.length ≤ 1000000) (h27 : ∀ b ∈ l, b ≠ 27) :
    Ret Tryz.prog 12 [bv] w fun v w' => ∃ its, Sl encIt 7 w' v its ∧ its.map (·.1) = itL l.length l ∧ Ext w w' := by
  have hel := escM_len l
  obtain ⟨hflat, htok⟩ := tokL_runes (escM l) l.length l 0 (Nat.zero_le _) rfl
  have hitl := itL_len l.length l
  rw [← hflat] at hitl
  have hlnk := tokL_len l.length l 0 (Nat.le_refl _)
  refine Ret.enter Tryz.func12 Tryz.ntmps12 rfl rfl ?_
  refine WC.seq ?_
  refine WC.region ?_
  refine WL.v (RV.assign rfl) rfl ?_
  refine WL.nil ?_
  refine QF.seqNext ?_
  refine WC.seq ?_
  refine WC.region ?_
  refine WL.call Tryz.call21 rfl (exNew_ret w) rfl ?_
  rintro v w1 ⟨eb, nb, rfl, hx1, hR1, hE1⟩
  refine WL.v (RV.assign rfl) rfl ?_
  refine WL.nil ?_
  refine QF.seqNext ?_
  refine WC.seq ?_
  refine WC.region ?_
  refine WL.v (RV.assign rfl) rfl ?_
  refine WL.nil ?_
  refine QF.seqNext ?_
  refine WC.seq ?_
  refine WC.seq ?_
  refine WC.region ?_
  refine WL.v (RV.move rfl) rfl ?_
  refine WL.call Tryz.call22 rfl (tokAll_ret l bv w1 (h.ext hE1) hl h27) rfl ?_
  rintro tv w2 ⟨ht2, hft, hE2⟩
  have htf : Free (own1 (fun _ => 0) eb 1) w2 tv := fun a n c e => ⟨Classical.byContradiction fun hne => by have := (hR1.rng _ hne).2; have := (hft a n c e).1; omega, (hft a n c e).2⟩
  have hX2 : Upd (fun _ => False) (own1 (fun _ => 0) eb 1) w1 (own1 (fun _ => 0) eb 1) w2 := Upd.of_ext (fun h => h) _ hE2
  have hx2 := hx1.upd hX2 (fun h => h)
  have hR2 := hR1.upd hX2
  have hE02 := hE1.trans hE2
  generalize own1 (fun _ => 0) eb 1 = Oe at *
  refine WL.v (RV.len (by first | exact ht2) Tryz.underlying53 rfl) rfl ?_
  refine WL.v (RV.move rfl) rfl ?_
  refine WL.nil ?_
  refine QF.seqNext ?_
  refine WC.block ?_
  refine WC.loop (fun x : Nat × (Nat → Nat) × World × Value × List It => [(0, bv), (3, .pointer (some ⟨eb, 0, none⟩)), (4, x.2.2.2.1), (9, tv), (10, .int .i64 (tokL l.length l 0).length), (11, .int .i64 x.1)]) (fun x : Nat × (Nat → Nat) × World × Value × List It => x.2.2.1) (fun x : Nat × (Nat → Nat) × World × Value × List It => x.1 ≤ (tokL l.length l 0).length ∧ RowT encIt 49 7 x.2.1 x.2.2.1 2 x.2.2.2.1 x.2.2.2.2 ∧ x.2.2.2.2.map (·.1) = ((tokL l.length l 0).take x.1).flatMap (runesT (escM l)) ∧ Ex x.2.1 x.2.2.1 eb nb ∧ Upd (fun k => k ≠ 0) Oe w2 x.2.1 x.2.2.1) (fun x : Nat × (Nat → Nat) × World × Value × List It => (tokL l.length l 0).length - x.1) (0, Oe, w2, .slice none 0 0, []) (⟨Nat.zero_le _, RowT.nil _ _ _ _ _ _, rfl, hx2, Upd.refl (by decide) _ _⟩) ⟨rfl, rfl, rfl, rfl, rfl, rfl, trivial⟩ rfl ?_
  rintro ⟨j, O3, w3, lv, its⟩ ⟨hj0, hrow, hmap, hx3, hU3⟩
  dsimp only at hj0 hrow hmap hx3 hU3 ⊢
  have hR3 := hR2.upd hU3
  have hE23 : RowKit.Below w.heap.size w2 w3 := hU3.below hR2
  have hE3 : Ext w w3 := RowKit.Below.trans hE02 hE23
  have hbO3 : Free O3 w3 bv := fun a n c e => by
    have hlt := (hbf a n c e).2
    exact ⟨Classical.byContradiction fun hne => by have := (hR3.rng _ hne).1; omega, Nat.lt_of_lt_of_le hlt hE3.size⟩
  refine WC.seq ?_
  refine WC.region ?_
  refine WL.v (RV.lss rfl rfl) rfl ?_
  refine WL.nil ?_
  refine QF.seqNext ?_
  refine WC.seq ?_
  refine WC.cond rfl ?_ ?_
  · intro hlt
    have hj : j < (tokL l.length l 0).length := by have := of_decide_eq_true hlt; omega
    obtain ⟨hkind, hft0, htT⟩ := htok _ (List.getElem_mem hj)
    have ht3 := ht2.upd htf hU3
    have hcells := ht3.cells j hj
    obtain ⟨tok, hget⟩ : ∃ tok, (tokL l.length l 0)[j] = tok := ⟨_, rfl⟩
    rw [hget] at hkind hft0 htT hcells
    obtain ⟨k, f, t, r⟩ := tok
    dsimp only at hkind hft0 htT
    have hb3 := h.ext hE3
    refine WC.skip ?_
    refine QF.seqNext ?_
    refine WC.seq ?_
    refine WC.block ?_
    refine WC.seq ?_
    refine WC.region ?_
    refine WL.v (RV.indexAddr (by first | exact ht3) Tryz.underlying53 (Tryz.sizeOf56 _) rfl rfl _ rfl (by omega)) rfl ?_
    refine WL.v (RV.loadAgg (us := encT (k, f, t, r)) hcells (Tryz.isAgg56 _) (Tryz.sizeOf56 _) rfl) rfl ?_
    refine WL.allocO hR3 3 (by omega) (Tryz.zeroValue56 _) rfl ?_
    intro tb w4a O4 ht4a hU4a hR4a hE4a
    refine WL.storeAgg (us := (encT (k, f, t, r)).toArray) ht4a rfl (Tryz.sizeOf56 _) rfl rfl rfl rfl ?_
    have ht4 := ht4a.setRow (us := (encT (k, f, t, r)).toArray)
    have hU4b : Upd (fun q => q = 3) O4 w4a O4 (w4a.setRow tb (encT (k, f, t, r)).toArray) := Upd.setRow (by decide) ht4a.tag rfl
    have hU34 := hU4a.trans hU4b
    have hR4 := hR4a.upd hU4b
    generalize w4a.setRow tb (encT (k, f, t, r)).toArray = w4 at *
    have hrow4 := hrow.upd hU34 (by decide) (by decide)
    have hx4 := hx3.upd hU34 (by decide)
    have hbO4 := hbO3.upd hU34
    have hb4 : Bytes w4 bv (escM l) := hb3.upd hbO3 hU34
    have hU4 : Upd (fun k => k ≠ 0) Oe w2 O4 w4 := hU3.trans (Upd.any hU34)
    have hDr : Upd (fun _ => False) O4 w4 O4 w4.drew := Upd.of_ext (fun h => h) O4 (Ext.refl w4).drew
    have hfs : Free O4 w4.drew (sliceV bv 1 f t) := free_slice (hbO4.upd hDr)
    have hbs : Bytes w4.drew (sliceV bv 1 f t) (((escM l).take t).drop f) := hb4.drew.slice (by omega) htT
    have hsegl : (((escM l).take t).drop f).length = t - f := by simp; omega
    refine WL.nil ?_
    refine QF.seqNext ?_
    rcases hkind with ⟨rfl, rfl⟩ | rfl
    · have hrun : runesT (escM l) (0, f, t, 0) = runesM (((escM l).take t).drop f) := by simp [runesT]
      have hrne : (runesM (((escM l).take t).drop f)).length ≠ 0 := runesM_ne (fun e => by rw [e] at hsegl; simp at hsegl; omega)
      refine WC.draw (fun W => (∀ (j : Nat) (u : Value), (encT (0, f, t, 0))[j]? = some u → W.cell? ((⟨tb, 0, none⟩ : Addr).add j) = some u) ∧ Bytes W bv (escM l)) 12 rfl (by kernel_rfl) ?_
      refine WH.take 0 rfl (by kernel_rfl) (by kernel_rfl) (by kernel_rfl) ⟨ht4.drew.cellsAdd, hb4.drew⟩ (fun w1 hw1 => RV.move rfl) rfl ?_
      refine WH.take 1 rfl (by kernel_rfl) (by kernel_rfl) (by kernel_rfl) ⟨ht4.drew.cellsAdd, hb4.drew⟩ (fun w1 hw1 => RV.move rfl) rfl ?_
      refine WH.take 2 rfl (by kernel_rfl) (by kernel_rfl) (by kernel_rfl) ⟨ht4.drew.cellsAdd, hb4.drew⟩ (fun w1 hw1 => RV.loadAgg (us := encT (0, f, t, 0)) hw1.1 (Tryz.isAgg56 _) (Tryz.sizeOf56 _) rfl) rfl ?_
      refine WH.take 3 rfl (by kernel_rfl) (by kernel_rfl) (by kernel_rfl) ⟨ht4.drew.cellsAdd, hb4.drew⟩ (fun w1 hw1 => RV.move rfl) rfl ?_
      refine WH.take 4 rfl (by kernel_rfl) (by kernel_rfl) (by kernel_rfl) ⟨ht4.drew.cellsAdd, hb4.drew⟩ (fun w1 hw1 => RV.fieldAddr 1 Tryz.underlying56 rfl rfl (Tryz.sizeOf3 _) (by decide) rfl) rfl ?_
      refine WH.take 5 rfl (by kernel_rfl) (by kernel_rfl) (by kernel_rfl) ⟨ht4.drew.cellsAdd, hb4.drew⟩ (fun w1 hw1 => RV.load (by first | exact hw1.1 1 _ rfl) (Tryz.isAgg3 _) rfl) rfl ?_
      refine WH.take 6 rfl (by kernel_rfl) (by kernel_rfl) (by kernel_rfl) ⟨ht4.drew.cellsAdd, hb4.drew⟩ (fun w1 hw1 => RV.fieldAddr 2 Tryz.underlying56 rfl rfl (Tryz.sizeOf3 _) (by decide) rfl) rfl ?_
      refine WH.take 7 rfl (by kernel_rfl) (by kernel_rfl) (by kernel_rfl) ⟨ht4.drew.cellsAdd, hb4.drew⟩ (fun w1 hw1 => RV.load (by first | exact hw1.1 2 _ rfl) (Tryz.isAgg3 _) rfl) rfl ?_
      refine WH.take 8 rfl (by kernel_rfl) (by kernel_rfl) (by kernel_rfl) ⟨ht4.drew.cellsAdd, hb4.drew⟩ (fun w1 hw1 => RV.slice hw1.2 Tryz.underlying31 (Tryz.sizeOf5 _) rfl rfl rfl f t rfl rfl (by omega) htT) rfl ?_
      refine WH.one 9 (by kernel_rfl) rfl ?_
      refine WL.call Tryz.call23 rfl (takeText_ret O4 w4.drew eb nb f t (((escM l).take t).drop f) (sliceV bv 1 f t) hx4.drew hbs hfs (by omega) (by omega)) rfl ?_
      rintro v w5 ⟨its2, g1, g2, g3, g4, g5⟩
      have hrow5 := hrow4.drew.upd g5 (by decide) (by decide)
      have ht5 := ht4.drew.upd g5 (by decide) (by decide)
      have hb5 := hb4.drew.upd (hbO4.upd (Upd.of_ext (S := fun _ => False) (fun h => h) O4 ((Ext.refl w4).drew))) g5
      refine WL.nil ?_
      refine QF.after (⟨ht5.cellsAdd, hb5⟩) ?_
      have hne : its2.length ≠ 0 := by have := congrArg List.length g3; rw [List.length_map] at this; rw [this]; exact hrne
      have hmap5 : (its ++ its2).map (·.1) = ((tokL l.length l 0).take (j + 1)).flatMap (runesT (escM l)) := by
        rw [List.map_append, hmap, g3, List.take_succ_eq_append_getElem hj, List.flatMap_append, hget]
        simp [hrun]
      have hlen5 : its.length + its2.length ≤ l.length := by
        have e1 := congrArg List.length hmap5
        rw [List.length_map, List.length_append] at e1
        have e2 := flat_take_le (runesT (escM l)) (tokL l.length l 0) (j + 1)
        omega
      refine WH.one 10 (by kernel_rfl) rfl ?_
      refine WL.appendSl elIt hrow5 (hR4.drew.upd g5) g1 hne rfl rfl (fun _ _ => rfl) (by intro u hu c hc; simp [encIt] at hc; rcases hc with rfl | rfl | rfl | rfl <;> rfl) (by omega) (by omega) (by decide) rfl ?_
      intro lv6 w6 O6 hrow6 hU6 hR6
      refine WL.nil ?_
      refine QF.after (⟨(ht5.upd hU6 (by decide) (by decide)).cellsAdd, hb5.upd ((hbO4.upd (Upd.of_ext (S := fun _ => False) (fun h => h) O4 ((Ext.refl w4).drew))).upd g5) hU6⟩) ?_
      refine WH.take 11 rfl (by kernel_rfl) (by kernel_rfl) (by kernel_rfl) (⟨(ht5.upd hU6 (by decide) (by decide)).cellsAdd, hb5.upd ((hbO4.upd (Upd.of_ext (S := fun _ => False) (fun h => h) O4 ((Ext.refl w4).drew))).upd g5) hU6⟩) (fun w1 hw1 => RV.assign rfl) rfl ?_
      refine WH.done (by kernel_rfl) ?_
      refine QF.blockNormal ?_
      refine QF.seqNext ?_
      refine WC.region ?_
      refine WL.v (RV.add rfl rfl (Fit.i64 (by omega))) rfl ?_
      refine WL.v (RV.move rfl) rfl ?_
      refine WL.nil ?_
      refine QF.next ((j + 1, O6, w6, lv6, its ++ its2)) (⟨hj, hrow6, hmap5, g4.upd hU6 (by decide), (hU4.drew.trans (Upd.any g5)).trans (Upd.any hU6)⟩) (by dsimp only; omega) ⟨rfl, rfl, rfl, rfl, rfl, rfl, trivial⟩ rfl
    · have hrun : runesT (escM l) (1, f, t, r) = [r] := by simp [runesT]
      have hrne : [r].length ≠ 0 := by simp
      refine WC.draw (fun W => (∀ (j : Nat) (u : Value), (encT (1, f, t, r))[j]? = some u → W.cell? ((⟨tb, 0, none⟩ : Addr).add j) = some u) ∧ Bytes W bv (escM l)) 12 rfl (by kernel_rfl) ?_
      refine WH.take 0 rfl (by kernel_rfl) (by kernel_rfl) (by kernel_rfl) ⟨ht4.drew.cellsAdd, hb4.drew⟩ (fun w1 hw1 => RV.move rfl) rfl ?_
      refine WH.take 1 rfl (by kernel_rfl) (by kernel_rfl) (by kernel_rfl) ⟨ht4.drew.cellsAdd, hb4.drew⟩ (fun w1 hw1 => RV.move rfl) rfl ?_
      refine WH.take 2 rfl (by kernel_rfl) (by kernel_rfl) (by kernel_rfl) ⟨ht4.drew.cellsAdd, hb4.drew⟩ (fun w1 hw1 => RV.loadAgg (us := encT (1, f, t, r)) hw1.1 (Tryz.isAgg56 _) (Tryz.sizeOf56 _) rfl) rfl ?_
      refine WH.take 3 rfl (by kernel_rfl) (by kernel_rfl) (by kernel_rfl) ⟨ht4.drew.cellsAdd, hb4.drew⟩ (fun w1 hw1 => RV.move rfl) rfl ?_
      refine WH.take 4 rfl (by kernel_rfl) (by kernel_rfl) (by kernel_rfl) ⟨ht4.drew.cellsAdd, hb4.drew⟩ (fun w1 hw1 => RV.fieldAddr 1 Tryz.underlying56 rfl rfl (Tryz.sizeOf3 _) (by decide) rfl) rfl ?_
      refine WH.take 5 rfl (by kernel_rfl) (by kernel_rfl) (by kernel_rfl) ⟨ht4.drew.cellsAdd, hb4.drew⟩ (fun w1 hw1 => RV.load (by first | exact hw1.1 1 _ rfl) (Tryz.isAgg3 _) rfl) rfl ?_
      refine WH.take 6 rfl (by kernel_rfl) (by kernel_rfl) (by kernel_rfl) ⟨ht4.drew.cellsAdd, hb4.drew⟩ (fun w1 hw1 => RV.fieldAddr 2 Tryz.underlying56 rfl rfl (Tryz.sizeOf3 _) (by decide) rfl) rfl ?_
      refine WH.take 7 rfl (by kernel_rfl) (by kernel_rfl) (by kernel_rfl) ⟨ht4.drew.cellsAdd, hb4.drew⟩ (fun w1 hw1 => RV.load (by first | exact hw1.1 2 _ rfl) (Tryz.isAgg3 _) rfl) rfl ?_
      refine WH.take 8 rfl (by kernel_rfl) (by kernel_rfl) (by kernel_rfl) ⟨ht4.drew.cellsAdd, hb4.drew⟩ (fun w1 hw1 => RV.slice hw1.2 Tryz.underlying31 (Tryz.sizeOf5 _) rfl rfl rfl f t rfl rfl (by omega) htT) rfl ?_
      refine WH.one 9 (by kernel_rfl) rfl ?_
      refine WL.call Tryz.call23 rfl (takeRef_ret O4 w4.drew eb nb f t r (sliceV bv 1 f t) hx4.drew (by omega) (by omega)) rfl ?_
      rintro v w5 ⟨its2, g1, g2, g3, g4, g5⟩
      have hrow5 := hrow4.drew.upd g5 (by decide) (by decide)
      have ht5 := ht4.drew.upd g5 (by decide) (by decide)
      have hb5 := hb4.drew.upd (hbO4.upd (Upd.of_ext (S := fun _ => False) (fun h => h) O4 ((Ext.refl w4).drew))) g5
      refine WL.nil ?_
      refine QF.after (⟨ht5.cellsAdd, hb5⟩) ?_
      have hne : its2.length ≠ 0 := by have := congrArg List.length g3; rw [List.length_map] at this; rw [this]; exact hrne
      have hmap5 : (its ++ its2).map (·.1) = ((tokL l.length l 0).take (j + 1)).flatMap (runesT (escM l)) := by
        rw [List.map_append, hmap, g3, List.take_succ_eq_append_getElem hj, List.flatMap_append, hget]
        simp [hrun]
      have hlen5 : its.length + its2.length ≤ l.length := by
        have e1 := congrArg List.length hmap5
        rw [List.length_map, List.length_append] at e1
        have e2 := flat_take_le (runesT (escM l)) (tokL l.length l 0) (j + 1)
        omega
      refine WH.one 10 (by kernel_rfl) rfl ?_
      refine WL.appendSl elIt hrow5 (hR4.drew.upd g5) g1 hne rfl rfl (fun _ _ => rfl) (by intro u hu c hc; simp [encIt] at hc; rcases hc with rfl | rfl | rfl | rfl <;> rfl) (by omega) (by omega) (by decide) rfl ?_
      intro lv6 w6 O6 hrow6 hU6 hR6
      refine WL.nil ?_
      refine QF.after (⟨(ht5.upd hU6 (by decide) (by decide)).cellsAdd, hb5.upd ((hbO4.upd (Upd.of_ext (S := fun _ => False) (fun h => h) O4 ((Ext.refl w4).drew))).upd g5) hU6⟩) ?_
      refine WH.take 11 rfl (by kernel_rfl) (by kernel_rfl) (by kernel_rfl) (⟨(ht5.upd hU6 (by decide) (by decide)).cellsAdd, hb5.upd ((hbO4.upd (Upd.of_ext (S := fun _ => False) (fun h => h) O4 ((Ext.refl w4).drew))).upd g5) hU6⟩) (fun w1 hw1 => RV.assign rfl) rfl ?_
      refine WH.done (by kernel_rfl) ?_
      refine QF.blockNormal ?_
      refine QF.seqNext ?_
      refine WC.region ?_
      refine WL.v (RV.add rfl rfl (Fit.i64 (by omega))) rfl ?_
      refine WL.v (RV.move rfl) rfl ?_
      refine WL.nil ?_
      refine QF.next ((j + 1, O6, w6, lv6, its ++ its2)) (⟨hj, hrow6, hmap5, g4.upd hU6 (by decide), (hU4.drew.trans (Upd.any g5)).trans (Upd.any hU6)⟩) (by dsimp only; omega) ⟨rfl, rfl, rfl, rfl, rfl, rfl, trivial⟩ rfl
  · intro hge
    obtain rfl : j = (tokL l.length l 0).length := by have := of_decide_eq_false hge; omega
    rw [List.take_length, hflat] at hmap
    refine WC.exit ?_
    refine QF.thenExit ?_
    refine QF.thenExit ?_
    refine QF.blockHit ?_
    refine QF.seqNext ?_
    refine WC.seq ?_
    refine WC.region ?_
    refine WL.v (RV.move rfl) rfl ?_
    refine WL.v (RV.assign rfl) rfl ?_
    refine WL.nil ?_
    refine QF.seqNext ?_
    refine WC.ret ?_
    refine QF.done1 rfl rfl (⟨its, hrow.sl, hmap, hE3⟩)
theorem putM_le4 (r : Int) : (putM r).length ≤ 4 := by
  unfold putM putN
  (repeat' split) <;> simp [putB, tailB_len]
theorem exText2_ret (its : List It) (iv : Value) (w : World) (h : Sl encIt 7 w iv its) (hn : its.length ≤ 10000000) : Ret Tryz.prog 11 [iv] w fun v w' => v = .string (bs ((its.map (·.1)).flatMap putM)) ∧ Ext w w' := by
  refine Ret.enter Tryz.func11 Tryz.ntmps11 rfl rfl ?_
  refine WC.seq ?_
  refine WC.region ?_
  refine WL.v (RV.assign rfl) rfl ?_
  refine WL.nil ?_
  refine QF.seqNext ?_
  refine WC.seq ?_
  refine WC.region ?_
  refine WL.v (RV.assign rfl) rfl ?_
  refine WL.nil ?_
  refine QF.seqNext ?_
  refine WC.seq ?_
  refine WC.seq ?_
  refine WC.region ?_
  refine WL.v (RV.move rfl) rfl ?_
  refine WL.v (RV.len (by first | exact h) Tryz.underlying29 rfl) rfl ?_
  refine WL.v (RV.move rfl) rfl ?_
  refine WL.nil ?_
  refine QF.seqNext ?_
  refine WC.block ?_
  refine WC.loop (fun x : Nat × (Nat → Nat) × World × Value => [(3, x.2.2.2), (6, iv), (7, .int .i64 its.length), (8, .int .i64 x.1)]) (fun x : Nat × (Nat → Nat) × World × Value => x.2.2.1) (fun x : Nat × (Nat → Nat) × World × Value => x.1 ≤ its.length ∧ RowT encB 5 1 x.2.1 x.2.2.1 2 x.2.2.2 (((its.take x.1).map (·.1)).flatMap putM) ∧ Upd (fun k => k ≠ 0) (fun _ => 0) w x.2.1 x.2.2.1) (fun x : Nat × (Nat → Nat) × World × Value => its.length - x.1) (0, (fun _ => 0), w, .slice none 0 0) (⟨Nat.zero_le _, RowT.nil _ _ _ _ _ _, Upd.refl (by decide) _ _⟩) ⟨rfl, rfl, rfl, rfl, trivial⟩ rfl ?_
  rintro ⟨i, O1, w1, lv⟩ ⟨hi, hrow, hU1⟩
  dsimp only at hi hrow hU1 ⊢
  have h1 := h.ext hU1.ext
  have hR1 := (Rng.start w).upd hU1
  refine WC.seq ?_
  refine WC.region ?_
  refine WL.v (RV.lss rfl rfl) rfl ?_
  refine WL.nil ?_
  refine QF.seqNext ?_
  refine WC.seq ?_
  refine WC.cond rfl ?_ ?_
  · intro hlt
    replace hlt : i < its.length := by have := of_decide_eq_true hlt; omega
    have hlen : ∀ l : List It, ((l.map (·.1)).flatMap putM).length ≤ 4 * l.length := fun l => by
      induction l with
      | nil => simp
      | cons a l ih => have := putM_le4 a.1; simp only [List.map_cons, List.flatMap_cons, List.length_append, List.length_cons]; omega
    have hll := hlen (its.take i)
    rw [List.length_take] at hll
    have hpl := putM_le4 (nth its i).1
    have hpp : (putM (nth its i).1).length ≠ 0 := by
      unfold putM putN
      (repeat' split) <;> simp [putB]
    refine WC.skip ?_
    refine QF.seqNext ?_
    refine WC.seq ?_
    refine WC.block ?_
    refine WC.seq ?_
    refine WC.region ?_
    refine WL.v (RV.indexAddr (by first | exact h1) Tryz.underlying29 (Tryz.sizeOf49 _) rfl rfl _ rfl (by omega)) rfl ?_
    refine WL.v (RV.loadAgg (us := encIt (nth its i)) (fun j u hu => h1.cell hlt hu) (Tryz.isAgg49 _) (Tryz.sizeOf49 _) rfl) rfl ?_
    refine WL.allocO hR1 1 (by omega) (Tryz.zeroValue49 _) rfl ?_
    intro xb w2 O2 hx2 hU2 hR2 hE2
    refine WL.storeAgg (us := (encIt (nth its i)).toArray) hx2 rfl (Tryz.sizeOf49 _) rfl rfl rfl rfl ?_
    have hx3 := hx2.setRow (us := (encIt (nth its i)).toArray)
    have hU3 : Upd (fun k => k = 1) O2 w2 O2 (w2.setRow xb (encIt (nth its i)).toArray) := Upd.setRow (by decide) hx2.tag rfl
    have hU23 := hU2.trans hU3
    have hR3 := hR2.upd hU3
    generalize w2.setRow xb (encIt (nth its i)).toArray = w3 at *
    have c0 : w3.cell? ((⟨xb, 0, none⟩ : Addr).add 0) = some (.int .i32 (nth its i).1) := hx3.cell 0 rfl
    have hrow3 := hrow.upd hU23 (by decide) (by decide)
    refine WL.nil ?_
    refine QF.seqNext ?_
    refine WC.region ?_
    refine WL.v (RV.move rfl) rfl ?_
    refine WL.v (RV.fieldAddr 0 Tryz.underlying49 rfl rfl (Tryz.sizeOf21 _) (by decide) rfl) rfl ?_
    refine WL.v (RV.load (by first | exact c0) (Tryz.isAgg21 _) rfl) rfl ?_
    refine WL.call Tryz.call20 rfl (put_ret (nth its i).1 w3) rfl ?_
    rintro pv w4 ⟨hpv, hE4⟩
    have hX4 : Upd (fun _ => False) O2 w3 O2 w4 := Upd.of_ext (fun h => h) O2 hE4
    refine WL.appendSl elU8 (enc := encB) (hrow3.upd hX4 (by decide) (fun h => h)) (hR3.upd hX4) hpv hpp rfl rfl (fun _ _ => rfl) (by intro u hu c hc; simp at hc; rw [hc]; rfl) (by omega) (by omega) (by decide) rfl ?_
    intro lv5 w5 O5 hrow5 hU5 hR5
    refine WL.v (RV.assign rfl) rfl ?_
    refine WL.nil ?_
    refine QF.blockNormal ?_
    refine QF.seqNext ?_
    refine WC.region ?_
    refine WL.v (RV.add rfl rfl (Fit.i64 (by omega))) rfl ?_
    refine WL.v (RV.move rfl) rfl ?_
    refine WL.nil ?_
    refine QF.next ((i + 1, O5, w5, lv5)) (⟨hlt, by dsimp only; rw [take_nth hlt, List.map_append, List.flatMap_append]; simpa using hrow5, ((hU1.trans (Upd.any hU23)).trans (Upd.ofE O2 hE4)).trans (Upd.any hU5)⟩) (by dsimp only; omega) ⟨rfl, rfl, rfl, rfl, trivial⟩ rfl
  · intro hge
    obtain rfl : i = its.length := by have := of_decide_eq_false hge; omega
    rw [List.take_length] at hrow
    refine WC.exit ?_
    refine QF.thenExit ?_
    refine QF.thenExit ?_
    refine QF.blockHit ?_
    refine QF.seqNext ?_
    refine WC.seq ?_
    refine WC.region ?_
    refine WL.v (RV.move rfl) rfl ?_
    refine WL.v (RV.strOf hrow.sl Tryz.underlying31 Tryz.underlying5 Tryz.underlying9 rfl) rfl ?_
    refine WL.v (RV.assign rfl) rfl ?_
    refine WL.nil ?_
    refine QF.seqNext ?_
    refine WC.ret ?_
    refine QF.done1 rfl rfl (⟨rfl, hU1.ext⟩)
end Go.Proofs.YtakigpnccppheaaGreatDoor
