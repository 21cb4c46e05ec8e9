/- Package token, walked: the iterator over the tokens of a text that was escaped; All. -/
import Derived.Test.YtakigpnccppheaaGreatDoorTokD
namespace Go.Proofs.YtakigpnccppheaaGreatDoor
open Go.VL Go.Proofs
set_option maxRecDepth 10000

def tokV (x : Tok) : Value := .agg (encT x).toArray
theorem no27_esc {l : List UInt8} (h : ∀ b ∈ l, b ≠ 27) : ∀ b ∈ escM l, b ≠ 27 := by
  intro b hb
  obtain ⟨a, ha, hba⟩ := List.mem_flatMap.1 hb
  unfold escB at hba
  split at hba
  · intro e; subst e; revert hba; decide
  · split at hba
    · intro e; subst e; revert hba; decide
    · split at hba
      · intro e; subst e; revert hba; decide
      · rw [List.mem_singleton.1 hba]; exact h a ha
theorem tokL_cons (n : Nat) (c : UInt8) (r : List UInt8) (a : Nat) (h : spec c = true) : tokL (n + 1) (c :: r) a = (1, a, a + (escB c).length, (c.toNat : Int)) :: tokL n r (a + (escB c).length) := by
  simp [tokL, h]
theorem tokL_run (n : Nat) (c : UInt8) (r : List UInt8) (a : Nat) (h : spec c = false) : tokL (n + 1) (c :: r) a = (0, a, a + (runOf (c :: r)).length, 0) :: tokL n (restOf (c :: r)) (a + (runOf (c :: r)).length) := by
  simp [tokL, h]
theorem tokL_nil (n : Nat) (a : Nat) : tokL n [] a = [] := by cases n <;> rfl
theorem drop_head {α : Type} {xs ys : List α} {i : Nat} {x : α} (h : xs.drop i = x :: ys) : ∃ hi : i < xs.length, xs[i] = x ∧ xs.drop (i + 1) = ys := by
  have hlt : i < xs.length := Nat.lt_of_not_le fun e => by rw [List.drop_eq_nil_of_le e] at h; cases h
  rw [List.drop_eq_getElem_cons hlt] at h
  exact ⟨hlt, (List.cons.inj h).1, (List.cons.inj h).2⟩
theorem tokens1_iter (l : List UInt8) (hl : l.length ≤ 1000000) (h27 : ∀ b ∈ l, b ≠ 27) (bv : Value) (blk : Nat) :
    Iter Tryz.prog 52 [.pointer (some ⟨blk, 0, none⟩)] tokV (tokL l.length l 0) (fun W => W.cell? ⟨blk, 0, none⟩ = some bv ∧ Bytes W bv (escM l)) := by
  intro lp J Jx W hRd hJe hY h0
  have hel := escM_len l
  have hT27 := no27_esc h27
  generalize hxs : tokL l.length l 0 = xs at *
  refine Ret.enterM Tryz.func52 Tryz.ntmps52 rfl rfl ?_
  refine WI.seq ?_
  refine WI.region (by first | exact .inl rfl | exact .inr rfl) (fun _ _ h => h) ?_
  refine WL.v (RV.assign rfl) rfl ?_
  refine WL.nil ?_
  refine QF.dn ?_
  refine QI.seqNext ?_
  refine WI.block ?_
  refine WI.loop (fun x : Nat × List UInt8 × Nat × Nat × World × Int => [(0, .func (.yield lp) #[] #[]), (1, .pointer (some ⟨blk, 0, none⟩)), (3, .int .i64 x.2.2.2.2.2)]) (fun x : Nat × List UInt8 × Nat × Nat × World × Int => x.2.2.2.2.1) (fun x : Nat × List UInt8 × Nat × Nat × World × Int => x.2.2.2.2.2 = (x.2.2.1 : Nat) ∧ tokL x.2.2.2.1 x.2.1 x.2.2.1 = xs.drop x.1 ∧ x.1 ≤ xs.length ∧ x.2.1.length ≤ x.2.2.2.1 ∧ (escM l).drop x.2.2.1 = escM x.2.1 ∧ x.2.2.1 ≤ (escM l).length ∧ J x.1 x.2.2.2.2.1) (fun x : Nat × List UInt8 × Nat × Nat × World × Int => x.2.1.length) (0, l, 0, l.length, W, 0) (⟨rfl, by rw [hxs]; rfl, Nat.zero_le _, Nat.le_refl _, rfl, Nat.zero_le _, h0⟩) ⟨rfl, rfl, rfl, trivial⟩ rfl ?_
  rintro ⟨i, r, a, n, w1, aa⟩ ⟨haa, htk, hi, hrn, hdr, hal, hJ⟩
  dsimp only at haa htk hi hrn hdr hal hJ ⊢
  subst haa
  obtain ⟨hb, hs⟩ := hRd _ _ hJ
  have hdl := congrArg List.length hdr
  rw [List.length_drop] at hdl
  refine WI.seq ?_
  refine WI.seq ?_
  refine WI.region (by first | exact .inl rfl | exact .inr rfl) (fun _ _ h => h) ?_
  refine WL.v (RV.move rfl) rfl ?_
  refine WL.v (RV.load (by first | exact hb) (Tryz.isAgg31 _) rfl) rfl ?_
  refine WL.v (RV.len (by first | exact hs) Tryz.underlying31 rfl) rfl ?_
  refine WL.v (RV.lss rfl rfl) rfl ?_
  refine WL.nil ?_
  refine QF.dn ?_
  refine QI.seqNext ?_
  refine WI.cond rfl ?_ ?_
  · intro hlt
    replace hlt : a < (escM l).length := by have := of_decide_eq_true hlt; omega
    obtain ⟨c, r', rfl⟩ : ∃ c r', r = c :: r' := by
      cases r with
      | nil => have : (escM ([] : List UInt8)).length = 0 := rfl
               omega
      | cons c r' => exact ⟨c, r', rfl⟩
    obtain ⟨n', rfl⟩ : ∃ n', n = n' + 1 := ⟨n - 1, by simp at hrn; omega⟩
    refine WI.skip ?_
    refine QI.seqNext ?_
    refine WI.block ?_
    refine WI.seq ?_
    refine WI.region (by first | exact .inl rfl | exact .inr rfl) (fun _ _ h => h) ?_
    refine WL.v (RV.load (by first | exact hb) (Tryz.isAgg31 _) rfl) rfl ?_
    refine WL.v (RV.move rfl) rfl ?_
    cases hsp : spec c with
    | true =>
      rw [escM_cons] at hdr hdl
      rw [List.length_append] at hdl
      rw [tokL_cons _ _ _ _ hsp] at htk
      obtain ⟨hil, hx, htk'⟩ := drop_head htk.symm
      refine WL.call Tryz.call53 rfl (special_ref (escM l) bv a c (escM r') w1 hs hsp hdr) rfl ?_
      rintro v w2 ⟨rfl, hE2⟩
      refine WL.v (RV.move rfl) rfl ?_
      refine WL.v (RV.extract rfl rfl) rfl ?_
      refine WL.v (RV.extract rfl rfl) rfl ?_
      refine WL.v (RV.extract rfl rfl) rfl ?_
      refine WL.allocO (Rng.start w2) 1 (by omega) (Tryz.zeroValue56 _) rfl ?_
      intro tb w3 O3 ht3 hU3 hR3 hE3
      refine WL.storeAgg (us := (encT (1, a, a + (escB c).length, (c.toNat : Int))).toArray) ht3 rfl (Tryz.sizeOf56 _) rfl rfl rfl rfl ?_
      have ht4 := ht3.setRow (us := (encT (1, a, a + (escB c).length, (c.toNat : Int))).toArray)
      have hE4 : Ext w2 (w3.setRow tb (encT (1, a, a + (escB c).length, (c.toNat : Int))).toArray) := (hU3.trans (Upd.setRow (by decide) ht3.tag rfl)).ext
      have htb : w2.heap.size ≤ tb := (hR3.rng tb (by rw [ht3.tag]; decide)).1
      generalize w3.setRow tb (encT (1, a, a + (escB c).length, (c.toNat : Int))).toArray = w4 at *
      have htb4 := heap_lt ht4.blk
      have hy := hY i hil w1 w4 hJ (hE2.trans hE4)
      rw [hx] at hy
      refine WL.v (RV.assign rfl) rfl ?_
      refine WL.v (RV.assign rfl) rfl ?_
      refine WL.nil ?_
      refine QF.dn ?_
      refine QI.seqNext ?_
      refine WI.seq ?_
      refine WI.seq ?_
      refine WI.region (by first | exact .inl rfl | exact .inr rfl) (fun _ _ h => h) ?_
      refine WL.v (RV.move rfl) rfl ?_
      refine WL.v (RV.not rfl) rfl ?_
      refine WL.nil ?_
      refine QF.dn ?_
      refine QI.seqNext ?_
      refine WI.condF rfl (rfl) ?_
      refine WI.skip ?_
      refine QI.seqNext ?_
      refine WI.seq ?_
      refine WI.seq ?_
      refine WI.regionAt 2 (.inl rfl) (fun _ _ h => h) ?_
      refine WL.v (RV.move rfl) rfl ?_
      refine WL.v (RV.loadAgg (us := encT (1, a, a + (escB c).length, (c.toNat : Int))) ht4.cellsAdd (Tryz.isAgg56 _) (Tryz.sizeOf56 _) rfl) rfl ?_
      refine WL.nil ?_
      refine QF.dn (QI.list ?_)
      refine WLI.yield rfl rfl (hy) rfl (by rintro e w' ⟨⟨rfl, _⟩ | ⟨rfl, _⟩, _⟩ <;> exact ⟨_, rfl⟩) ?_
      rintro v w5 ⟨⟨e, hJ5⟩ | ⟨e, hJ5⟩, hkp⟩
      · obtain rfl := Ending.returned.inj e
        refine WLI.wl (.inl rfl) (fun _ _ h => h) ?_
        refine WL.v (RV.not rfl) rfl ?_
        refine WL.nil ?_
        refine QF.dn ?_
        refine QI.seqNext ?_
        refine WI.condF rfl (rfl) ?_
        have hblk5 : w5.heap[tb]? = w4.heap[tb]? := hkp tb (Nat.le_trans hE2.size htb) htb4
        have c2 : w5.cell? ((⟨tb, 0, none⟩ : Addr).add 2) = some (.int .i64 ((a + (escB c).length : Nat) : Int)) := cell_same hblk5 (ht4.cell 2 rfl)
        refine WI.skip ?_
        refine QI.seqNext ?_
        refine WI.seq ?_
        refine WI.region (by first | exact .inl rfl | exact .inr rfl) (fun _ _ h => h) ?_
        refine WL.v (RV.fieldAddr 2 Tryz.underlying56 rfl rfl (Tryz.sizeOf3 _) (by decide) rfl) rfl ?_
        refine WL.v (RV.load (by first | exact c2) (Tryz.isAgg3 _) rfl) rfl ?_
        refine WL.v (RV.assign rfl) rfl ?_
        refine WL.nil ?_
        refine QF.dn ?_
        refine QI.seqNext ?_
        refine WI.seq ?_
        refine WI.seq ?_
        refine WI.region (by first | exact .inl rfl | exact .inr rfl) (fun _ _ h => h) ?_
        refine WL.v (RV.move rfl) rfl ?_
        refine WL.v (RV.not rfl) rfl ?_
        refine WL.v (RV.move rfl) rfl ?_
        refine WL.know (d := 34) rfl (b' := false) (rfl) ?_
        refine WL.on rfl ?_
        refine WL.v (RV.move rfl) rfl ?_
        refine WL.on rfl ?_
        refine WL.v (RV.not rfl) rfl ?_
        refine WL.v (RV.pickF rfl rfl) rfl ?_
        refine WL.nil ?_
        refine QF.dn ?_
        refine QI.seqNext ?_
        refine WI.condT rfl (rfl) ?_
        refine WI.exit ?_
        refine QI.thenExit ?_
        refine QI.blockHit ?_
        refine QI.next ((i + 1, r', a + (escB c).length, n', w5, ((a + (escB c).length : Nat) : Int))) (⟨rfl, htk'.symm, hil, by dsimp only; simp at hrn; omega, by dsimp only; rw [← List.drop_drop, hdr, List.drop_left], by dsimp only; omega, hJ5⟩) (by dsimp only; simp) ⟨rfl, rfl, rfl, trivial⟩ rfl
      · obtain rfl := Ending.returned.inj e
        refine WLI.wl (.inl rfl) (fun _ _ h => h) ?_
        refine WL.v (RV.not rfl) rfl ?_
        refine WL.nil ?_
        refine QF.dn ?_
        refine QI.seqNext ?_
        refine WI.condT rfl (rfl) ?_
        refine WI.ret ?_
        refine QI.thenRet ?_
        refine QI.blockRet ?_
        refine QI.thenRet ?_
        refine QI.blockRet ?_
        exact QI.leave (Leave.done0 rfl (.inr hJ5))
    | false =>
      obtain ⟨hrp1, hrp2⟩ := runOf_pos (l := r') hsp
      have hesc := escM_split (c :: r')
      rw [hesc] at hdr hdl
      rw [List.length_append] at hdl
      rw [tokL_run _ _ _ _ hsp] at htk
      obtain ⟨hil, hx, htk'⟩ := drop_head htk.symm
      have hrl : 0 < (runOf (c :: r')).length := by rw [hrp1]; simp
      have hrr := congrArg List.length (run_rest (c :: r'))
      rw [List.length_append, List.length_cons] at hrr
      have hbyte : ∀ j, j < (runOf (c :: r')).length → nth (escM l) (a + j) ∈ runOf (c :: r') ∧ a + j < (escM l).length := fun j hj => by
        have hj2 : a + j < (escM l).length := by omega
        refine ⟨?_, hj2⟩
        have e1 : (escM l)[a + j]? = (runOf (c :: r'))[j]? := by
          rw [← List.getElem?_drop, hdr, List.getElem?_append_left hj]
        rw [nth_eq hj2]
        rw [List.getElem?_eq_getElem hj2, List.getElem?_eq_getElem hj] at e1
        rw [Option.some.inj e1]; exact List.getElem_mem hj
      have hsafe : ∀ j, j < (runOf (c :: r')).length → nth (escM l) (a + j) ≠ 60 ∧ nth (escM l) (a + j) ≠ 38 ∧ nth (escM l) (a + j) ≠ 27 := fun j hj => by
        obtain ⟨h1, h2⟩ := hbyte j hj
        have hn := runOf_no h1
        simp only [spec, Bool.or_eq_false_iff, beq_eq_false_iff_ne] at hn
        exact ⟨hn.1.2, hn.1.1, hT27 _ (by rw [nth_eq h2]; exact List.getElem_mem h2)⟩
      obtain ⟨n1, n2, n3⟩ := hsafe 0 hrl
      rw [Nat.add_zero] at n1 n2 n3
      refine WL.call Tryz.call53 rfl (special_no (escM l) bv a w1 hs hlt n1 n2 n3) rfl ?_
      rintro v w2 ⟨rfl, hE2⟩
      refine WL.v (RV.move rfl) rfl ?_
      refine WL.v (RV.extract rfl rfl) rfl ?_
      refine WL.v (RV.extract rfl rfl) rfl ?_
      refine WL.v (RV.extract rfl rfl) rfl ?_
      refine WL.allocO (Rng.start w2) 1 (by omega) (Tryz.zeroValue56 _) rfl ?_
      intro tb w3 O3 ht3 hU3 hR3 hE3
      have htb : w2.heap.size ≤ tb := (hR3.rng tb (by rw [ht3.tag]; decide)).1
      refine WL.storeAgg (us := (encT (6, a, a, 0)).toArray) ht3 rfl (Tryz.sizeOf56 _) rfl rfl rfl rfl ?_
      have ht4 := ht3.setRow (us := (encT (6, a, a, 0)).toArray)
      have hU4 : Upd (fun j => j = 1) (fun _ => 0) w2 O3 (w3.setRow tb (encT (6, a, a, 0)).toArray) := hU3.trans (Upd.setRow (by decide) ht3.tag rfl)
      generalize w3.setRow tb (encT (6, a, a, 0)).toArray = w4 at *
      have hE4 := hU4.ext
      have hE14 := hE2.trans hE4
      have hs4 := hs.ext hE14
      have hb4 := hE14.cell hb
      refine WL.v (RV.assign rfl) rfl ?_
      refine WL.v (RV.assign rfl) rfl ?_
      refine WL.nil ?_
      refine QF.dn ?_
      refine QI.seqNext ?_
      refine WI.seq ?_
      refine WI.seq ?_
      refine WI.region (by first | exact .inl rfl | exact .inr rfl) (fun _ _ h => h) ?_
      refine WL.v (RV.move rfl) rfl ?_
      refine WL.v (RV.not rfl) rfl ?_
      refine WL.nil ?_
      refine QF.dn ?_
      refine QI.seqNext ?_
      refine WI.condT rfl (rfl) ?_
      refine WI.region (by first | exact .inl rfl | exact .inr rfl) (fun _ _ h => h) ?_
      refine WL.v (RV.move rfl) rfl ?_
      refine WL.v (RV.load (by first | exact hb4) (Tryz.isAgg31 _) rfl) rfl ?_
      refine WL.v (RV.move rfl) rfl ?_
      have hend : a + (runOf (c :: r')).length = (escM l).length ∨ ∃ c2 r2, spec c2 = true ∧ (escM l).drop (a + (runOf (c :: r')).length) = escB c2 ++ r2 := by
        have hd2 : (escM l).drop (a + (runOf (c :: r')).length) = escM (restOf (c :: r')) := by rw [← List.drop_drop, hdr, List.drop_left]
        rcases restOf_head (c :: r') with e | ⟨c2, r2, e, hc2⟩
        · left
          have : (escM (restOf (c :: r'))).length = 0 := by rw [e]; rfl
          omega
        · right; exact ⟨c2, escM r2, hc2, by rw [hd2, e, escM_cons]⟩
      refine WL.call Tryz.call54 rfl (text_ret (escM l) bv a (a + (runOf (c :: r')).length) w4 hs4 (by omega) (by omega) (fun j h1 h2 => by have := hsafe (j - a) (by omega); rwa [show a + (j - a) = j from by omega] at this) hend) rfl ?_
      rintro v w5 ⟨rfl, hE5⟩
      have ht5 := ht4.upd (Upd.of_ext (S := fun _ => False) (fun h => h) O3 hE5) (by decide) (fun h => h)
      have hU5 : Upd (fun j => j ≠ 0) (fun _ => 0) w2 O3 w5 := (Upd.any hU4).trans (Upd.ofE O3 hE5)
      refine WL.v (RV.buildF pl56 (Tryz.zeroValue56 _) rfl (by first | rfl | (simp only [List.all_cons, List.all_nil]; rfl)) rfl rfl) rfl ?_
      refine WL.storeAgg (us := (encT (0, a, a + (runOf (c :: r')).length, 0)).toArray) ht5 rfl (Tryz.sizeOf56 _) rfl rfl rfl rfl ?_
      have ht6 := ht5.setRow (us := (encT (0, a, a + (runOf (c :: r')).length, 0)).toArray)
      have hE6 : Ext w2 (w5.setRow tb (encT (0, a, a + (runOf (c :: r')).length, 0)).toArray) := (hU5.trans (Upd.row _ ht5 (by decide))).ext
      generalize w5.setRow tb (encT (0, a, a + (runOf (c :: r')).length, 0)).toArray = w6 at *
      have htb6 := heap_lt ht6.blk
      have hy := hY i hil w1 w6 hJ (hE2.trans hE6)
      rw [hx] at hy
      refine WL.nil ?_
      refine QF.dn ?_
      refine QI.seqNext ?_
      refine WI.seq ?_
      refine WI.seq ?_
      refine WI.regionAt 2 (.inl rfl) (fun _ _ h => h) ?_
      refine WL.v (RV.move rfl) rfl ?_
      refine WL.v (RV.loadAgg (us := encT (0, a, a + (runOf (c :: r')).length, 0)) ht6.cellsAdd (Tryz.isAgg56 _) (Tryz.sizeOf56 _) rfl) rfl ?_
      refine WL.nil ?_
      refine QF.dn (QI.list ?_)
      refine WLI.yield rfl rfl (hy) rfl (by rintro e w' ⟨⟨rfl, _⟩ | ⟨rfl, _⟩, _⟩ <;> exact ⟨_, rfl⟩) ?_
      rintro v w7 ⟨⟨e, hJ7⟩ | ⟨e, hJ7⟩, hkp⟩
      · obtain rfl := Ending.returned.inj e
        refine WLI.wl (.inl rfl) (fun _ _ h => h) ?_
        refine WL.v (RV.not rfl) rfl ?_
        refine WL.nil ?_
        refine QF.dn ?_
        refine QI.seqNext ?_
        refine WI.condF rfl (rfl) ?_
        have hblk7 : w7.heap[tb]? = w6.heap[tb]? := hkp tb (Nat.le_trans hE2.size htb) htb6
        have c2 : w7.cell? ((⟨tb, 0, none⟩ : Addr).add 2) = some (.int .i64 ((a + (runOf (c :: r')).length : Nat) : Int)) := cell_same hblk7 (ht6.cell 2 rfl)
        refine WI.skip ?_
        refine QI.seqNext ?_
        refine WI.seq ?_
        refine WI.region (by first | exact .inl rfl | exact .inr rfl) (fun _ _ h => h) ?_
        refine WL.v (RV.fieldAddr 2 Tryz.underlying56 rfl rfl (Tryz.sizeOf3 _) (by decide) rfl) rfl ?_
        refine WL.v (RV.load (by first | exact c2) (Tryz.isAgg3 _) rfl) rfl ?_
        refine WL.v (RV.assign rfl) rfl ?_
        refine WL.nil ?_
        refine QF.dn ?_
        refine QI.seqNext ?_
        refine WI.seq ?_
        refine WI.seq ?_
        refine WI.region (by first | exact .inl rfl | exact .inr rfl) (fun _ _ h => h) ?_
        refine WL.v (RV.move rfl) rfl ?_
        refine WL.v (RV.not rfl) rfl ?_
        refine WL.v (RV.move rfl) rfl ?_
        refine WL.know (d := 34) rfl (b' := true) (rfl) ?_
        refine WL.off rfl rfl rfl ?_
        refine WL.off rfl rfl rfl ?_
        refine WL.v (RV.pickT rfl rfl) rfl ?_
        refine WL.nil ?_
        refine QF.dn ?_
        refine QI.seqNext ?_
        refine WI.condT rfl rfl ?_
        refine WI.exit ?_
        refine QI.thenExit ?_
        refine QI.blockHit ?_
        refine QI.next ((i + 1, restOf (c :: r'), a + (runOf (c :: r')).length, n', w7, ((a + (runOf (c :: r')).length : Nat) : Int))) (⟨rfl, htk'.symm, hil, by dsimp only; simp at hrn; omega, by dsimp only; rw [← List.drop_drop, hdr, List.drop_left], by dsimp only; omega, hJ7⟩) (by dsimp only; simp only [List.length_cons]; omega) ⟨rfl, rfl, rfl, trivial⟩ rfl
      · obtain rfl := Ending.returned.inj e
        refine WLI.wl (.inl rfl) (fun _ _ h => h) ?_
        refine WL.v (RV.not rfl) rfl ?_
        refine WL.nil ?_
        refine QF.dn ?_
        refine QI.seqNext ?_
        refine WI.condT rfl (rfl) ?_
        refine WI.ret ?_
        refine QI.thenRet ?_
        refine QI.blockRet ?_
        refine QI.thenRet ?_
        refine QI.blockRet ?_
        exact QI.leave (Leave.done0 rfl (.inr hJ7))
  · intro hge
    replace hge : ¬ a < (escM l).length := by have := of_decide_eq_false hge; omega
    have hr0 : r = [] := by
      have := escM_pos r
      exact List.eq_nil_of_length_eq_zero (by omega)
    rw [hr0, tokL_nil] at htk
    have hil : i = xs.length := by have := List.drop_eq_nil_iff.1 htk.symm; omega
    subst hil
    refine WI.exit ?_
    refine QI.thenExit ?_
    refine QI.thenExit ?_
    refine QI.blockHit ?_
    exact QI.leave (Leave.done0 rfl (.inl hJ))
end Go.Proofs.YtakigpnccppheaaGreatDoor
