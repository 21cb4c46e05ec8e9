/- Chapter 12 by the document: Pack, walked. -/
import Derived.Test.YtahdlfnjnjngaaaPackM
import Derived.Test.YtahdlfnjnjngaaaPackI
namespace Go.Proofs.Ytahdlfnjnjngaaa
open Go.VL Go.Proofs

theorem pl56 : Places Try.prog 56 #[(0, 1), (1, 1), (2, 1)] := ⟨_, Try.underlying56, fun w => by kernel_rfl⟩
theorem elSlot : Elem Try.prog 52 56 3 24 := ⟨Try.underlying52, by kernel_rfl, by decide⟩
abbrev RowS (O : Nat → Nat) (w : World) (i : Nat) (v : Value) (l : List Ent) : Prop := RowT enc3 56 3 O w i v l

/-- The state of the loop over the rows. -/
structure RS where
  k : Nat
  O : Nat → Nat
  w : World
  uv : Value
  bv : Value
  av : Value
  A : List Ent
  en : Int
  q : PSt
def Mine (j : Nat) : Prop := 1 ≤ j ∧ j ≤ 16
theorem mine0 : ¬ Mine 0 := by unfold Mine; omega
structure RInv (width : Int) (L : List (List Int)) (w : World) (rb pb : Nat) (x : RS) : Prop where
  hk : x.k ≤ L.length
  hq : x.q = (L.take x.k).foldl PSt.lay ⟨width, [], [], [], []⟩
  res : BlkO x.O x.w 1 rb #[.int .i64 0, .slice none 0 0, .slice none 0 0, .slice none 0 0, .slice none 0 0] 34
  blk : BlkO x.O x.w 11 pb #[.int .i64 width, x.uv, x.bv, .slice none 0 0, .slice none 0 0] 34
  u : RowI x.O x.w 12 x.uv x.q.usual
  b : RowI x.O x.w 13 x.bv x.q.base
  a : RowS x.O x.w 16 x.av x.A
  chk : x.q.check = chkOf x.A
  nxt : x.q.next = nxtOf x.A
  ul : x.q.usual.length = x.k
  bl : x.q.base.length = x.k
  cl : x.q.check.length ≤ 64 * x.k
  al : x.A.length ≤ 64 * x.k
  hen : x.en = endOf x.A
  upd : Upd Mine (fun _ => 0) w x.O x.w

theorem okBase_of {row : List Int} {u : Int} {chk : List Int} {b : Nat} (h : ∀ c, c < row.length → nth row c ≠ u → free1 chk b c = true) : okBase chk (colsOf row u) b = true := by
  rw [okBase, List.all_eq_true]
  intro c hc
  have h1 := colsTo_lt hc
  simp only [colsOf, colsTo, List.mem_filter, List.mem_range] at hc
  exact h c h1 (by simpa using hc.2)
theorem okBase_not {row : List Int} {u : Int} {chk : List Int} {b c : Nat} (hc : c < row.length) (hn : nth row c ≠ u) (hf : free1 chk b c = false) : okBase chk (colsOf row u) b = false := by
  rw [okBase, List.all_eq_false]
  refine ⟨c, ?_, by rw [hf]; simp⟩
  simp only [colsOf, colsTo, List.mem_filter, List.mem_range]
  exact ⟨hc, by simpa using hn⟩

theorem refPack_ret (width : Int) (L : List (List Int)) (rv : Value) (w : World) (h : Rows w rv L) (hbad : packBad width L = false) :
    Ret Try.prog 13 [.int .i64 width, rv] w fun v w' => PkV w' v (packM width L) ∧ Ext w w' := by
  obtain ⟨hw1, hw2, hL, hrows, hrw⟩ := packBad_false hbad
  obtain ⟨rvs, hr, hrl, hri⟩ := h
  refine Ret.enter Try.func13 Try.ntmps13 rfl rfl ?_
  refine WC.seq ?_
  refine WC.region ?_
  refine WL.allocO (Rng.start w) 1 (by omega) (Try.zeroValue34 _) rfl ?_
  intro rb w1 O1 hrb hU1 hR1 hE1
  refine WL.nil ?_
  refine QF.seqNext ?_
  refine WC.seq ?_
  refine WC.region ?_
  refine WL.v (RV.move rfl) rfl ?_
  refine WL.v (RV.buildF pl34 (Try.zeroValue34 _) rfl (by first | rfl | (simp only [List.all_cons, List.all_nil]; rfl)) rfl rfl) rfl ?_
  refine WL.allocO hR1 11 (by omega) (Try.zeroValue34 _) rfl ?_
  intro pb w2 O2 hpb hU2 hR2 hE2
  refine WL.storeAgg (us := #[.int .i64 width, .slice none 0 0, .slice none 0 0, .slice none 0 0, .slice none 0 0]) hpb rfl (Try.sizeOf34 _) rfl rfl rfl rfl ?_
  have hU3 : Upd Mine O2 w2 O2 (w2.setRow pb #[.int .i64 width, .slice none 0 0, .slice none 0 0, .slice none 0 0, .slice none 0 0]) := Upd.setRow mine0 hpb.tag (by unfold Mine; omega)
  have hb3 := hpb.setRow (us := #[.int .i64 width, .slice none 0 0, .slice none 0 0, .slice none 0 0, .slice none 0 0])
  have hr3 := (hrb.upd hU2 (by decide) (by decide)).upd (Upd.setRow (S := fun j => j = 11) (us := #[.int .i64 width, .slice none 0 0, .slice none 0 0, .slice none 0 0, .slice none 0 0]) (by decide) hpb.tag rfl) (by decide) (by decide)
  have hU := ((hU1.mono (S' := Mine) (by unfold Mine; omega) mine0).trans (hU2.mono (by unfold Mine; omega) mine0)).trans hU3
  generalize w2.setRow pb #[.int .i64 width, .slice none 0 0, .slice none 0 0, .slice none 0 0, .slice none 0 0] = w3 at *
  refine WL.nil ?_
  refine QF.seqNext ?_
  refine WC.seq ?_
  refine WC.region ?_
  refine WL.v (RV.assign rfl) rfl ?_
  refine WL.nil ?_
  refine QF.seqNext ?_
  refine WC.seq ?_
  refine WC.region ?_
  refine WL.v (RV.assign rfl) rfl ?_
  refine WL.nil ?_
  refine QF.seqNext ?_
  refine WC.seq ?_
  refine WC.seq ?_
  refine WC.region ?_
  refine WL.v (RV.assign rfl) rfl ?_
  refine WL.nil ?_
  refine QF.seqNext ?_
  refine WC.block ?_
  refine WC.loop (fun x : RS => [(0, .int .i64 width), (1, rv), (4, .pointer (some ⟨rb, 0, none⟩)), (5, .pointer (some ⟨pb, 0, none⟩)), (6, x.av), (7, .int .i64 x.en), (8, .int .i64 x.k)]) (fun x : RS => x.w) (fun x : RS => RInv width L w rb pb x) (fun x : RS => L.length - x.k) ⟨0, O2, w3, .slice none 0 0, .slice none 0 0, .slice none 0 0, [], 0, ⟨width, [], [], [], []⟩⟩ (⟨Nat.zero_le _, rfl, hr3, hb3, RowT.nil _ _ _ _ _ _, RowT.nil _ _ _ _ _ _, RowT.nil _ _ _ _ _ _, rfl, rfl, rfl, rfl, Nat.zero_le _, Nat.zero_le _, rfl, hU⟩) ⟨rfl, rfl, rfl, rfl, rfl, rfl, rfl, trivial⟩ rfl ?_
  rintro ⟨k, O4, w4, uv, bv, av, A, en, q⟩ ⟨hk, hq, hres, hblk, hu, hb, ha, hchk, hnxt, hul, hbl, hcl, hal, hen, hU4⟩
  dsimp only at hk hq hres hblk hu hb ha hchk hnxt hul hbl hcl hal hen hU4 ⊢
  have hR4 := (Rng.start w).upd hU4
  have hr4 := hr.ext hU4.ext
  have hcl2 : (chkOf A).length = endOf A := chkOf_len A
  rw [← hchk] at hcl2
  have hqn : q.next.length = q.check.length := by rw [hnxt, hchk, nxtOf_len, chkOf_len]
  refine WC.seq ?_
  refine WC.seq ?_
  refine WC.region ?_
  refine WL.v (RV.move rfl) rfl ?_
  refine WL.v (RV.move rfl) rfl ?_
  refine WL.v (RV.len (by first | exact hr4) Try.underlying22 rfl) rfl ?_
  refine WL.v (RV.lss rfl rfl) rfl ?_
  refine WL.nil ?_
  refine QF.seqNext ?_
  refine WC.cond rfl ?_ ?_
  · intro hlt
    replace hlt : k < L.length := by have := of_decide_eq_true hlt; omega
    have hlen := hrows _ (nth_mem hlt)
    have hlen2 := hrw _ (nth_mem hlt)
    have hri4 := (hri k hlt).ext hU4.ext
    generalize hrow : nth L k = row at *
    refine WC.skip ?_
    refine QF.seqNext ?_
    refine WC.seq ?_
    refine WC.block ?_
    refine WC.seq ?_
    refine WC.region ?_
    refine WL.v (RV.move rfl) rfl ?_
    refine WL.v (RV.move rfl) rfl ?_
    refine WL.v (RV.indexAddr (by first | exact hr4) Try.underlying22 (Try.sizeOf25 _) rfl rfl _ rfl (by omega)) rfl ?_
    refine WL.v (RV.load (by first | exact hr4.ld (by omega)) (Try.isAgg25 _) rfl) rfl ?_
    refine WL.call Try.call27 rfl (refUsual_ret row (nth rvs k) w4 hri4) rfl ?_
    rintro v w5 ⟨rfl, hE5⟩
    have hu5 : Upd (fun _ => False) O4 w4 O4 w5 := Upd.of_ext (fun h => h) O4 hE5
    have hR5 := hR4.ext hE5
    have hr5 := hr4.ext hE5
    have hri5 := hri4.ext hE5
    have ha5 := ha.upd hu5 (by omega) (fun h => h)
    have has5 := ha5.sl
    generalize hus : usualM row = u
    refine WL.v (RV.assign rfl) rfl ?_
    refine WL.nil ?_
    refine QF.seqNext ?_
    refine WC.seq ?_
    refine WC.region ?_
    refine WL.v (RV.assign rfl) rfl ?_
    refine WL.nil ?_
    refine QF.seqNext ?_
    refine WC.seq ?_
    refine WC.seq ?_
    refine WC.region ?_
    refine WL.v (RV.assign rfl) rfl ?_
    refine WL.nil ?_
    refine QF.seqNext ?_
    refine WC.block ?_
    refine WC.loop (fun y : Nat × Nat => [(0, .int .i64 width), (1, rv), (4, .pointer (some ⟨rb, 0, none⟩)), (5, .pointer (some ⟨pb, 0, none⟩)), (6, av), (7, .int .i64 en), (8, .int .i64 k), (9, .int .i64 u), (10, .int .i64 y.1), (11, .int .i64 y.2)]) (fun y : Nat × Nat => w5) (fun y : Nat × Nat => y.1 ≤ q.check.length ∧ (∀ j, j < y.1 → okBase q.check (colsOf row u) j = false) ∧ y.2 ≤ row.length ∧ (∀ c, c < y.2 → nth row c ≠ u → free1 q.check y.1 c = true)) (fun y : Nat × Nat => (q.check.length - y.1) * (row.length + 1) + (row.length - y.2)) (0, 0) (⟨Nat.zero_le _, fun j hj => absurd hj (Nat.not_lt_zero j), Nat.zero_le _, fun j hj => absurd hj (Nat.not_lt_zero j)⟩) ⟨rfl, rfl, rfl, rfl, rfl, rfl, rfl, rfl, rfl, rfl, trivial⟩ rfl ?_
    rintro ⟨b, c⟩ ⟨hb1, hno, hc1, hfree⟩
    dsimp only at hb1 hno hc1 hfree ⊢
    refine WC.seq ?_
    refine WC.seq ?_
    refine WC.region ?_
    refine WL.v (RV.move rfl) rfl ?_
    refine WL.v (RV.move rfl) rfl ?_
    refine WL.v (RV.lss rfl rfl) rfl ?_
    refine WL.nil ?_
    refine QF.seqNext ?_
    refine WC.cond rfl ?_ ?_
    · intro hlc
      replace hlc : c < row.length := by have := of_decide_eq_true hlc; omega
      refine WC.skip ?_
      refine QF.seqNext ?_
      refine WC.seq ?_
      refine WC.block ?_
      refine WC.seq ?_
      refine WC.region ?_
      refine WL.v (RV.move rfl) rfl ?_
      refine WL.v (RV.move rfl) rfl ?_
      refine WL.v (RV.indexAddr (by first | exact hr5 | exact hri5) Try.underlying22 (Try.sizeOf25 _) rfl rfl _ rfl (by omega)) rfl ?_
      refine WL.v (RV.load (by first | exact hr5.ld (by omega) | exact hri5.ld (by omega)) (Try.isAgg25 _) rfl) rfl ?_
      refine WL.v (RV.move rfl) rfl ?_
      refine WL.v (RV.indexAddr (by first | exact hr5 | exact hri5) Try.underlying25 (Try.sizeOf3 _) rfl rfl _ rfl (by omega)) rfl ?_
      refine WL.v (RV.load (by first | exact hr5.ld (by omega) | exact hri5.ld (by omega)) (Try.isAgg3 _) rfl) rfl ?_
      refine WL.v (RV.move rfl) rfl ?_
      refine WL.v (RV.neq rfl rfl) rfl ?_
      refine WL.v (RV.move rfl) rfl ?_
      refine WL.andBS (fun w1 => _ = w1) (A.any fun x => x.1 == b + c) 5 (rfl) rfl rfl rfl rfl rfl ?_ ?_
      · skip
        intro h1
        refine WL.on rfl ?_
        refine WL.v (RV.move rfl) rfl ?_
        refine WL.on rfl ?_
        refine WL.v (RV.move rfl) rfl ?_
        refine WL.on rfl ?_
        refine WL.v (RV.move rfl) rfl ?_
        refine WL.on rfl ?_
        refine WL.v (RV.add rfl rfl (Fit.i64 (by omega))) rfl ?_
        refine WL.on rfl ?_
        refine WL.call Try.call28 rfl (taken_ret A av (b + c) w5 has5) rfl ?_
        rintro v _ ⟨rfl, rfl⟩
        refine WL.nil ?_
        refine QF.andEnd (tA := 42) 6 (rfl) rfl rfl rfl (fun v hv => (Option.some.inj hv).symm.trans (congrArg Value.bool h1)) rfl
      rintro _ rfl
      refine WL.nil ?_
      refine QF.seqNext ?_
      refine WC.cond rfl ?_ ?_
      · intro hg
        replace hg : nth row c ≠ u ∧ (A.any fun x => x.1 == b + c) = true := by simpa using hg
        have hf : free1 q.check b c = false := by rw [hchk, free_taken, hg.2]; rfl
        have hbad2 := okBase_not (u := u) hlc hg.1 hf
        have hltb : b < q.check.length := by
          refine Nat.lt_of_le_of_ne hb1 fun e => ?_
          rw [e, okBase_end] at hbad2; cases hbad2
        refine WC.seq ?_
        refine WC.region ?_
        refine WL.v (RV.move rfl) rfl ?_
        refine WL.v (RV.add rfl rfl (Fit.i64 (by omega))) rfl ?_
        refine WL.v (RV.assign rfl) rfl ?_
        refine WL.nil ?_
        refine QF.seqNext ?_
        refine WC.region ?_
        refine WL.v (RV.assign rfl) rfl ?_
        refine WL.nil ?_
        refine QF.blockNormal ?_
        refine QF.seqNext ?_
        refine WC.region ?_
        refine WL.v (RV.move rfl) rfl ?_
        refine WL.v (RV.add rfl rfl (Fit.i64 (by omega))) rfl ?_
        refine WL.v (RV.assign rfl) rfl ?_
        refine WL.nil ?_
        refine QF.next ((b + 1, 0)) (⟨hltb, fun j hj => (Nat.lt_succ_iff_lt_or_eq.1 hj).elim (hno j) (fun e => by rw [e]; exact hbad2), Nat.zero_le _, fun j hj => absurd hj (Nat.not_lt_zero j)⟩) (by dsimp only; obtain ⟨d, hd⟩ : ∃ d, q.check.length - b = d + 1 := ⟨q.check.length - b - 1, by omega⟩; rw [hd, show q.check.length - (b + 1) = d from by omega, Nat.succ_mul]; omega) ⟨rfl, rfl, rfl, rfl, rfl, rfl, rfl, rfl, rfl, rfl, trivial⟩ rfl
      · intro hg
        replace hg : nth row c ≠ u → free1 q.check b c = true := fun hne => by
          have h2 : (A.any fun x => x.1 == b + c) = false := by
            cases ht : (A.any fun x => x.1 == b + c) with
            | false => rfl
            | true => rw [ht] at hg; simp [hne] at hg
          rw [hchk, free_taken, h2]; rfl
        refine WC.skip ?_
        refine QF.blockNormal ?_
        refine QF.seqNext ?_
        refine WC.region ?_
        refine WL.v (RV.move rfl) rfl ?_
        refine WL.v (RV.add rfl rfl (Fit.i64 (by omega))) rfl ?_
        refine WL.v (RV.assign rfl) rfl ?_
        refine WL.nil ?_
        refine QF.next ((b, c + 1)) (⟨hb1, hno, hlc, fun j hj hne => (Nat.lt_succ_iff_lt_or_eq.1 hj).elim (fun h => hfree j h hne) (fun e => by rw [e] at hne ⊢; exact hg hne)⟩) (by dsimp only; omega) ⟨rfl, rfl, rfl, rfl, rfl, rfl, rfl, rfl, rfl, rfl, trivial⟩ rfl
    · intro hgc
      obtain rfl : c = row.length := by have := of_decide_eq_false hgc; omega
      have hbase := baseOf_eq (okBase_of hfree) hno
      have hres5 := hres.upd hu5 (by omega) (fun h => h)
      have hblk5 := hblk.upd hu5 (by omega) (fun h => h)
      have hrU5 := hu.upd hu5 (by omega) (fun h => h)
      have hrB5 := hb.upd hu5 (by omega) (fun h => h)
      have hU5 := hU4.trans (Upd.of_ext mine0 O4 hE5)
      refine WC.exit ?_
      refine QF.thenExit ?_
      refine QF.thenExit ?_
      refine QF.blockHit ?_
      refine QF.seqNext ?_
      refine WC.seq ?_
      refine WC.seq ?_
      refine WC.region ?_
      refine WL.v (RV.assign rfl) rfl ?_
      refine WL.nil ?_
      refine QF.seqNext ?_
      refine WC.block ?_
      refine WC.loop (fun z : Nat × (Nat → Nat) × World × Value × Int => [(0, .int .i64 width), (1, rv), (4, .pointer (some ⟨rb, 0, none⟩)), (5, .pointer (some ⟨pb, 0, none⟩)), (6, z.2.2.2.1), (7, .int .i64 z.2.2.2.2), (8, .int .i64 k), (9, .int .i64 u), (10, .int .i64 b), (12, .int .i64 z.1)]) (fun z : Nat × (Nat → Nat) × World × Value × Int => z.2.2.1) (fun z : Nat × (Nat → Nat) × World × Value × Int => z.1 ≤ row.length ∧ RowS z.2.1 z.2.2.1 16 z.2.2.2.1 (A ++ rowEnts row u b k z.1) ∧ z.2.2.2.2 = endOf (A ++ rowEnts row u b k z.1) ∧ Upd (fun j => j = 16) O4 w5 z.2.1 z.2.2.1) (fun z : Nat × (Nat → Nat) × World × Value × Int => row.length - z.1) (0, O4, w5, av, en) (⟨Nat.zero_le _, by simpa [rowEnts, colsTo] using ha5, by simpa [rowEnts, colsTo] using hen, Upd.refl (by omega) _ _⟩) ⟨rfl, rfl, rfl, rfl, rfl, rfl, rfl, rfl, rfl, rfl, trivial⟩ rfl ?_
      rintro ⟨c, O6, w6, av6, en6⟩ ⟨hc, ha6, hen6, hU6⟩
      dsimp only at hc ha6 hen6 hU6 ⊢
      have hR6 := hR5.upd hU6
      have hE6 := (hU5.trans (hU6.mono (by unfold Mine; omega) mine0)).ext
      have hr6 := hr.ext hE6
      have hri6 := (hri k hlt).ext hE6
      rw [hrow] at hri6
      have hae := rowEnts_len row u b k c
      have hal6 : (A ++ rowEnts row u b k c).length ≤ 64 * k + c := by simp; omega
      refine WC.seq ?_
      refine WC.seq ?_
      refine WC.region ?_
      refine WL.v (RV.move rfl) rfl ?_
      refine WL.v (RV.move rfl) rfl ?_
      refine WL.v (RV.lss rfl rfl) rfl ?_
      refine WL.nil ?_
      refine QF.seqNext ?_
      refine WC.cond rfl ?_ ?_
      · intro hlc
        replace hlc : c < row.length := by have := of_decide_eq_true hlc; omega
        have hsucc := rowEnts_succ row u b k c
        refine WC.skip ?_
        refine QF.seqNext ?_
        refine WC.seq ?_
        refine WC.block ?_
        refine WC.seq ?_
        refine WC.region ?_
        refine WL.v (RV.move rfl) rfl ?_
        refine WL.v (RV.move rfl) rfl ?_
        refine WL.v (RV.indexAddr (by first | exact hr6 | exact hri6) Try.underlying22 (Try.sizeOf25 _) rfl rfl _ rfl (by omega)) rfl ?_
        refine WL.v (RV.load (by first | exact hr6.ld (by omega) | exact hri6.ld (by omega)) (Try.isAgg25 _) rfl) rfl ?_
        refine WL.v (RV.move rfl) rfl ?_
        refine WL.v (RV.indexAddr (by first | exact hr6 | exact hri6) Try.underlying25 (Try.sizeOf3 _) rfl rfl _ rfl (by omega)) rfl ?_
        refine WL.v (RV.load (by first | exact hr6.ld (by omega) | exact hri6.ld (by omega)) (Try.isAgg3 _) rfl) rfl ?_
        refine WL.v (RV.move rfl) rfl ?_
        refine WL.v (RV.neq rfl rfl) rfl ?_
        refine WL.nil ?_
        refine QF.seqNext ?_
        refine WC.cond rfl ?_ ?_
        · intro hne
          replace hne : nth row c ≠ u := by simpa using hne
          rw [if_neg hne] at hsucc
          refine WC.seq ?_
          refine WC.region ?_
          refine WL.v (RV.move rfl) rfl ?_
          refine WL.v (RV.move rfl) rfl ?_
          refine WL.v (RV.move rfl) rfl ?_
          refine WL.v (RV.add rfl rfl (Fit.i64 (by omega))) rfl ?_
          refine WL.v (RV.move rfl) rfl ?_
          refine WL.v (RV.move rfl) rfl ?_
          refine WL.v (RV.move rfl) rfl ?_
          refine WL.v (RV.indexAddr (by first | exact hr6 | exact hri6) Try.underlying22 (Try.sizeOf25 _) rfl rfl _ rfl (by omega)) rfl ?_
          refine WL.v (RV.load (by first | exact hr6.ld (by omega) | exact hri6.ld (by omega)) (Try.isAgg25 _) rfl) rfl ?_
          refine WL.v (RV.move rfl) rfl ?_
          refine WL.v (RV.indexAddr (by first | exact hr6 | exact hri6) Try.underlying25 (Try.sizeOf3 _) rfl rfl _ rfl (by omega)) rfl ?_
          refine WL.v (RV.load (by first | exact hr6.ld (by omega) | exact hri6.ld (by omega)) (Try.isAgg3 _) rfl) rfl ?_
          refine WL.v (RV.buildF pl56 (Try.zeroValue56 _) rfl (by first | rfl | (simp only [List.all_cons, List.all_nil]; rfl)) rfl rfl) rfl ?_
          refine WL.push elSlot ha6 hR6 (((b + c, k, nth row c) : Ent)) (fun _ => rfl) rfl rfl rfl (by simp [Value.oneCell', enc3]) (by omega) (by omega) (by omega) (by decide) rfl rfl ?_
          intro av7 w7 O7 ha7 hU7 hR7
          rw [List.append_assoc, ← hsucc] at ha7
          refine WL.v (RV.assign rfl) rfl ?_
          refine WL.nil ?_
          refine QF.seqNext ?_
          refine WC.region ?_
          refine WL.v (RV.move rfl) rfl ?_
          refine WL.v (RV.move rfl) rfl ?_
          refine WL.v (RV.move rfl) rfl ?_
          refine WL.v (RV.add rfl rfl (Fit.i64 (by omega))) rfl ?_
          refine WL.v (RV.add rfl rfl (Fit.i64 (by omega))) rfl ?_
          refine WL.v (RV.max2 rfl rfl) rfl ?_
          refine WL.v (RV.assign rfl) rfl ?_
          refine WL.nil ?_
          refine QF.blockNormal ?_
          refine QF.seqNext ?_
          refine WC.region ?_
          refine WL.v (RV.move rfl) rfl ?_
          refine WL.v (RV.add rfl rfl (Fit.i64 (by omega))) rfl ?_
          refine WL.v (RV.assign rfl) rfl ?_
          refine WL.nil ?_
          refine QF.next ((c + 1, O7, w7, av7, max en6 (b + c + 1))) (⟨hlc, ha7, by dsimp only; rw [hsucc, ← List.append_assoc, endOf_snoc, hen6]; simp only; omega, hU6.trans hU7⟩) (by dsimp only; omega) ⟨rfl, rfl, rfl, rfl, rfl, rfl, rfl, rfl, rfl, rfl, trivial⟩ rfl
        · intro heq
          replace heq : nth row c = u := by simpa using heq
          rw [if_pos heq] at hsucc
          refine WC.skip ?_
          refine QF.blockNormal ?_
          refine QF.seqNext ?_
          refine WC.region ?_
          refine WL.v (RV.move rfl) rfl ?_
          refine WL.v (RV.add rfl rfl (Fit.i64 (by omega))) rfl ?_
          refine WL.v (RV.assign rfl) rfl ?_
          refine WL.nil ?_
          refine QF.next ((c + 1, O6, w6, av6, en6)) (⟨hlc, by dsimp only; rw [hsucc]; exact ha6, by dsimp only; rw [hsucc]; exact hen6, hU6⟩) (by dsimp only; omega) ⟨rfl, rfl, rfl, rfl, rfl, rfl, rfl, rfl, rfl, rfl, trivial⟩ rfl
      · intro hgc2
        obtain rfl : c = row.length := by have := of_decide_eq_false hgc2; omega
        have hres6 := hres5.upd hU6 (by omega) (by omega)
        have hblk6 := hblk5.upd hU6 (by omega) (by omega)
        have hrU6 := hrU5.upd hU6 (by omega) (by omega)
        have hrB6 := hrB5.upd hU6 (by omega) (by omega)
        refine WC.exit ?_
        refine QF.thenExit ?_
        refine QF.thenExit ?_
        refine QF.blockHit ?_
        refine QF.seqNext ?_
        refine WC.seq ?_
        refine WC.region ?_
        refine WL.v (RV.fieldAddr 1 Try.underlying34 rfl rfl (Try.sizeOf25 _) (by decide) rfl) rfl ?_
        refine WL.v (RV.load (by first | exact hblk6.cell 1 rfl) (Try.isAgg25 _) rfl) rfl ?_
        refine WL.v (RV.move rfl) rfl ?_
        refine WL.push elInt hrU6 hR6 (u) (fun _ => rfl) rfl rfl rfl (by simp [Value.oneCell']) (by omega) (by omega) (by omega) (by decide) rfl rfl ?_
        intro uv7 w7 O7 hu7 hU7 hR7
        have hblk7 := hblk6.upd hU7 (by omega) (by omega)
        have hs7 : Upd (fun j => j = 11) O7 w7 O7 (w7.setCell ⟨pb, 1, none⟩ uv7) := Upd.set (by omega) hblk7.tag rfl
        refine WL.v (RV.fieldAddr 1 Try.underlying34 rfl rfl (Try.sizeOf25 _) (by decide) rfl) rfl ?_
        refine WL.storeBlk (j := 1) hblk7 rfl (Try.sizeOf25 _) hu7.one rfl rfl rfl ?_
        have hblk8 := hblk7.set 1 uv7
        have hu8 := hu7.upd hs7 (by omega) (by omega)
        have hrB8 := (hrB6.upd hU7 (by omega) (by omega)).upd hs7 (by omega) (by omega)
        have hres8 := (hres6.upd hU7 (by omega) (by omega)).upd hs7 (by omega) (by omega)
        have ha8 := (ha6.upd hU7 (by omega) (by omega)).upd hs7 (by omega) (by omega)
        have hR8 := hR7.upd hs7
        have hU8 := ((hU5.trans (hU6.mono (by unfold Mine; omega) mine0)).trans (hU7.mono (by unfold Mine; omega) mine0)).trans (hs7.mono (by unfold Mine; omega) mine0)
        generalize w7.setCell ⟨pb, 1, none⟩ uv7 = w8 at *
        refine WL.nil ?_
        refine QF.seqNext ?_
        refine WC.region ?_
        refine WL.v (RV.fieldAddr 2 Try.underlying34 rfl rfl (Try.sizeOf25 _) (by decide) rfl) rfl ?_
        refine WL.v (RV.load (by first | exact hblk8.cell 2 rfl) (Try.isAgg25 _) rfl) rfl ?_
        refine WL.v (RV.move rfl) rfl ?_
        refine WL.push elInt hrB8 hR8 ((b : Int)) (fun _ => rfl) rfl rfl rfl (by simp [Value.oneCell']) (by omega) (by omega) (by omega) (by decide) rfl rfl ?_
        intro bv9 w9 O9 hb9 hU9 hR9
        have hblk9 := hblk8.upd hU9 (by omega) (by omega)
        have hs9 : Upd (fun j => j = 11) O9 w9 O9 (w9.setCell ⟨pb, 2, none⟩ bv9) := Upd.set (by omega) hblk9.tag rfl
        refine WL.v (RV.fieldAddr 2 Try.underlying34 rfl rfl (Try.sizeOf25 _) (by decide) rfl) rfl ?_
        refine WL.storeBlk (j := 2) hblk9 rfl (Try.sizeOf25 _) hb9.one rfl rfl rfl ?_
        have hblk10 := hblk9.set 2 bv9
        refine WL.nil ?_
        refine QF.blockNormal ?_
        refine QF.seqNext ?_
        refine WC.region ?_
        refine WL.v (RV.move rfl) rfl ?_
        refine WL.v (RV.add rfl rfl (Fit.i64 (by omega))) rfl ?_
        refine WL.v (RV.assign rfl) rfl ?_
        refine WL.nil ?_
        obtain ⟨e1, e2⟩ := lay_ents q A row hchk hnxt
        obtain ⟨l1, l2, l3, l4, l5⟩ := PSt.lay_spec q row (by omega) hqn
        obtain ⟨m1, m2, m3⟩ := lay_base q row
        rw [hus] at e1 e2 m1 m2
        rw [hbase, hbl] at e1 e2
        rw [hbase] at m1
        refine QF.next (⟨k + 1, O9, w9.setCell ⟨pb, 2, none⟩ bv9, uv7, bv9, av6, A ++ rowEnts row u b k row.length, en6, q.lay row⟩) (⟨hlt, ?_, (hres8.upd hU9 (by omega) (by omega)).upd hs9 (by omega) (by omega), hblk10, ?_, ?_, (ha8.upd hU9 (by omega) (by omega)).upd hs9 (by omega) (by omega), e1, e2, by dsimp only; rw [m2]; simp [hul], by dsimp only; omega, by dsimp only; omega, by dsimp only; omega, hen6, (hU8.trans (hU9.mono (by unfold Mine; omega) mine0)).trans (hs9.mono (by unfold Mine; omega) mine0)⟩) (by dsimp only; omega) ⟨rfl, rfl, rfl, rfl, rfl, rfl, rfl, trivial⟩ rfl
        · dsimp only
          rw [take_nth hlt, List.foldl_append, ← hq, hrow]; rfl
        · dsimp only
          rw [m2]; exact (hu8.upd hU9 (by omega) (by omega)).upd hs9 (by omega) (by omega)
        · dsimp only
          rw [m1]; exact hb9.upd hs9 (by omega) (by omega)
  · intro hge
    obtain rfl : k = L.length := by have := of_decide_eq_false hge; omega
    rw [List.take_length] at hq
    have hqw : packM width L = q := hq.symm
    refine WC.exit ?_
    refine QF.thenExit ?_
    refine QF.thenExit ?_
    refine QF.blockHit ?_
    refine QF.seqNext ?_
    refine WC.seq ?_
    refine WC.seq ?_
    refine WC.region ?_
    refine WL.v (RV.assign rfl) rfl ?_
    refine WL.nil ?_
    refine QF.seqNext ?_
    refine WC.block ?_
    refine WC.loop (fun y : Nat × (Nat → Nat) × World × Value × Value => [(0, .int .i64 width), (1, rv), (4, .pointer (some ⟨rb, 0, none⟩)), (5, .pointer (some ⟨pb, 0, none⟩)), (6, av), (7, .int .i64 en), (13, .int .i64 y.1)]) (fun y : Nat × (Nat → Nat) × World × Value × Value => y.2.2.1) (fun y : Nat × (Nat → Nat) × World × Value × Value => y.1 ≤ endOf A ∧ BlkO y.2.1 y.2.2.1 11 pb #[.int .i64 width, uv, bv, y.2.2.2.1, y.2.2.2.2] 34 ∧ RowI y.2.1 y.2.2.1 14 y.2.2.2.1 (List.replicate y.1 (-1)) ∧ RowI y.2.1 y.2.2.1 15 y.2.2.2.2 (List.replicate y.1 0) ∧ Upd (fun j => j = 11 ∨ j = 14 ∨ j = 15) O4 w4 y.2.1 y.2.2.1) (fun y : Nat × (Nat → Nat) × World × Value × Value => endOf A - y.1) (0, O4, w4, .slice none 0 0, .slice none 0 0) (⟨Nat.zero_le _, hblk, RowT.nil _ _ _ _ _ _, RowT.nil _ _ _ _ _ _, Upd.refl (by omega) _ _⟩) ⟨rfl, rfl, rfl, rfl, rfl, rfl, rfl, trivial⟩ rfl ?_
    rintro ⟨i, O5, w5, kv, nv⟩ ⟨hi, hblk5, hk5, hn5, hU5⟩
    dsimp only at hi hblk5 hk5 hn5 hU5 ⊢
    have hR5 := hR4.upd hU5
    have hl1 : (List.replicate i (-1 : Int)).length = i := by simp
    have hl2 : (List.replicate i (0 : Int)).length = i := by simp
    refine WC.seq ?_
    refine WC.seq ?_
    refine WC.region ?_
    refine WL.v (RV.move rfl) rfl ?_
    refine WL.v (RV.move rfl) rfl ?_
    refine WL.v (RV.lss rfl rfl) rfl ?_
    refine WL.nil ?_
    refine QF.seqNext ?_
    refine WC.cond rfl ?_ ?_
    · intro hlt
      replace hlt : i < endOf A := by have := of_decide_eq_true hlt; omega
      refine WC.skip ?_
      refine QF.seqNext ?_
      refine WC.seq ?_
      refine WC.block ?_
      refine WC.seq ?_
      refine WC.region ?_
      refine WL.v (RV.fieldAddr 3 Try.underlying34 rfl rfl (Try.sizeOf25 _) (by decide) rfl) rfl ?_
      refine WL.v (RV.load (by first | exact hblk5.cell 3 rfl) (Try.isAgg25 _) rfl) rfl ?_
      refine WL.push elInt hk5 hR5 ((-1 : Int)) (fun _ => rfl) rfl rfl rfl (by simp [Value.oneCell']) (by omega) (by omega) (by omega) (by decide) rfl rfl ?_
      intro kv6 w6 O6 hk6 hU6 hR6
      have hblk6 := hblk5.upd hU6 (by omega) (by omega)
      have hs6 : Upd (fun j => j = 11) O6 w6 O6 (w6.setCell ⟨pb, 3, none⟩ kv6) := Upd.set (by omega) hblk6.tag rfl
      refine WL.v (RV.fieldAddr 3 Try.underlying34 rfl rfl (Try.sizeOf25 _) (by decide) rfl) rfl ?_
      refine WL.storeBlk (j := 3) hblk6 rfl (Try.sizeOf25 _) hk6.one rfl rfl rfl ?_
      have hblk7 := hblk6.set 3 kv6
      have hk7 := hk6.upd hs6 (by omega) (by omega)
      have hn7 := (hn5.upd hU6 (by omega) (by omega)).upd hs6 (by omega) (by omega)
      have hR7 := hR6.upd hs6
      have hU7 := (hU5.trans (hU6.mono (by omega) (by omega))).trans (hs6.mono (by omega) (by omega))
      generalize w6.setCell ⟨pb, 3, none⟩ kv6 = w7 at *
      refine WL.nil ?_
      refine QF.seqNext ?_
      refine WC.region ?_
      refine WL.v (RV.fieldAddr 4 Try.underlying34 rfl rfl (Try.sizeOf25 _) (by decide) rfl) rfl ?_
      refine WL.v (RV.load (by first | exact hblk7.cell 4 rfl) (Try.isAgg25 _) rfl) rfl ?_
      refine WL.push elInt hn7 hR7 ((0 : Int)) (fun _ => rfl) rfl rfl rfl (by simp [Value.oneCell']) (by omega) (by omega) (by omega) (by decide) rfl rfl ?_
      intro nv8 w8 O8 hn8 hU8 hR8
      have hblk8 := hblk7.upd hU8 (by omega) (by omega)
      have hs8 : Upd (fun j => j = 11) O8 w8 O8 (w8.setCell ⟨pb, 4, none⟩ nv8) := Upd.set (by omega) hblk8.tag rfl
      refine WL.v (RV.fieldAddr 4 Try.underlying34 rfl rfl (Try.sizeOf25 _) (by decide) rfl) rfl ?_
      refine WL.storeBlk (j := 4) hblk8 rfl (Try.sizeOf25 _) hn8.one rfl rfl rfl ?_
      have hblk9 := hblk8.set 4 nv8
      have hk9 := (hk7.upd hU8 (by omega) (by omega)).upd hs8 (by omega) (by omega)
      have hn9 := hn8.upd hs8 (by omega) (by omega)
      rw [← List.replicate_succ'] at hk9 hn9
      refine WL.nil ?_
      refine QF.blockNormal ?_
      refine QF.seqNext ?_
      refine WC.region ?_
      refine WL.v (RV.move rfl) rfl ?_
      refine WL.v (RV.add rfl rfl (Fit.i64 (by omega))) rfl ?_
      refine WL.v (RV.assign rfl) rfl ?_
      refine WL.nil ?_
      refine QF.next ((i + 1, O8, w8.setCell ⟨pb, 4, none⟩ nv8, kv6, nv8)) (⟨hlt, hblk9, hk9, hn9, (hU7.trans (hU8.mono (by omega) (by omega))).trans (hs8.mono (by omega) (by omega))⟩) (by dsimp only; omega) ⟨rfl, rfl, rfl, rfl, rfl, rfl, rfl, trivial⟩ rfl
    · intro hge2
      obtain rfl : i = endOf A := by have := of_decide_eq_false hge2; omega
      have ha5 := ha.upd hU5 (by omega) (by omega)
      have has5 := ha5.sl
      refine WC.exit ?_
      refine QF.thenExit ?_
      refine QF.thenExit ?_
      refine QF.blockHit ?_
      refine QF.seqNext ?_
      refine WC.seq ?_
      refine WC.seq ?_
      refine WC.region ?_
      refine WL.v (RV.assign rfl) rfl ?_
      refine WL.nil ?_
      refine QF.seqNext ?_
      refine WC.block ?_
      refine WC.loop (fun y : Nat × World => [(0, .int .i64 width), (1, rv), (4, .pointer (some ⟨rb, 0, none⟩)), (5, .pointer (some ⟨pb, 0, none⟩)), (6, av), (14, .int .i64 y.1)]) (fun y : Nat × World => y.2) (fun y : Nat × World => y.1 ≤ A.length ∧ RowI O5 y.2 14 kv (setAll rowE (A.take y.1) (List.replicate (endOf A) (-1))) ∧ RowI O5 y.2 15 nv (setAll entE (A.take y.1) (List.replicate (endOf A) 0)) ∧ Upd (fun j => j = 14 ∨ j = 15) O5 w5 O5 y.2) (fun y : Nat × World => A.length - y.1) (0, w5) (⟨Nat.zero_le _, hk5, hn5, Upd.refl (by omega) _ _⟩) ⟨rfl, rfl, rfl, rfl, rfl, rfl, trivial⟩ rfl ?_
      rintro ⟨i, w6⟩ ⟨hi6, hk6, hn6, hU6⟩
      dsimp only at hi6 hk6 hn6 hU6 ⊢
      have hblk6 := hblk5.upd hU6 (by omega) (by omega)
      have ha6 := ha5.upd hU6 (by omega) (by omega)
      have has6 := ha6.sl
      have hks6 := hk6.sl
      have hns6 := hn6.sl
      have hkl : (setAll rowE (A.take i) (List.replicate (endOf A) (-1))).length = endOf A := by rw [setAll_len]; simp
      have hnl : (setAll entE (A.take i) (List.replicate (endOf A) 0)).length = endOf A := by rw [setAll_len]; simp
      refine WC.seq ?_
      refine WC.seq ?_
      refine WC.region ?_
      refine WL.v (RV.move rfl) rfl ?_
      refine WL.v (RV.move rfl) rfl ?_
      refine WL.v (RV.len (by first | exact has6) Try.underlying52 rfl) rfl ?_
      refine WL.v (RV.lss rfl rfl) rfl ?_
      refine WL.nil ?_
      refine QF.seqNext ?_
      refine WC.cond rfl ?_ ?_
      · intro hlt
        replace hlt : i < A.length := by have := of_decide_eq_true hlt; omega
        have hat : (nth A i).1 < endOf A := lt_endOf (nth_mem hlt)
        refine WC.skip ?_
        refine QF.seqNext ?_
        refine WC.seq ?_
        refine WC.block ?_
        refine WC.seq ?_
        refine WC.tail 13 rfl rfl (by kernel_rfl) (by kernel_rfl) ?_
        refine WS.v (RV.fieldAddr 3 Try.underlying34 rfl rfl (Try.sizeOf25 _) (by decide) rfl) rfl ?_
        refine WS.v (RV.load (by first | exact hblk6.drew.cell 3 rfl | exact has6.drew.cell hlt (j := 0) rfl | exact has6.drew.cell hlt (j := 1) rfl) (Try.isAgg25 _) rfl) rfl ?_
        refine WS.v (RV.move rfl) rfl ?_
        refine WS.v (RV.move rfl) rfl ?_
        refine WS.v (RV.indexAddr (by first | exact (has6).drew) Try.underlying52 (Try.sizeOf56 _) rfl rfl _ rfl (by omega)) rfl ?_
        refine WS.v (RV.fieldAddr 0 Try.underlying56 rfl rfl (Try.sizeOf3 _) (by decide) rfl) rfl ?_
        refine WS.v (RV.load (by first | exact hblk6.drew.cell 3 rfl | exact has6.drew.cell hlt (j := 0) rfl | exact has6.drew.cell hlt (j := 1) rfl) (Try.isAgg3 _) rfl) rfl ?_
        refine WS.v (RV.move rfl) rfl ?_
        refine WS.v (RV.move rfl) rfl ?_
        refine WS.v (RV.indexAddr (by first | exact (has6).drew) Try.underlying52 (Try.sizeOf56 _) rfl rfl _ rfl (by omega)) rfl ?_
        refine WS.v (RV.fieldAddr 1 Try.underlying56 rfl rfl (Try.sizeOf3 _) (by decide) rfl) rfl ?_
        refine WS.v (RV.load (by first | exact hblk6.drew.cell 3 rfl | exact has6.drew.cell hlt (j := 0) rfl | exact has6.drew.cell hlt (j := 1) rfl) (Try.isAgg3 _) rfl) rfl ?_
        refine WS.v (RV.indexAddr hks6.drew Try.underlying25 (Try.sizeOf3 _) rfl rfl (nth A i).1 rfl (by omega)) rfl ?_
        refine WS.go ?_
        refine WL.storeAt hk6.drew (nth A i).1 (by omega) (rowE (nth A i)) (Try.sizeOf3 _) rfl (by omega) rfl rfl rfl rfl ?_
        intro w7 hk7 hU7
        have hn7 := hn6.drew.upd hU7 (by omega) (by omega)
        have hblk7 := hblk6.drew.upd hU7 (by omega) (by omega)
        have has7 := (ha6.drew.upd hU7 (by omega) (by omega)).sl
        have hns7 := hn7.sl
        rw [← setAll_snoc, ← take_nth hlt] at hk7
        refine WL.nil ?_
        refine QF.seqNext ?_
        refine WC.tail 13 rfl rfl (by kernel_rfl) (by kernel_rfl) ?_
        refine WS.v (RV.fieldAddr 4 Try.underlying34 rfl rfl (Try.sizeOf25 _) (by decide) rfl) rfl ?_
        refine WS.v (RV.load (by first | exact hblk7.drew.cell 4 rfl | exact has7.drew.cell hlt (j := 0) rfl | exact has7.drew.cell hlt (j := 2) rfl) (Try.isAgg25 _) rfl) rfl ?_
        refine WS.v (RV.move rfl) rfl ?_
        refine WS.v (RV.move rfl) rfl ?_
        refine WS.v (RV.indexAddr (by first | exact (has7).drew) Try.underlying52 (Try.sizeOf56 _) rfl rfl _ rfl (by omega)) rfl ?_
        refine WS.v (RV.fieldAddr 0 Try.underlying56 rfl rfl (Try.sizeOf3 _) (by decide) rfl) rfl ?_
        refine WS.v (RV.load (by first | exact hblk7.drew.cell 4 rfl | exact has7.drew.cell hlt (j := 0) rfl | exact has7.drew.cell hlt (j := 2) rfl) (Try.isAgg3 _) rfl) rfl ?_
        refine WS.v (RV.move rfl) rfl ?_
        refine WS.v (RV.move rfl) rfl ?_
        refine WS.v (RV.indexAddr (by first | exact (has7).drew) Try.underlying52 (Try.sizeOf56 _) rfl rfl _ rfl (by omega)) rfl ?_
        refine WS.v (RV.fieldAddr 2 Try.underlying56 rfl rfl (Try.sizeOf3 _) (by decide) rfl) rfl ?_
        refine WS.v (RV.load (by first | exact hblk7.drew.cell 4 rfl | exact has7.drew.cell hlt (j := 0) rfl | exact has7.drew.cell hlt (j := 2) rfl) (Try.isAgg3 _) rfl) rfl ?_
        refine WS.v (RV.indexAddr hns7.drew Try.underlying25 (Try.sizeOf3 _) rfl rfl (nth A i).1 rfl (by omega)) rfl ?_
        refine WS.go ?_
        refine WL.storeAt hn7.drew (nth A i).1 (by omega) (entE (nth A i)) (Try.sizeOf3 _) rfl (by omega) rfl rfl rfl rfl ?_
        intro w8 hn8 hU8
        have hk8 := hk7.drew.upd hU8 (by omega) (by omega)
        rw [← setAll_snoc, ← take_nth hlt] at hn8
        refine WL.nil ?_
        refine QF.blockNormal ?_
        refine QF.seqNext ?_
        refine WC.region ?_
        refine WL.v (RV.move rfl) rfl ?_
        refine WL.v (RV.add rfl rfl (Fit.i64 (by omega))) rfl ?_
        refine WL.v (RV.assign rfl) rfl ?_
        refine WL.nil ?_
        refine QF.next ((i + 1, w8)) (⟨hlt, hk8, hn8, (hU6.trans (hU7.mono (by omega) (by omega)).ofDrew).trans (hU8.mono (by omega) (by omega)).ofDrew⟩) (by dsimp only; omega) ⟨rfl, rfl, rfl, rfl, rfl, rfl, trivial⟩ rfl
      · intro hge3
        obtain rfl : i = A.length := by have := of_decide_eq_false hge3; omega
        rw [List.take_length] at hk6 hn6
        have hu6 := (hu.upd hU5 (by omega) (by omega)).upd hU6 (by omega) (by omega)
        have hb6 := (hb.upd hU5 (by omega) (by omega)).upd hU6 (by omega) (by omega)
        have hres6 := (hres.upd hU5 (by omega) (by omega)).upd hU6 (by omega) (by omega)
        refine WC.exit ?_
        refine QF.thenExit ?_
        refine QF.thenExit ?_
        refine QF.blockHit ?_
        refine QF.seqNext ?_
        refine WC.seq ?_
        refine WC.region ?_
        refine WL.v (RV.loadAgg hblk6.cellsAdd (Try.isAgg34 _) (Try.sizeOf34 _) rfl) rfl ?_
        refine WL.storeAgg (us := #[.int .i64 width, uv, bv, kv, nv]) hres6 rfl (Try.sizeOf34 _) (by simp only [List.all_cons, hu6.one, hb6.one, hk6.one, hn6.one]; rfl) rfl rfl rfl ?_
        have hs7 : Upd (fun j => j = 1) O5 w6 O5 (w6.setRow rb #[.int .i64 width, uv, bv, kv, nv]) := Upd.setRow (by decide) hres6.tag rfl
        refine WL.nil ?_
        refine QF.seqNext ?_
        refine WC.ret ?_
        refine QF.doneC1 rfl rfl ((hres6.setRow).cellsAdd) (Try.isAgg34 _) (Try.sizeOf34 _) (⟨⟨uv, bv, kv, nv, ?_, ?_, ?_, ?_, ?_⟩, (((hU4.trans (hU5.mono (by unfold Mine; omega) mine0)).trans (hU6.mono (by unfold Mine; omega) mine0)).trans (hs7.mono (by unfold Mine; omega) mine0)).ext⟩)
        all_goals rw [hqw]
        · rw [show q.width = width from by rw [← hqw]; exact (packM_spec width L hrw).2.2.2.2.1]
        · exact (hu6.upd hs7 (by omega) (by omega)).sl
        · exact (hb6.upd hs7 (by omega) (by omega)).sl
        · rw [hchk]; exact (hk6.upd hs7 (by omega) (by omega)).sl
        · rw [hnxt]; exact (hn6.upd hs7 (by omega) (by omega)).sl
end Go.Proofs.Ytahdlfnjnjngaaa
