/- Chapter 12: PackBack, walked. -/
import Derived.Test.YtahdlfnjnjngaaaPackV
namespace Go.Proofs.Ytahdlfnjnjngaaa
open Go.VL Go.Proofs

theorem packBack_ret (width : Int) (L : List (List Int)) (rv : Value) (row col : Int) (w : World) (h : Rows w rv L) :
    Ret Try.prog 7 [.int .i64 width, rv, .int .i64 row, .int .i64 col] w fun v w' => v = .bool true ∧ Ext w w' := by
  refine Ret.enter Try.func7 Try.ntmps7 rfl rfl ?_
  refine WC.seq ?_
  refine WC.region ?_
  refine WL.v (RV.assign rfl) rfl ?_
  refine WL.nil ?_
  refine QF.seqNext ?_
  refine WC.seq ?_
  refine WC.seq ?_
  refine WC.region ?_
  refine WL.v (RV.move rfl) rfl ?_
  refine WL.call Try.call8 rfl (great_ret L rv w h) rfl ?_
  rintro v _ ⟨rfl, rfl⟩
  refine WL.v (RV.move rfl) rfl ?_
  cases hg : great30 L with
  | true =>
    refine WL.know (d := 18) rfl (b' := true) (rfl) ?_
    refine WL.off rfl rfl rfl ?_
    refine WL.off rfl rfl rfl ?_
    refine WL.v (RV.pickT rfl rfl) rfl ?_
    refine WL.nil ?_
    refine QF.seqNext ?_
    refine WC.condT rfl rfl ?_
    refine WC.seq ?_
    refine WC.region ?_
    refine WL.call Try.call9 rfl (awake_ret w) rfl ?_
    rintro v w1 ⟨rfl, hE1⟩
    refine WL.v (RV.assign rfl) rfl ?_
    refine WL.nil ?_
    refine QF.seqNext ?_
    refine WC.ret ?_
    refine QF.thenRet ?_
    refine QF.done1 rfl rfl (⟨rfl, hE1⟩)
  | false =>
    refine WL.know (d := 18) rfl (b' := false) (rfl) ?_
    refine WL.on rfl ?_
    refine WL.call Try.call9 rfl (awake_ret w) rfl ?_
    rintro v w1 ⟨rfl, hE1⟩
    refine WL.on rfl ?_
    refine WL.v (RV.not rfl) rfl ?_
    refine WL.v (RV.pickF rfl rfl) rfl ?_
    refine WL.nil ?_
    refine QF.seqNext ?_
    refine WC.condF rfl (rfl) ?_
    refine WC.skip ?_
    refine QF.seqNext ?_
    refine WC.seq ?_
    refine WC.region ?_
    refine WL.v (RV.move rfl) rfl ?_
    refine WL.v (RV.move rfl) rfl ?_
    refine WL.call Try.call10 rfl (pack_ret width L rv w1 (h.ext hE1)) rfl ?_
    rintro v w2 ⟨pv, er, rfl, hp, her, hE2⟩
    have hE := hE1.trans hE2
    obtain ⟨uv, bv, kv, nv, rfl, hu, hb, hk, hn⟩ := hp
    refine WL.v (RV.move rfl) rfl ?_
    refine WL.v (RV.extract rfl rfl) rfl ?_
    refine WL.v (RV.extract rfl rfl) rfl ?_
    refine WL.allocO (Rng.start w2) 1 (by omega) (Try.zeroValue27 _) rfl ?_
    intro x3 w3 O3 hx3 hU3 hR3 hE3
    generalize hq0 : (if packBad width L then (⟨0, [], [], [], []⟩ : PSt) else packM width L) = q at *
    refine WL.storeAgg (us := #[.int .i64 q.width, uv, bv, kv, nv]) hx3 rfl (Try.sizeOf27 _) (by simp only [List.all_cons, hu.one, hb.one, hk.one, hn.one]; rfl) rfl rfl rfl ?_
    have hx4 := hx3.setRow (us := #[.int .i64 q.width, uv, bv, kv, nv])
    have hE4 : Ext w2 (w3.setRow x3 #[.int .i64 q.width, uv, bv, kv, nv]) := (hU3.trans (Upd.setRow (by decide) hx3.tag rfl)).ext
    generalize w3.setRow x3 #[.int .i64 q.width, uv, bv, kv, nv] = w4 at *
    have hE5 := hE.trans hE4
    have cs : ∀ w', Ext w4 w' → ∀ (j : Nat) u, [Value.int .i64 q.width, uv, bv, kv, nv][j]? = some u → w'.cell? ((⟨x3, 0, none⟩ : Addr).add j) = some u := fun w' e j u h => e.cell (hx4.cellsAdd j u h)
    have hP : PkV w4 (.agg #[.int .i64 q.width, uv, bv, kv, nv]) q := ⟨uv, bv, kv, nv, rfl, hu.ext hE4, hb.ext hE4, hk.ext hE4, hn.ext hE4⟩
    refine WL.v (RV.assign rfl) rfl ?_
    refine WL.nil ?_
    refine QF.seqNext ?_
    refine WC.seq ?_
    refine WC.seq ?_
    refine WC.region ?_
    refine WL.v (RV.move rfl) rfl ?_
    refine WL.v (RV.neq rfl rfl) rfl ?_
    refine WL.nil ?_
    refine QF.seqNext ?_
    refine WC.cond rfl ?_ ?_
    · intro hne
      have hbad : packBad width L = true := by
        cases hb : packBad width L with
        | true => rfl
        | false => rw [her, hb] at hne; simp at hne
      refine WC.seq ?_
      refine WC.region ?_
      refine WL.v (RV.move rfl) rfl ?_
      refine WL.v (RV.move rfl) rfl ?_
      refine WL.call Try.call11 rfl (right12_ret width L rv w4 (h.ext hE5)) rfl ?_
      rintro v _ ⟨rfl, rfl⟩
      refine WL.v (RV.not rfl) rfl ?_
      refine WL.v (RV.assign rfl) rfl ?_
      refine WL.nil ?_
      refine QF.seqNext ?_
      refine WC.ret ?_
      refine QF.thenRet ?_
      refine QF.done1 rfl rfl (⟨by rw [hbad]; rfl, hE5⟩)
    · intro heq
      have hbad : packBad width L = false := by
        cases hb : packBad width L with
        | false => rfl
        | true => rw [her, hb] at heq; simp at heq
      obtain ⟨hw1, hw2, hL, hrows, hrw⟩ := packBad_false hbad
      rw [hbad, if_neg Bool.false_ne_true] at hq0
      subst hq0
      have hr := rightM_pack width L hbad
      have hus : (packM width L).usual.length = L.length := by rw [(packM_spec width L hrw).1]; simp
      have hwd : (packM width L).width = width := (packM_spec width L hrw).2.2.2.2.1
      refine WC.skip ?_
      refine QF.seqNext ?_
      refine WC.seq ?_
      refine WC.region ?_
      refine WL.v (RV.loadAgg (cs _ (Ext.refl _)) (Try.isAgg27 _) (Try.sizeOf27 _) rfl) rfl ?_
      refine WL.call Try.call19 rfl (packRows_ret (packM width L) _ w4 hP) rfl ?_
      rintro v w5 ⟨lv, rfl, hlv, hE6⟩
      rw [hr, if_pos rfl, rowsM_pack width L hbad] at hlv
      have hlv0 := hlv
      obtain ⟨lvs, hls, hll, hli⟩ := hlv
      obtain ⟨rvs, hrs, hrl, hri⟩ := h.ext (hE5.trans hE6)
      refine WL.v (RV.move rfl) rfl ?_
      refine WL.v (RV.extract rfl rfl) rfl ?_
      refine WL.v (RV.extract rfl rfl) rfl ?_
      refine WL.v (RV.assign rfl) rfl ?_
      refine WL.v (RV.assign rfl) rfl ?_
      refine WL.nil ?_
      refine QF.seqNext ?_
      refine WC.seq ?_
      refine WC.seq ?_
      refine WC.region ?_
      refine WL.v (RV.move rfl) rfl ?_
      refine WL.v (RV.not rfl) rfl ?_
      refine WL.v (RV.move rfl) rfl ?_
      refine WL.know (d := 42) rfl (b' := false) (by rw [hr]; rfl) ?_
      refine WL.on rfl ?_
      refine WL.v (RV.move rfl) rfl ?_
      refine WL.on rfl ?_
      refine WL.v (RV.len (by first | exact hls | exact hrs) Try.underlying22 rfl) rfl ?_
      refine WL.on rfl ?_
      refine WL.v (RV.move rfl) rfl ?_
      refine WL.on rfl ?_
      refine WL.v (RV.len (by first | exact hls | exact hrs) Try.underlying22 rfl) rfl ?_
      refine WL.on rfl ?_
      refine WL.v (RV.neq rfl rfl) rfl ?_
      refine WL.v (RV.pickF rfl rfl) rfl ?_
      refine WL.v (RV.move rfl) rfl ?_
      refine WL.know (d := 49) rfl (b' := false) (by rw [hll, hrl]; simp) ?_
      refine WL.on rfl ?_
      refine WL.v (RV.loadAgg (cs _ hE6) (Try.isAgg27 _) (Try.sizeOf27 _) rfl) rfl ?_
      refine WL.on rfl ?_
      refine WL.v (RV.loadAgg (cs _ hE6) (Try.isAgg27 _) (Try.sizeOf27 _) rfl) rfl ?_
      refine WL.on rfl ?_
      refine WL.call Try.call16 rfl (psame_ret (packM width L) (packM width L) _ _ w5 (hP.ext hE6) (hP.ext hE6)) rfl ?_
      rintro v w6 ⟨rfl, hE7⟩
      have hE67 := hE6.trans hE7
      have hE57 := hE5.trans hE67
      refine WL.on rfl ?_
      refine WL.v (RV.not rfl) rfl ?_
      refine WL.v (RV.pickF rfl rfl) rfl ?_
      refine WL.nil ?_
      refine QF.seqNext ?_
      refine WC.condF rfl (by rw [PSt.same_self]; rfl) ?_
      refine WC.skip ?_
      refine QF.seqNext ?_
      refine WC.seq ?_
      refine WC.seq ?_
      refine WC.region ?_
      refine WL.v (RV.assign rfl) rfl ?_
      refine WL.nil ?_
      refine QF.seqNext ?_
      refine WC.block ?_
      refine WC.loop (fun x : Nat × World => [(0, .int .i64 width), (1, rv), (2, .int .i64 row), (3, .int .i64 col), (9, .pointer (some ⟨x3, 0, none⟩)), (11, lv), (13, .int .i64 x.1)]) (fun x : Nat × World => x.2) (fun x : Nat × World => x.1 ≤ L.length ∧ Ext w5 x.2) (fun x : Nat × World => L.length - x.1) (0, w6) (⟨Nat.zero_le _, hE7⟩) ⟨rfl, rfl, rfl, rfl, rfl, rfl, rfl, trivial⟩ rfl ?_
      rintro ⟨i, w7⟩ ⟨hi, hE8⟩
      dsimp only at hi hE8 ⊢
      have hrs7 := hrs.ext hE8
      have hls7 := hls.ext hE8
      refine WC.seq ?_
      refine WC.seq ?_
      refine WC.region ?_
      refine WL.v (RV.move rfl) rfl ?_
      refine WL.v (RV.move rfl) rfl ?_
      refine WL.v (RV.len (by first | exact hrs7) Try.underlying22 rfl) rfl ?_
      refine WL.v (RV.lss rfl rfl) rfl ?_
      refine WL.nil ?_
      refine QF.seqNext ?_
      refine WC.cond rfl ?_ ?_
      · intro hlt
        replace hlt : i < L.length := by have := of_decide_eq_true hlt; omega
        refine WC.skip ?_
        refine QF.seqNext ?_
        refine WC.seq ?_
        refine WC.block ?_
        refine WC.seq ?_
        refine WC.quiet (Ext w7) (by kernel_rfl) (by kernel_rfl) ((Ext.refl w7).drew) ?_
        refine WQ.v (fun w1 hw1 => RV.move rfl) rfl ?_
        refine WQ.v (fun w1 hw1 => RV.move rfl) rfl ?_
        refine WQ.v (fun w1 hw1 => RV.indexAddr (by first | exact hls7.ext hw1 | exact hrs7.ext hw1) Try.underlying22 (Try.sizeOf25 _) rfl rfl _ rfl (by omega)) rfl ?_
        refine WQ.v (fun w1 hw1 => RV.load (by first | exact (hls7.ext hw1).ld (i := i) (by omega) | exact (hrs7.ext hw1).ld (i := i) (by omega)) (Try.isAgg25 _) rfl) rfl ?_
        refine WQ.v (fun w1 hw1 => RV.move rfl) rfl ?_
        refine WQ.v (fun w1 hw1 => RV.move rfl) rfl ?_
        refine WQ.v (fun w1 hw1 => RV.indexAddr (hrs7.ext hw1) Try.underlying22 (Try.sizeOf25 _) rfl rfl i rfl (by omega)) rfl ?_
        refine WQ.v (fun w1 hw1 => RV.load ((hrs7.ext hw1).ld (i := i) (by omega)) (Try.isAgg25 _) rfl) rfl ?_
        refine WQ.call Try.call22 rfl (fun w1 hw1 => (same12_ret (nth L i) (nth L i) (nth lvs i) (nth rvs i) _ ((hli i hlt).ext (hE8.trans hw1)) ((hri i hlt).ext (hE8.trans hw1))).mono fun v w' h => ⟨h.1, hw1.trans h.2⟩) rfl ?_
        refine WQ.v (fun w1 hw1 => RV.not rfl) rfl ?_
        refine WQ.nil ?_
        intro w8 hE9
        refine QF.seqNext ?_
        refine WC.condF rfl (by simp) ?_
        refine WC.skip ?_
        refine QF.blockNormal ?_
        refine QF.seqNext ?_
        refine WC.region ?_
        refine WL.v (RV.move rfl) rfl ?_
        refine WL.v (RV.add rfl rfl (Fit.i64 (by omega))) rfl ?_
        refine WL.v (RV.assign rfl) rfl ?_
        refine WL.nil ?_
        refine QF.next ((i + 1, w8)) (⟨hlt, hE8.trans hE9⟩) (by dsimp only; omega) ⟨rfl, rfl, rfl, rfl, rfl, rfl, rfl, trivial⟩ rfl
      · intro hge
        obtain rfl : i = L.length := by have := of_decide_eq_false hge; omega
        have hE48 := hE6.trans hE8
        refine WC.exit ?_
        refine QF.thenExit ?_
        refine QF.thenExit ?_
        refine QF.blockHit ?_
        refine QF.seqNext ?_
        refine WC.seq ?_
        refine WC.region ?_
        refine WL.v (RV.loadAgg (cs _ hE48) (Try.isAgg27 _) (Try.sizeOf27 _) rfl) rfl ?_
        refine WL.v (RV.move rfl) rfl ?_
        refine WL.v (RV.move rfl) rfl ?_
        refine WL.call Try.call18 rfl (packGet_ret (packM width L) _ row col w7 (hP.ext hE48)) rfl ?_
        rintro v w8 ⟨rfl, hE9⟩
        have hE49 := hE48.trans hE9
        have hE59 := hE5.trans hE49
        have hrs8 := hrs7.ext hE9
        have hri8 := fun i hi => ((hri i hi).ext hE8).ext hE9
        generalize hgn : (if getOk (packM width L) row col = true then getM (packM width L) row.toNat col.toNat else 0) = gn at *
        refine WL.v (RV.move rfl) rfl ?_
        refine WL.v (RV.extract rfl rfl) rfl ?_
        refine WL.v (RV.extract rfl rfl) rfl ?_
        refine WL.v (RV.assign rfl) rfl ?_
        refine WL.v (RV.assign rfl) rfl ?_
        refine WL.nil ?_
        refine QF.seqNext ?_
        refine WC.seq ?_
        refine WC.seq ?_
        refine WC.region ?_
        refine WL.v (RV.move rfl) rfl ?_
        refine WL.v (RV.lss rfl rfl) rfl ?_
        refine WL.v (RV.move rfl) rfl ?_
        refine WL.orBS (fun w1 => _ = w1) (decide ((rvs.length : Int) ≤ row)) 4 (rfl) rfl rfl rfl rfl rfl ?_ ?_
        · skip
          intro g1
          refine WL.on rfl ?_
          refine WL.v (RV.move rfl) rfl ?_
          refine WL.on rfl ?_
          refine WL.v (RV.move rfl) rfl ?_
          refine WL.on rfl ?_
          refine WL.v (RV.len (by first | exact hrs8) Try.underlying22 rfl) rfl ?_
          refine WL.on rfl ?_
          refine WL.v (RV.geq rfl rfl) rfl ?_
          refine WL.nil ?_
          refine QF.andEnd (tA := 80) 5 (rfl) rfl rfl rfl (fun v hv => (Option.some.inj hv).symm.trans (congrArg Value.bool g1)) rfl
        rintro _ rfl
        refine WL.v (RV.move rfl) rfl ?_
        refine WL.orBS (fun w1 => _ = w1) (decide (col < 0)) 2 (rfl) rfl rfl rfl rfl rfl ?_ ?_
        · skip
          intro g2
          refine WL.on rfl ?_
          refine WL.v (RV.move rfl) rfl ?_
          refine WL.on rfl ?_
          refine WL.v (RV.lss rfl rfl) rfl ?_
          refine WL.nil ?_
          refine QF.andEnd (tA := 86) 3 (rfl) rfl rfl rfl (fun v hv => (Option.some.inj hv).symm.trans (congrArg Value.bool g2)) rfl
        rintro _ rfl
        refine WL.v (RV.move rfl) rfl ?_
        refine WL.orBS (fun w1 => _ = w1) (decide (width ≤ col)) 3 (rfl) rfl rfl rfl rfl rfl ?_ ?_
        · skip
          intro g3
          refine WL.on rfl ?_
          refine WL.v (RV.move rfl) rfl ?_
          refine WL.on rfl ?_
          refine WL.v (RV.move rfl) rfl ?_
          refine WL.on rfl ?_
          refine WL.v (RV.geq rfl rfl) rfl ?_
          refine WL.nil ?_
          refine QF.andEnd (tA := 90) 4 (rfl) rfl rfl rfl (fun v hv => (Option.some.inj hv).symm.trans (congrArg Value.bool g3)) rfl
        rintro _ rfl
        have hgo : getOk (packM width L) row col = !(decide (row < 0) || decide ((rvs.length : Int) ≤ row) || decide (col < 0) || decide (width ≤ col)) := by simp only [getOk, hr, Bool.not_true, Bool.false_or, hus, hwd, hrl]
        refine WL.nil ?_
        refine QF.seqNext ?_
        refine WC.cond rfl ?_ ?_
        · intro hb2
          have hno : getOk (packM width L) row col = false := by rw [hgo, hb2]; rfl
          rw [hno, if_neg Bool.false_ne_true] at hgn
          subst hgn
          refine WC.seq ?_
          refine WC.region ?_
          refine WL.v (RV.move rfl) rfl ?_
          refine WL.v (RV.eql rfl rfl) rfl ?_
          refine WL.v (RV.move rfl) rfl ?_
          refine WL.know (d := 97) rfl (b' := true) (rfl) ?_
          refine WL.on rfl ?_
          refine WL.v (RV.move rfl) rfl ?_
          refine WL.on rfl ?_
          refine WL.v (RV.not rfl) rfl ?_
          refine WL.v (RV.pickT rfl rfl) rfl ?_
          refine WL.v (RV.assign rfl) rfl ?_
          refine WL.nil ?_
          refine QF.seqNext ?_
          refine WC.ret ?_
          refine QF.thenRet ?_
          refine QF.done1 rfl rfl (⟨by rw [hno]; rfl, hE59⟩)
        · intro hgood
          have hyes : getOk (packM width L) row col = true := by rw [hgo, hgood]; rfl
          rw [hyes, if_pos rfl] at hgn
          simp only [Bool.or_eq_false_iff, decide_eq_false_iff_not] at hgood
          obtain ⟨⟨⟨q2, q3⟩, q4⟩, q5⟩ := hgood
          obtain ⟨r, rfl⟩ := Int.eq_ofNat_of_zero_le (by omega : 0 ≤ row)
          obtain ⟨c, rfl⟩ := Int.eq_ofNat_of_zero_le (by omega : 0 ≤ col)
          have hrL : r < L.length := by omega
          have hlen := hrows _ (nth_mem hrL)
          have hcL : c < (nth L r).length := by omega
          have hrr := hri8 r hrL
          rw [Int.toNat_natCast, Int.toNat_natCast, getM_pack width L r c hrL hcL] at hgn
          refine WC.skip ?_
          refine QF.seqNext ?_
          refine WC.seq ?_
          refine WC.region ?_
          refine WL.v (RV.move rfl) rfl ?_
          refine WL.v (RV.move rfl) rfl ?_
          refine WL.know (d := 102) rfl (b' := true) (hyes) ?_
          refine WL.on rfl ?_
          refine WL.v (RV.move rfl) rfl ?_
          refine WL.on rfl ?_
          refine WL.v (RV.move rfl) rfl ?_
          refine WL.on rfl ?_
          refine WL.v (RV.move rfl) rfl ?_
          refine WL.on rfl ?_
          refine WL.v (RV.indexAddr (by first | exact hrs8 | exact hrr) Try.underlying22 (Try.sizeOf25 _) rfl rfl _ rfl (by omega)) rfl ?_
          refine WL.on rfl ?_
          refine WL.v (RV.load (by first | exact hrs8.ld (i := r) (by omega) | exact hrr.ld hcL) (Try.isAgg25 _) rfl) rfl ?_
          refine WL.on rfl ?_
          refine WL.v (RV.move rfl) rfl ?_
          refine WL.on rfl ?_
          refine WL.v (RV.indexAddr hrr Try.underlying25 (Try.sizeOf3 _) rfl rfl c rfl (by omega)) rfl ?_
          refine WL.on rfl ?_
          refine WL.v (RV.load (by first | exact hrs8.ld (i := r) (by omega) | exact hrr.ld hcL) (Try.isAgg3 _) rfl) rfl ?_
          refine WL.on rfl ?_
          refine WL.v (RV.eql rfl rfl) rfl ?_
          refine WL.v (RV.pickT rfl rfl) rfl ?_
          refine WL.v (RV.assign rfl) rfl ?_
          refine WL.nil ?_
          refine QF.seqNext ?_
          refine WC.ret ?_
          refine QF.done1 rfl rfl (⟨by rw [← hgn]; simp, hE59⟩)
end Go.Proofs.Ytahdlfnjnjngaaa
