/- Chapter 12's statements, walked: awake, Right. -/
import Derived.Test.YtahdlfnjnjngaaaPackF
namespace Go.Proofs.Ytahdlfnjnjngaaa
open Go.VL Go.Proofs

theorem pl34 : Places Try.prog 34 #[(0, 1), (1, 1), (2, 1), (3, 1), (4, 1)] := ⟨_, Try.underlying34, fun w => by kernel_rfl⟩

theorem rows3 {w : World} {v a b c : Value} {la lb lc : List Int} (h : Sl (fun x => [x]) 1 w v [a, b, c]) (ha : Ints w a la) (hb : Ints w b lb) (hc : Ints w c lc) : Rows w v [la, lb, lc] :=
  ⟨[a, b, c], h, rfl, fun i hi => match i, hi with
    | 0, _ => by rw [nth_cons0, nth_cons0]; exact ha
    | 1, _ => by rw [nth_cons, nth_cons0, nth_cons, nth_cons0]; exact hb
    | 2, _ => by rw [nth_cons, nth_cons, nth_cons0, nth_cons, nth_cons, nth_cons0]; exact hc⟩


theorem awake_ret (w : World) : Ret Try.prog 9 [] w fun v w' => v = .bool true ∧ Ext w w' := by
  refine Ret.enter Try.func9 Try.ntmps9 rfl rfl ?_
  refine WC.seq ?_
  refine WC.region ?_
  refine WL.v (RV.assign rfl) rfl ?_
  refine WL.nil ?_
  refine QF.seqNext ?_
  refine WC.seq ?_
  refine WC.region ?_
  refine WL.buildSl Try.underlying25 (Try.sizeOf3 _) (Try.zeroValue3 _) (fun (x : Int) => [Value.int .i64 x]) [5, 5] rfl rfl rfl rfl (by kernel_rfl) (by simp) rfl ?_
  intro v1 w1 h1 hE1
  refine WL.buildSl Try.underlying25 (Try.sizeOf3 _) (Try.zeroValue3 _) (fun (x : Int) => [Value.int .i64 x]) [5, 6] rfl rfl rfl rfl (by kernel_rfl) (by simp) rfl ?_
  intro v2 w2 h2 hE2
  refine WL.buildSl Try.underlying25 (Try.sizeOf3 _) (Try.zeroValue3 _) (fun (x : Int) => [Value.int .i64 x]) [6, 5] rfl rfl rfl rfl (by kernel_rfl) (by simp) rfl ?_
  intro v3 w3 h3 hE3
  refine WL.buildSl Try.underlying22 (Try.sizeOf25 _) (Try.zeroValue25 _) (fun (x : Value) => [x]) [v1, v2, v3] rfl rfl rfl rfl (by obtain ⟨_, _, rfl, _⟩ := h1.shape; obtain ⟨_, _, rfl, _⟩ := h2.shape; obtain ⟨_, _, rfl, _⟩ := h3.shape; kernel_rfl) (by simp) rfl ?_
  intro v4 w4 h4 hE4
  have hbad : packBad 2 [[5, 5], [5, 6], [6, 5]] = false := by kernel_rfl
  have hpm : packM 2 [[5, 5], [5, 6], [6, 5]] = ⟨2, [5, 5, 5], [0, 0, 0], [2, 1], [6, 6]⟩ := by kernel_rfl
  refine WL.call Try.call10 rfl (pack_ret 2 [[5, 5], [5, 6], [6, 5]] v4 w4 (rows3 h4 (((h1.ext hE2).ext hE3).ext hE4) ((h2.ext hE3).ext hE4) (h3.ext hE4))) rfl ?_
  rintro v w5 ⟨pv, e, rfl, hp, rfl, hE5⟩
  rw [hbad, if_neg Bool.false_ne_true, hpm] at hp
  rw [hbad, if_neg Bool.false_ne_true]
  obtain ⟨u1, b1, k1, n1, rfl, hu1, hb1, hk1, hn1⟩ := hp
  refine WL.v (RV.move rfl) rfl ?_
  refine WL.v (RV.extract rfl rfl) rfl ?_
  refine WL.v (RV.extract rfl rfl) rfl ?_
  refine WL.allocO (Rng.start w5) 1 (by omega) (Try.zeroValue27 _) rfl ?_
  intro x1 w6 O6 hx6 hU6 hR6 hE6
  have sh : (#[Value.int .i64 2, u1, b1, k1, n1].toList).all Value.oneCell' = true := by
    obtain ⟨_, _, rfl, _⟩ := hu1.shape; obtain ⟨_, _, rfl, _⟩ := hb1.shape; obtain ⟨_, _, rfl, _⟩ := hk1.shape; obtain ⟨_, _, rfl, _⟩ := hn1.shape; rfl
  refine WL.storeAgg (us := #[.int .i64 2, u1, b1, k1, n1]) hx6 rfl (Try.sizeOf27 _) sh rfl rfl rfl ?_
  have hx7 := hx6.setRow (us := #[.int .i64 2, u1, b1, k1, n1])
  have hE7 : Ext w5 (w6.setRow x1 #[.int .i64 2, u1, b1, k1, n1]) := (hU6.trans (Upd.setRow (by decide) hx6.tag rfl)).ext
  generalize w6.setRow x1 #[.int .i64 2, u1, b1, k1, n1] = w7 at *
  refine WL.v (RV.assign rfl) rfl ?_
  refine WL.nil ?_
  refine QF.seqNext ?_
  refine WC.seq ?_
  refine WC.region ?_
  refine WL.v (RV.move rfl) rfl ?_
  refine WL.v (RV.eql rfl rfl) rfl ?_
  refine WL.v (RV.move rfl) rfl ?_
  refine WL.know (d := 13) rfl (b' := true) (rfl) ?_
  refine WL.on rfl ?_
  refine WL.v (RV.loadAgg hx7.cellsAdd (Try.isAgg27 _) (Try.sizeOf27 _) rfl) rfl ?_
  refine WL.on rfl ?_
  refine WL.buildSl Try.underlying25 (Try.sizeOf3 _) (Try.zeroValue3 _) (fun (x : Int) => [Value.int .i64 x]) [5, 5, 5] rfl rfl rfl rfl (by kernel_rfl) (by simp) rfl ?_
  intro v8 w8 h8 hE8
  refine WL.on rfl ?_
  refine WL.buildSl Try.underlying25 (Try.sizeOf3 _) (Try.zeroValue3 _) (fun (x : Int) => [Value.int .i64 x]) [0, 0, 0] rfl rfl rfl rfl (by kernel_rfl) (by simp) rfl ?_
  intro v9 w9 h9 hE9
  refine WL.on rfl ?_
  refine WL.buildSl Try.underlying25 (Try.sizeOf3 _) (Try.zeroValue3 _) (fun (x : Int) => [Value.int .i64 x]) [2, 1] rfl rfl rfl rfl (by kernel_rfl) (by simp) rfl ?_
  intro v10 w10 h10 hE10
  refine WL.on rfl ?_
  refine WL.buildSl Try.underlying25 (Try.sizeOf3 _) (Try.zeroValue3 _) (fun (x : Int) => [Value.int .i64 x]) [6, 6] rfl rfl rfl rfl (by kernel_rfl) (by simp) rfl ?_
  intro v11 w11 h11 hE11
  refine WL.on rfl ?_
  refine WL.v (RV.buildF pl34 (Try.zeroValue34 _) rfl (by first | rfl | (simp only [List.all_cons, h8.one, h9.one, h10.one, h11.one]; rfl)) rfl rfl) rfl ?_
  have hE12 := ((hE8.trans hE9).trans hE10).trans hE11
  refine WL.on rfl ?_
  refine WL.call Try.call12 rfl (is_ret ⟨2, [5, 5, 5], [0, 0, 0], [2, 1], [6, 6]⟩ ⟨2, [5, 5, 5], [0, 0, 0], [2, 1], [6, 6]⟩ _ _ w11 ⟨u1, b1, k1, n1, rfl, (hu1.ext hE7).ext hE12, (hb1.ext hE7).ext hE12, (hk1.ext hE7).ext hE12, (hn1.ext hE7).ext hE12⟩ ⟨v8, v9, v10, v11, rfl, ((h8.ext hE9).ext hE10).ext hE11, (h9.ext hE10).ext hE11, h10.ext hE11, h11⟩) rfl ?_
  rintro v w12 ⟨rfl, hE13⟩
  refine WL.v (RV.pickT rfl rfl) rfl ?_
  refine WL.v (RV.assign rfl) rfl ?_
  refine WL.nil ?_
  refine QF.seqNext ?_
  refine WC.ret ?_
  refine QF.done1 rfl rfl (⟨rfl, (((((((hE1.trans hE2).trans hE3).trans hE4).trans hE5).trans hE7).trans hE12).trans hE13)⟩)
end Go.Proofs.Ytahdlfnjnjngaaa
