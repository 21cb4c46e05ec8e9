/- Package pack, walked: Rows; chapter 12 by the document: May. -/
import Derived.Test.YtahdlfnjnjngaaaPackS
namespace Go.Proofs.Ytahdlfnjnjngaaa
open Go.VL Go.Proofs

def rowM (p : PSt) (r : Nat) : List Int := (List.range p.width.toNat).map (getM p r)
def rowsM (p : PSt) : List (List Int) := (List.range p.usual.length).map (rowM p)
def rowTo (p : PSt) (r c : Nat) : List Int := (List.range c).map (getM p r) ++ List.replicate (p.width.toNat - c) 0
theorem rowTo_set (p : PSt) (r c : Nat) (h : c < p.width.toNat) : (rowTo p r c).set c (getM p r c) = rowTo p r (c + 1) := by
  simp only [rowTo]
  rw [List.set_append_right _ _ (by simp), List.range_succ, List.map_append]
  obtain ⟨d, hd⟩ : ∃ d, p.width.toNat - c = d + 1 := ⟨p.width.toNat - c - 1, by omega⟩
  rw [hd, show p.width.toNat - (c + 1) = d from by omega]
  simp [List.replicate_succ]
theorem rowTo_len (p : PSt) (r c : Nat) (h : c ≤ p.width.toNat) : (rowTo p r c).length = p.width.toNat := by simp [rowTo]; omega
theorem rowTo_all (p : PSt) (r : Nat) : rowTo p r p.width.toNat = rowM p r := by simp [rowTo, rowM]
theorem nth_map_range (f : Nat → List Int) (n i : Nat) (h : i < n) : nth ((List.range n).map f) i = f i := by
  rw [nth_eq (by simpa using h)]; simp
theorem nth_map_int (f : Nat → Int) (n i : Nat) (h : i < n) : nth ((List.range n).map f) i = f i := by
  rw [nth_eq (by simpa using h)]; simp
theorem elRow : Elem Try.prog 22 25 1 24 := ⟨Try.underlying22, by kernel_rfl, by decide⟩

theorem packRows_ret (p : PSt) (pv : Value) (w : World) (hp : PkV w pv p) :
    Ret Try.prog 19 [pv] w fun v w' => ∃ rv, v = .tuple #[rv, .bool (rightM p)] ∧ (if rightM p then Rows w' rv (rowsM p) else rv = .slice none 0 0) ∧ Ext w w' := by
  have hp0 := hp
  obtain ⟨u1, b1, k1, n1, rfl, hu, hb, hk, hn⟩ := hp
  refine Ret.enter Try.func19 Try.ntmps19 rfl rfl ?_
  refine WC.seq ?_
  refine WC.region ?_
  refine WL.boxO (Rng.start w) 1 (by omega) rfl rfl ?_
  intro x1 w1 O1 hx1 hU1 hR1 hE1
  refine WL.v (RV.assign rfl) rfl ?_
  refine WL.v (RV.assign rfl) rfl ?_
  refine WL.nil ?_
  refine QF.seqNext ?_
  refine WC.seq ?_
  refine WC.seq ?_
  refine WC.region ?_
  refine WL.v (RV.loadAgg hx1.cellsAdd (Try.isAgg27 _) (Try.sizeOf27 _) rfl) rfl ?_
  refine WL.call Try.call14 rfl (right_ret p _ w1 (hp0.ext hE1)) rfl ?_
  rintro v w2 ⟨rfl, hE2⟩
  have hE := hE1.trans hE2
  have hc : ∀ w', Ext w2 w' → ∀ j u, (#[.int .i64 p.width, u1, b1, k1, n1] : Array Value)[j]? = some u → w'.cell? ⟨x1, j, none⟩ = some u := fun w' e j u hu => e.cell (hE2.cell (hx1.cell j hu))
  replace hu := hu.ext hE
  replace hb := hb.ext hE
  replace hk := hk.ext hE
  replace hn := hn.ext hE
  refine WL.v (RV.not rfl) rfl ?_
  refine WL.nil ?_
  refine QF.seqNext ?_
  refine WC.cond rfl ?_ ?_
  · intro hg
    replace hg : rightM p = false := by simpa using hg
    refine WC.seq ?_
    refine WC.region ?_
    refine WL.v (RV.assign rfl) rfl ?_
    refine WL.v (RV.assign rfl) rfl ?_
    refine WL.nil ?_
    refine QF.seqNext ?_
    refine WC.ret ?_
    refine QF.thenRet ?_
    refine QF.done2 rfl rfl rfl (⟨_, by rw [hg], by rw [hg]; rfl, hE⟩)
  · intro hg
    replace hg : rightM p = true := by simpa using hg
    have ok := okP p hg
    obtain ⟨o1, o2, o3, o4, o5, o6, o7⟩ := ok
    have ok := okP p hg
    obtain ⟨n, hn0⟩ : ∃ n : Nat, p.width = n := Int.eq_ofNat_of_zero_le (by omega)
    have hnt : p.width.toNat = n := by omega
    refine WC.skip ?_
    refine QF.seqNext ?_
    refine WC.seq ?_
    refine WC.region ?_
    refine WL.v (RV.assign rfl) rfl ?_
    refine WL.nil ?_
    refine QF.seqNext ?_
    refine WC.seq ?_
    refine WC.seq ?_
    refine WC.region ?_
    refine WL.v (RV.fieldAddr 1 Try.underlying27 rfl rfl (Try.sizeOf25 _) (by decide) rfl) rfl ?_
    refine WL.v (RV.load (by first | exact hc _ (Ext.refl _) 1 _ rfl) (Try.isAgg25 _) rfl) rfl ?_
    refine WL.v (RV.len (by first | exact hu) Try.underlying25 rfl) rfl ?_
    refine WL.v (RV.move rfl) rfl ?_
    refine WL.nil ?_
    refine QF.seqNext ?_
    refine WC.block ?_
    refine WC.loop (fun x : Nat × (Nat → Nat) × World × Value × List Value => [(1, .pointer (some ⟨x1, 0, none⟩)), (4, x.2.2.2.1), (13, .int .i64 p.usual.length), (14, .int .i64 x.1)]) (fun x : Nat × (Nat → Nat) × World × Value × List Value => x.2.2.1) (fun x : Nat × (Nat → Nat) × World × Value × List Value => x.1 ≤ p.usual.length ∧ RowT (fun v => [v]) 25 1 x.2.1 x.2.2.1 16 x.2.2.2.1 x.2.2.2.2 ∧ x.2.2.2.2.length = x.1 ∧ (∀ i, i < x.1 → Ints x.2.2.1 (nth x.2.2.2.2 i) (rowM p i) ∧ Free x.2.1 x.2.2.1 (nth x.2.2.2.2 i)) ∧ Upd (fun j => j = 16) (fun _ => 0) w2 x.2.1 x.2.2.1) (fun x : Nat × (Nat → Nat) × World × Value × List Value => p.usual.length - x.1) (0, (fun _ => 0), w2, .slice none 0 0, []) (⟨Nat.zero_le _, RowT.nil _ _ _ _ _ _, rfl, fun i hi => absurd hi (Nat.not_lt_zero i), Upd.refl (by decide) _ _⟩) ⟨rfl, rfl, rfl, rfl, trivial⟩ rfl ?_
    rintro ⟨k, O3, w3, ov, vs⟩ ⟨hk3, ho3, hvl, hrows, hU3⟩
    dsimp only at hk3 ho3 hvl hrows hU3 ⊢
    have hE3 := hU3.ext
    have hR3 := (Rng.start w2).upd hU3
    refine WC.seq ?_
    refine WC.region ?_
    refine WL.v (RV.lss rfl rfl) rfl ?_
    refine WL.nil ?_
    refine QF.seqNext ?_
    refine WC.seq ?_
    refine WC.cond rfl ?_ ?_
    · intro hlt
      replace hlt : k < p.usual.length := by have := of_decide_eq_true hlt; omega
      refine WC.skip ?_
      refine QF.seqNext ?_
      refine WC.seq ?_
      refine WC.block ?_
      refine WC.seq ?_
      refine WC.region ?_
      refine WL.v (RV.move rfl) rfl ?_
      refine WL.v (RV.assign rfl) rfl ?_
      refine WL.nil ?_
      refine QF.seqNext ?_
      refine WC.seq ?_
      refine WC.region ?_
      refine WL.v (RV.fieldAddr 0 Try.underlying27 rfl rfl (Try.sizeOf3 _) (by decide) rfl) rfl ?_
      refine WL.v (RV.load (by first | exact hc _ hE3 0 _ rfl) (Try.isAgg3 _) rfl) rfl ?_
      refine WL.makeRow elInt (val := fun n : Int => .int .i64 n) (0 : Int) (by kernel_rfl) (fun _ => rfl) (Rng.start w3) 15 (by decide) n rfl rfl hn0 hn0 (by omega) (by omega) rfl ?_
      intro w4 O4 lv hlv hl4 hU4 hR4 hE4
      have hl4' : RowI O4 w4 15 lv (rowTo p k 0) := by simpa [rowTo, hnt] using hl4
      have hls4 := hl4'.sl
      have hlen0 : (rowTo p k 0).length = n := by rw [rowTo_len _ _ _ (Nat.zero_le _), hnt]
      refine WL.v (RV.assign rfl) rfl ?_
      refine WL.nil ?_
      refine QF.seqNext ?_
      refine WC.seq ?_
      refine WC.seq ?_
      refine WC.region ?_
      refine WL.v (RV.move rfl) rfl ?_
      refine WL.v (RV.len (by first | exact hls4) Try.underlying25 rfl) rfl ?_
      refine WL.v (RV.move rfl) rfl ?_
      refine WL.nil ?_
      refine QF.seqNext ?_
      refine WC.block ?_
      have elen : Value.int .i64 ((rowTo p k 0).length : Int) = .int .i64 (n : Int) := by rw [hlen0]
      rw [elen]
      refine WC.loop (fun y : Nat × World => [(1, .pointer (some ⟨x1, 0, none⟩)), (4, ov), (5, .int .i64 k), (6, lv), (13, .int .i64 p.usual.length), (14, .int .i64 k), (21, .int .i64 n), (22, .int .i64 y.1)]) (fun y : Nat × World => y.2) (fun y : Nat × World => y.1 ≤ n ∧ RowI O4 y.2 15 lv (rowTo p k y.1) ∧ Upd (fun j => j = 15) (fun _ => 0) w3 O4 y.2) (fun y : Nat × World => n - y.1) (0, w4) (⟨Nat.zero_le _, hl4', hU4⟩) ⟨rfl, rfl, rfl, rfl, rfl, rfl, rfl, rfl, trivial⟩ rfl ?_
      rintro ⟨c, w5⟩ ⟨hc5, hl5, hU5⟩
      dsimp only at hc5 hl5 hU5 ⊢
      have hE5 := hE3.trans hU5.ext
      have hls5 := hl5.sl
      have hlen5 : (rowTo p k c).length = n := by rw [rowTo_len _ _ _ (by omega), hnt]
      refine WC.seq ?_
      refine WC.region ?_
      refine WL.v (RV.lss rfl rfl) rfl ?_
      refine WL.nil ?_
      refine QF.seqNext ?_
      refine WC.seq ?_
      refine WC.cond rfl ?_ ?_
      · intro hltc
        replace hltc : c < n := by have := of_decide_eq_true hltc; omega
        refine WC.skip ?_
        refine QF.seqNext ?_
        refine WC.seq ?_
        refine WC.block ?_
        refine WC.seq ?_
        refine WC.region ?_
        refine WL.v (RV.move rfl) rfl ?_
        refine WL.v (RV.assign rfl) rfl ?_
        refine WL.nil ?_
        refine QF.seqNext ?_
        refine WC.region ?_
        refine WL.v (RV.move rfl) rfl ?_
        refine WL.v (RV.move rfl) rfl ?_
        refine WL.v (RV.move rfl) rfl ?_
        refine WL.v (RV.move rfl) rfl ?_
        refine WL.call Try.call30 rfl (get_ret p ok u1 b1 k1 n1 x1 k c w5 (hu.ext hE5) (hb.ext hE5) (hk.ext hE5) (hn.ext hE5) (hc _ hE5) (by omega) (by omega)) rfl ?_
        rintro v _ ⟨rfl, rfl⟩
        refine WL.v (RV.indexAddr (by first | exact hls5) Try.underlying25 (Try.sizeOf3 _) rfl rfl _ rfl (by omega)) rfl ?_
        refine WL.storeAt hl5 c (by omega) (getM p k c) (Try.sizeOf3 _) rfl (by omega) rfl rfl rfl rfl ?_
        intro w6 hl6 hU6
        rw [rowTo_set _ _ _ (by omega)] at hl6
        refine WL.nil ?_
        refine QF.blockNormal ?_
        refine QF.seqNext ?_
        refine WC.region ?_
        refine WL.v (RV.add rfl rfl (Fit.i64 (by omega))) rfl ?_
        refine WL.v (RV.move rfl) rfl ?_
        refine WL.nil ?_
        refine QF.next ((c + 1, w6)) (⟨hltc, hl6, hU5.trans hU6⟩) (by dsimp only; omega) ⟨rfl, rfl, rfl, rfl, rfl, rfl, rfl, rfl, trivial⟩ rfl
      · intro hgec
        obtain rfl : c = n := by have := of_decide_eq_false hgec; omega
        have hl6 : Ints w5 lv (rowM p k) := by have := hl5.sl; rw [← hnt, rowTo_all] at this; exact this
        have hf6 : Free O3 w5 lv := hl5.free (by decide) ((Rng.start w3).upd hU5) hR3
        have hx5 := hU5.ext
        have hX5 : Upd (fun _ => False) O3 w3 O3 w5 := Upd.of_ext (fun h => h) O3 hx5
        have ho5 := ho3.upd hX5 (by decide) (fun h => h)
        have hR5 := hR3.ext hx5
        subst hlv
        refine WC.exit ?_
        refine QF.thenExit ?_
        refine QF.thenExit ?_
        refine QF.blockHit ?_
        refine QF.seqNext ?_
        refine WC.region ?_
        refine WL.v (RV.move rfl) rfl ?_
        refine WL.v (RV.move rfl) rfl ?_
        refine WL.push elRow ho5 hR5 ((Value.slice (some ⟨w3.heap.size, 0, none⟩) c c)) (fun _ => rfl) rfl rfl rfl (by simp [Value.oneCell']) (by omega) (by omega) (by omega) (by decide) rfl rfl ?_
        intro ov7 w7 O7 ho7 hU7 hR7
        refine WL.v (RV.assign rfl) rfl ?_
        refine WL.nil ?_
        refine QF.blockNormal ?_
        refine QF.seqNext ?_
        refine WC.region ?_
        refine WL.v (RV.add rfl rfl (Fit.i64 (by omega))) rfl ?_
        refine WL.v (RV.move rfl) rfl ?_
        refine WL.nil ?_
        refine QF.next ((k + 1, O7, w7, ov7, vs ++ [Value.slice (some ⟨w3.heap.size, 0, none⟩) c c])) (⟨hlt, ho7, by simp [hvl], ?_, (hU3.trans (Upd.of_ext (by decide) O3 hx5)).trans hU7⟩) (by dsimp only; omega) ⟨rfl, rfl, rfl, rfl, trivial⟩ rfl
        intro i hi
        dsimp only at hi ⊢
        rw [nth_append, hvl]
        split
        · rename_i h
          obtain ⟨g1, g2⟩ := hrows i h
          exact ⟨(g1.ext hx5).upd (g2.upd hX5) hU7, (g2.upd hX5).upd hU7⟩
        · rename_i h
          obtain rfl : i = k := by omega
          rw [Nat.sub_self, nth_cons0]
          exact ⟨hl6.upd hf6 hU7, hf6.upd hU7⟩
    · intro hge
      obtain rfl : k = p.usual.length := by have := of_decide_eq_false hge; omega
      refine WC.exit ?_
      refine QF.thenExit ?_
      refine QF.thenExit ?_
      refine QF.blockHit ?_
      refine QF.seqNext ?_
      refine WC.seq ?_
      refine WC.region ?_
      refine WL.v (RV.move rfl) rfl ?_
      refine WL.v (RV.assign rfl) rfl ?_
      refine WL.v (RV.assign rfl) rfl ?_
      refine WL.nil ?_
      refine QF.seqNext ?_
      refine WC.ret ?_
      refine QF.done2 rfl rfl rfl (⟨_, by rw [hg], by rw [hg, if_pos rfl]; exact ⟨vs, ho3.sl, by simp [hvl, rowsM], fun i hi => by simp only [rowsM, List.length_map, List.length_range] at hi; rw [rowsM, nth_map_range _ _ _ hi]; exact (hrows i hi).1⟩, hE.trans hE3⟩)
end Go.Proofs.Ytahdlfnjnjngaaa
