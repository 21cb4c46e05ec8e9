/- Package rule, walked: Parse. -/
import Derived.Test.YtmohcfjopaccdaaGreatDoorRuD
namespace Go.Proofs.YtmohcfjopaccdaaGreatDoor
open Go.VL Go.Proofs
set_option maxRecDepth 10000

abbrev txtV (ig kp ru : Value) : Value := .agg #[ig, kp, ru]
abbrev nilV : Value := .slice none 0 0
def PostT (O : Nat → Nat) (w : World) (v : Value) : TR → Prop
  | .ok ts => ∃ xs rv, v = .tuple #[txtV nilV nilV rv, .int .i64 0, .int .i64 0] ∧ Sl encR 7 w rv xs ∧ Free O w rv ∧ ts.length = xs.length ∧ xs.length ≤ 40 ∧ ∀ i, i < xs.length → Rt O w (nth ts i) (nth xs i)
  | .bad p e => v = .tuple #[txtV nilV nilV nilV, .int .i64 (p : Int), .int .i64 e] ∧ e ≠ 0
  | .other => False
theorem pl26 : Places Tryz.prog 26 #[(0, 1), (1, 1), (2, 1)] := ⟨_, Tryz.underlying26, fun w => by kernel_rfl⟩
theorem pl53 : Places Tryz.prog 53 #[(0, 1), (1, 1), (2, 1), (3, 1), (4, 1), (5, 1)] := ⟨_, Tryz.underlying53, fun w => by kernel_rfl⟩
theorem pl56 : Places Tryz.prog 56 #[(0, 6), (6, 3), (9, 1), (10, 1), (11, 1)] := ⟨_, Tryz.underlying56, fun w => by kernel_rfl⟩
theorem txt_cells {w : World} {rb : Nat} {a b c : Value} (h6 : w.cell? ⟨rb, 6, none⟩ = some a) (h7 : w.cell? ⟨rb, 7, none⟩ = some b) (h8 : w.cell? ⟨rb, 8, none⟩ = some c) : ∀ (q : Nat) (u : Value), [a, b, c][q]? = some u → w.cell? (((⟨rb, 0, none⟩ : Addr).add 6).add q) = some u := fun q u hu => by
  have e : (((⟨rb, 0, none⟩ : Addr).add 6).add q) = ⟨rb, 6 + q, none⟩ := by
    simp only [Addr.add]; (repeat' split) <;> simp_all
  rw [e]
  match q, hu with
  | 0, hu => obtain rfl := Option.some.inj hu; exact h6
  | 1, hu => obtain rfl := Option.some.inj hu; exact h7
  | 2, hu => obtain rfl := Option.some.inj hu; exact h8
theorem rparse_ret (l : List UInt8) (B : Nat) (O : Nat → Nat) (w : World) (hR : Rng B O w) (hlm : l.length ≤ 100000) (ha : asciiL l) (hot : parseT l ≠ .other) : Ret Tryz.prog 8 [.string (bs l)] w fun v w' => Ext w w' ∧ PostT O w' v (parseT l) := by
  obtain ⟨T, hT0, hT⟩ := hR.bound
  have hzz : ¬ (fun q : Nat => T ≤ q) 0 := fun e => by omega
  have hTT : ∀ b, ¬ T ≤ O b := fun b => by have := hT b; omega
  refine Ret.enter Tryz.func8 Tryz.ntmps8 rfl rfl ?_
  refine WC.seq ?_
  refine WC.region ?_
  refine WL.allocO hR T (by omega) (Tryz.zeroValue26 _) rfl ?_
  intro xb w1 O1 hx1 hU1 hR1 hE1
  have hUt1 : Upd (fun q => T ≤ q) O w O1 w1 := hU1.mono (fun _ h => Nat.le_of_eq h.symm) hzz
  refine WL.v (RV.assign rfl) rfl ?_
  refine WL.v (RV.assign rfl) rfl ?_
  refine WL.nil ?_
  refine QF.seqNext ?_
  refine WC.seq ?_
  refine WC.seq ?_
  refine WC.region ?_
  refine WL.v (RV.move rfl) rfl ?_
  refine WL.v (RV.lenS Tryz.underlying9 rfl) rfl ?_
  refine WL.v (RV.gtr rfl rfl) rfl ?_
  refine WL.nil ?_
  refine QF.seqNext ?_
  by_cases hl : 4096 < l.length
  · have hM : parseT l = .bad 0 3 := by unfold parseT; rw [if_pos hl]
    rw [hM]
    refine WC.condT rfl ((decide_eq_true (by omega))) ?_
    refine WC.seq ?_
    refine WC.region ?_
    refine WL.v (RV.buildF pl26 (Tryz.zeroValue26 _) rfl (by first | rfl | (simp only [List.all_cons, List.all_nil]; rfl)) rfl rfl) rfl ?_
    refine WL.storeAgg (us := (#[.slice none 0 0, .slice none 0 0, .slice none 0 0] : Array Value)) hx1 rfl (Tryz.sizeOf26 _) rfl rfl rfl rfl ?_
    have hxz := hx1.setRow (us := (#[.slice none 0 0, .slice none 0 0, .slice none 0 0] : Array Value))
    have hUz : Upd (fun k => k = T) O1 w1 O1 (w1.setRow xb (#[.slice none 0 0, .slice none 0 0, .slice none 0 0] : Array Value)) := Upd.setRow (by omega) hx1.tag rfl
    refine WL.v (RV.assign rfl) rfl ?_
    refine WL.v (RV.assign rfl) rfl ?_
    refine WL.nil ?_
    refine QF.seqNext ?_
    refine WC.ret ?_
    refine QF.thenRet ?_
    refine QF.doneC3 rfl rfl rfl rfl hxz.cellsAdd (Tryz.isAgg26 _) (Tryz.sizeOf26 _) ⟨Upd.noneE (hUt1.trans (hUz.mono (fun _ h => Nat.le_of_eq h.symm) hzz)) hTT, rfl, by decide⟩
  · have hM0 : parseT l = linesM (l.length + 1) [] 0 l := by unfold parseT; rw [if_neg hl]
    refine WC.condF rfl ((decide_eq_false (by omega))) ?_
    refine WC.skip ?_
    refine QF.seqNext ?_
    refine WC.seq ?_
    refine WC.region ?_
    refine WL.v (RV.move rfl) rfl ?_
    refine WL.v (RV.buildF pl53 (Tryz.zeroValue53 _) rfl (by first | rfl | (simp only [List.all_cons, List.all_nil]; rfl)) rfl rfl) rfl ?_
    refine WL.v (RV.build (vs := [(0, .agg #[.string (bs l), .int .i64 0, .int .i64 0, .int .i64 0, .int .i64 0, .int .i64 0])]) (cells := (⟨l, 0, 0, 0, 0, 0, .slice none 0 0, .slice none 0 0, .slice none 0 0, .slice none 0 0, false, false⟩ : LS).cells) pl56 (Tryz.zeroValue56 _) rfl (by kernel_rfl)) rfl ?_
    refine WL.boxO hR1 (T + 1) (by omega) rfl rfl ?_
    intro rb w2 O2 hb2' hU2 hR2 hE2
    have hb2 : Rd6 O2 w2 (T + 1) rb ⟨l, 0, 0, 0, 0, 0, .slice none 0 0, .slice none 0 0, .slice none 0 0, .slice none 0 0, false, false⟩ := hb2'
    have hx2 := hx1.upd hU2 (by omega) (by omega)
    have hUt2 := hUt1.trans (hU2.mono (fun _ h => by rw [h]; omega) hzz)
    refine WL.v (RV.assign rfl) rfl ?_
    refine WL.nil ?_
    refine QF.seqNext ?_
    refine WC.seq ?_
    refine WC.seq ?_
    refine WC.region ?_
    refine WL.v (RV.assign rfl) rfl ?_
    refine WL.nil ?_
    refine QF.seqNext ?_
    refine WC.block ?_
    refine WC.loop (fun y : Nat × Nat × List R3 × List X3 × (Nat → Nat) × World × LS => [(0, .string (bs l)), (2, .pointer (some ⟨xb, 0, none⟩)), (5, .pointer (some ⟨rb, 0, none⟩)), (6, .int .i64 (y.2.1 : Nat))]) (fun y : Nat × Nat × List R3 × List X3 × (Nat → Nat) × World × LS => y.2.2.2.2.2.1) (fun y : Nat × Nat × List R3 × List X3 × (Nat → Nat) × World × LS => BlkO y.2.2.2.2.1 y.2.2.2.2.2.1 T xb (#[.slice none 0 0, .slice none 0 0, .slice none 0 0] : Array Value) 26 ∧ Rd6 y.2.2.2.2.1 y.2.2.2.2.2.1 (T + 1) rb y.2.2.2.2.2.2 ∧ y.2.2.2.2.2.2.l = l ∧ y.2.2.2.2.2.2.ig = .slice none 0 0 ∧ y.2.2.2.2.2.2.kp = .slice none 0 0 ∧ y.2.2.2.2.2.2.mc = .slice none 0 0 ∧ Upd (fun q => T ≤ q) O w y.2.2.2.2.1 y.2.2.2.2.2.1 ∧ Rng B y.2.2.2.2.1 y.2.2.2.2.2.1 ∧ y.2.1 ≤ 10000000 ∧ LoopT l (parseT l) y.2.2.2.2.1 y.2.2.2.2.2.1 (T + 2) y.1 y.2.1 y.2.2.1 y.2.2.2.1 y.2.2.2.2.2.2) (fun y : Nat × Nat × List R3 × List X3 × (Nat → Nat) × World × LS => y.1) (l.length + 1, 0, [], [], O2, w2, ⟨l, 0, 0, 0, 0, 0, .slice none 0 0, .slice none 0 0, .slice none 0 0, .slice none 0 0, false, false⟩) (⟨hx2, hb2, rfl, rfl, rfl, rfl, hUt2, hR2, by dsimp only; omega, .inl ⟨by dsimp only; omega, rfl, by dsimp only; omega, by rw [hM0]; rfl, RowT.nil _ _ _ _ _ _, rfl, by simp, fun i hi => absurd hi (by simp)⟩⟩) ⟨rfl, rfl, rfl, rfl, trivial⟩ rfl ?_
    rintro ⟨n, fr, ts, xs, O1, w3, s⟩ ⟨hx3, hb3, hsl, hig, hkp, hmc, hUt3, hR3, hfb, hL3⟩
    dsimp only at hx3 hb3 hsl hig hkp hmc hUt3 hR3 hfb hL3 ⊢
    rcases hL3 with ⟨hfr, he, hnn, hMM, hrows⟩ | ⟨hfr, he, hMM, hrows⟩ | ⟨p, e, hne, hee, hbad, hMM⟩
    · obtain ⟨n, rfl⟩ : ∃ m, n = m + 1 := ⟨n - 1, by omega⟩
      have hoth : readM xs.length (lineT (l.drop fr)) ≠ .other := by
        have := linesM_other (n := n) (acc := ts) (fr := fr) (r := l.drop fr) (by rw [hMM]; exact hot)
        rwa [hrows.2.1] at this
      have hll : (lineT (l.drop fr)).length ≤ l.length - fr := by
        have := (List.takeWhile_prefix (l := l.drop fr) (fun b => !(b == 10))).length_le
        simpa [lineT] using this
      have q5 := hb3.q5
      rw [he] at q5
      refine WC.seq ?_
      refine WC.seq ?_
      refine WC.region ?_
      refine WL.v (RV.move rfl) rfl ?_
      refine WL.v (RV.move rfl) rfl ?_
      refine WL.v (RV.lenS Tryz.underlying9 rfl) rfl ?_
      refine WL.v (RV.leq rfl rfl) rfl ?_
      refine WL.v (RV.move rfl) rfl ?_
      refine WL.know (d := 21) rfl (b' := true) ((decide_eq_true (by omega))) ?_
      refine WL.on rfl ?_
      refine WL.v (RV.move rfl) rfl ?_
      refine WL.on rfl ?_
      refine WL.v (RV.nilPtr rfl) rfl ?_
      refine WL.on rfl ?_
      refine WL.v (RV.fieldAddr 0 Tryz.underlying56 rfl rfl (Tryz.sizeOf53 _) (by decide) rfl) rfl ?_
      refine WL.on rfl ?_
      refine WL.v (RV.fieldAddr 5 Tryz.underlying53 rfl rfl (Tryz.sizeOf27 _) (by decide) rfl) rfl ?_
      refine WL.on rfl ?_
      refine WL.v (RV.load (by first | exact q5) (Tryz.isAgg27 _) rfl) rfl ?_
      refine WL.on rfl ?_
      refine WL.v (RV.eql rfl rfl) rfl ?_
      refine WL.v (RV.pickT rfl rfl) rfl ?_
      refine WL.nil ?_
      refine QF.seqNext ?_
      refine WC.condT rfl (rfl) ?_
      refine WC.skip ?_
      refine QF.seqNext ?_
      refine WC.block ?_
      refine WC.seq ?_
      refine WC.region ?_
      refine WL.v (RV.move rfl) rfl ?_
      refine WL.v (RV.lenS Tryz.underlying9 rfl) rfl ?_
      refine WL.v (RV.assign rfl) rfl ?_
      refine WL.nil ?_
      refine QF.seqNext ?_
      refine WC.seq ?_
      refine WC.seq ?_
      refine WC.region ?_
      refine WL.v (RV.move rfl) rfl ?_
      refine WL.v (RV.move rfl) rfl ?_
      refine WL.v (RV.sliceSlo Tryz.underlying9 rfl rfl fr rfl hfr) rfl ?_
      refine WL.call Tryz.call18 rfl (indexByte_ret (l.drop fr) 10 w3) rfl ?_
      rintro v w9 ⟨rfl, hw9⟩
      rw [hw9]
      clear hw9 w9
      cases hf : (l.drop fr).findIdx? (· == 10) with
      | none =>
        have hi : idxB (l.drop fr) 10 = -1 := by unfold idxB; rw [hf]
        have hln := congrArg List.length (lineT_none hf)
        rw [List.length_drop] at hln
        rw [hi, show ((l.length : Nat) : Int) = ((fr + (lineT (l.drop fr)).length : Nat) : Int) from by omega]
        refine WL.v (RV.assign rfl) rfl ?_
        refine WL.nil ?_
        refine QF.seqNext ?_
        refine WC.seq ?_
        refine WC.region ?_
        refine WL.v (RV.move rfl) rfl ?_
        refine WL.v (RV.geq rfl rfl) rfl ?_
        refine WL.nil ?_
        refine QF.seqNext ?_
        refine WC.condF rfl (rfl) ?_
        refine WC.skip ?_
        refine QF.seqNext ?_
        refine WC.seq ?_
        refine WC.region ?_
        refine WL.v (RV.move rfl) rfl ?_
        refine WL.v (RV.move rfl) rfl ?_
        refine WL.v (RV.move rfl) rfl ?_
        refine WL.call Tryz.call19 rfl (read_ret B O1 w3 (T + 1) (T + 2) rb s fr (fr + (lineT (l.drop fr)).length) (lineT (l.drop fr)) xs hR3 (by omega) (by omega) (by omega) (by omega) (by rw [hsl]; omega) (by rw [hsl]; omega) he hmc (by rw [hsl]; exact lineT_seg l fr) (fun c hc => ha c (List.mem_of_mem_drop ((List.takeWhile_prefix (l := l.drop fr) _).subset hc))) hrows.1 hrows.2.2.1 hoth hb3) rfl ?_
        rintro v w4 hP4
        obtain ⟨O4, s4, n4, ts4, xs4, hU4, hR4, hb4, g1, g2, g3, g4, hlt4, hL4⟩ := LoopT.next hfr hnn hMM (by omega) (by omega) hrows hP4
        have hx4 := BlkO.upd hx3 hU4 (by omega) (by omega)
        have hUt4 := hUt3.trans (hU4.mono (fun _ h => by rcases h with h | h <;> rw [h] <;> omega) hzz)
        refine WL.nil ?_
        refine QF.seqNext ?_
        refine WC.region ?_
        refine WL.v (RV.move rfl) rfl ?_
        refine WL.v (RV.add rfl rfl (Fit.i64 (by omega))) rfl ?_
        refine WL.v (RV.assign rfl) rfl ?_
        refine WL.nil ?_
        refine QF.blockNormal ?_
        refine QF.next ((n4, fr + (lineT (l.drop fr)).length + 1, ts4, xs4, O4, w4, s4)) (⟨hx4, hb4, g1.trans hsl, g2.trans hig, g3.trans hkp, g4.trans hmc, hUt4, hR4, by dsimp only; omega, hL4⟩) (hlt4) ⟨rfl, rfl, rfl, rfl, trivial⟩ rfl
      | some k =>
        have hi : idxB (l.drop fr) 10 = (k : Nat) := by unfold idxB; rw [hf]
        have hln := lineT_some hf
        rw [hi]
        refine WL.v (RV.assign rfl) rfl ?_
        refine WL.nil ?_
        refine QF.seqNext ?_
        refine WC.seq ?_
        refine WC.region ?_
        refine WL.v (RV.move rfl) rfl ?_
        refine WL.v (RV.geq rfl rfl) rfl ?_
        refine WL.nil ?_
        refine QF.seqNext ?_
        refine WC.condT rfl ((decide_eq_true (by omega))) ?_
        refine WC.region ?_
        refine WL.v (RV.move rfl) rfl ?_
        refine WL.v (RV.move rfl) rfl ?_
        refine WL.v (RV.add rfl rfl (Fit.i64 (by omega))) rfl ?_
        refine WL.v (RV.assign rfl) rfl ?_
        refine WL.nil ?_
        refine QF.seqNext ?_
        refine WC.seq ?_
        refine WC.region ?_
        refine WL.v (RV.move rfl) rfl ?_
        refine WL.v (RV.move rfl) rfl ?_
        refine WL.v (RV.move rfl) rfl ?_
        rw [show (fr : Int) + ((k : Nat) : Int) = ((fr + (lineT (l.drop fr)).length : Nat) : Int) from by omega]
        refine WL.call Tryz.call19 rfl (read_ret B O1 w3 (T + 1) (T + 2) rb s fr (fr + (lineT (l.drop fr)).length) (lineT (l.drop fr)) xs hR3 (by omega) (by omega) (by omega) (by omega) (by rw [hsl]; omega) (by rw [hsl]; omega) he hmc (by rw [hsl]; exact lineT_seg l fr) (fun c hc => ha c (List.mem_of_mem_drop ((List.takeWhile_prefix (l := l.drop fr) _).subset hc))) hrows.1 hrows.2.2.1 hoth hb3) rfl ?_
        rintro v w4 hP4
        obtain ⟨O4, s4, n4, ts4, xs4, hU4, hR4, hb4, g1, g2, g3, g4, hlt4, hL4⟩ := LoopT.next hfr hnn hMM (by omega) (by omega) hrows hP4
        have hx4 := BlkO.upd hx3 hU4 (by omega) (by omega)
        have hUt4 := hUt3.trans (hU4.mono (fun _ h => by rcases h with h | h <;> rw [h] <;> omega) hzz)
        refine WL.nil ?_
        refine QF.seqNext ?_
        refine WC.region ?_
        refine WL.v (RV.move rfl) rfl ?_
        refine WL.v (RV.add rfl rfl (Fit.i64 (by omega))) rfl ?_
        refine WL.v (RV.assign rfl) rfl ?_
        refine WL.nil ?_
        refine QF.blockNormal ?_
        refine QF.next ((n4, fr + (lineT (l.drop fr)).length + 1, ts4, xs4, O4, w4, s4)) (⟨hx4, hb4, g1.trans hsl, g2.trans hig, g3.trans hkp, g4.trans hmc, hUt4, hR4, by dsimp only; omega, hL4⟩) (hlt4) ⟨rfl, rfl, rfl, rfl, trivial⟩ rfl
    · skip
      have q5 := hb3.q5
      rw [he] at q5
      refine WC.seq ?_
      refine WC.seq ?_
      refine WC.region ?_
      refine WL.v (RV.move rfl) rfl ?_
      refine WL.v (RV.move rfl) rfl ?_
      refine WL.v (RV.lenS Tryz.underlying9 rfl) rfl ?_
      refine WL.v (RV.leq rfl rfl) rfl ?_
      refine WL.v (RV.move rfl) rfl ?_
      refine WL.know (d := 21) rfl (b' := false) ((decide_eq_false (by omega))) ?_
      rw [hMM]
      have q6 := hb3.q6
      rw [hig] at q6
      have q7 := hb3.q7
      rw [hkp] at q7
      have q8 := hb3.q8
      have hl8 := hrows.1.one
      refine WL.off rfl rfl rfl ?_
      refine WL.off rfl rfl rfl ?_
      refine WL.off rfl rfl rfl ?_
      refine WL.off rfl rfl rfl ?_
      refine WL.off rfl rfl rfl ?_
      refine WL.off rfl rfl rfl ?_
      refine WL.v (RV.pickF rfl rfl) rfl ?_
      refine WL.nil ?_
      refine QF.seqNext ?_
      refine WC.condF rfl rfl ?_
      refine WC.exit ?_
      refine QF.thenExit ?_
      refine QF.thenExit ?_
      refine QF.blockHit ?_
      refine QF.seqNext ?_
      refine WC.seq ?_
      refine WC.seq ?_
      refine WC.region ?_
      refine WL.v (RV.move rfl) rfl ?_
      refine WL.v (RV.nilPtr rfl) rfl ?_
      refine WL.v (RV.fieldAddr 0 Tryz.underlying56 rfl rfl (Tryz.sizeOf53 _) (by decide) rfl) rfl ?_
      refine WL.v (RV.fieldAddr 5 Tryz.underlying53 rfl rfl (Tryz.sizeOf27 _) (by decide) rfl) rfl ?_
      refine WL.v (RV.load (by first | exact q5) (Tryz.isAgg27 _) rfl) rfl ?_
      refine WL.v (RV.neq rfl rfl) rfl ?_
      refine WL.nil ?_
      refine QF.seqNext ?_
      refine WC.condF rfl (rfl) ?_
      refine WC.skip ?_
      refine QF.seqNext ?_
      refine WC.seq ?_
      refine WC.region ?_
      refine WL.v (RV.move rfl) rfl ?_
      refine WL.v (RV.nilPtr rfl) rfl ?_
      refine WL.v (RV.fieldAddr 6 Tryz.underlying56 rfl rfl (Tryz.sizeOf26 _) (by decide) rfl) rfl ?_
      refine WL.v (RV.loadAgg (us := [.slice none 0 0, .slice none 0 0, s.ru]) (txt_cells q6 q7 q8) (Tryz.isAgg26 _) (Tryz.sizeOf26 _) rfl) rfl ?_
      refine WL.storeAgg (us := #[.slice none 0 0, .slice none 0 0, s.ru]) hx3 rfl (Tryz.sizeOf26 _) (by simp only [List.all_cons, hl8]; rfl) rfl rfl rfl ?_
      have hxz := hx3.setRow (us := #[.slice none 0 0, .slice none 0 0, s.ru])
      have hUz : Upd (fun k => k = T) O1 w3 O1 (w3.setRow xb #[.slice none 0 0, .slice none 0 0, s.ru]) := Upd.setRow (by omega) hx3.tag rfl
      have hUt9 := hUt3.trans (hUz.mono (fun _ h => Nat.le_of_eq h.symm) hzz)
      have hrow9 := hrows.1.upd hUz (by omega) (by omega)
      refine WL.v (RV.assign rfl) rfl ?_
      refine WL.v (RV.assign rfl) rfl ?_
      refine WL.nil ?_
      refine QF.seqNext ?_
      refine WC.ret ?_
      refine QF.doneC3 rfl rfl rfl rfl hxz.cellsAdd (Tryz.isAgg26 _) (Tryz.sizeOf26 _) ⟨Upd.noneE hUt9 hTT, xs, s.ru, rfl, hrow9.sl, hrow9.freeT (by omega) (fun b => by have := hT b; omega) (hR3.upd hUz) hUt9, hrows.2.1, hrows.2.2.1, fun i hi => ((hrows.2.2.2 i hi).upd hUz).weak (fun b e => hUt9.z0 b e)⟩
    · skip
      rw [hMM]
      have q5 := hb3.q5
      rw [hee] at q5
      have q4 := hb3.q4
      rw [hbad] at q4
      have hne2 : ((e == 0) : Bool) = false := by simpa using hne
      have hne3 : ((e != 0) : Bool) = true := by simpa using hne
      cases hfl : decide ((fr : Int) ≤ (l.length : Int)) with
      | false =>
        refine WC.seq ?_
        refine WC.seq ?_
        refine WC.region ?_
        refine WL.v (RV.move rfl) rfl ?_
        refine WL.v (RV.move rfl) rfl ?_
        refine WL.v (RV.lenS Tryz.underlying9 rfl) rfl ?_
        refine WL.v (RV.leq rfl rfl) rfl ?_
        refine WL.v (RV.move rfl) rfl ?_
        refine WL.know (d := 21) rfl (b' := false) (hfl) ?_
        refine WL.off rfl rfl rfl ?_
        refine WL.off rfl rfl rfl ?_
        refine WL.off rfl rfl rfl ?_
        refine WL.off rfl rfl rfl ?_
        refine WL.off rfl rfl rfl ?_
        refine WL.off rfl rfl rfl ?_
        refine WL.v (RV.pickF rfl rfl) rfl ?_
        refine WL.nil ?_
        refine QF.seqNext ?_
        refine WC.condF rfl rfl ?_
        refine WC.exit ?_
        refine QF.thenExit ?_
        refine QF.thenExit ?_
        refine QF.blockHit ?_
        refine QF.seqNext ?_
        refine WC.seq ?_
        refine WC.seq ?_
        refine WC.region ?_
        refine WL.v (RV.move rfl) rfl ?_
        refine WL.v (RV.nilPtr rfl) rfl ?_
        refine WL.v (RV.fieldAddr 0 Tryz.underlying56 rfl rfl (Tryz.sizeOf53 _) (by decide) rfl) rfl ?_
        refine WL.v (RV.fieldAddr 5 Tryz.underlying53 rfl rfl (Tryz.sizeOf27 _) (by decide) rfl) rfl ?_
        refine WL.v (RV.load (by first | exact q5) (Tryz.isAgg27 _) rfl) rfl ?_
        refine WL.v (RV.neq rfl rfl) rfl ?_
        refine WL.nil ?_
        refine QF.seqNext ?_
        refine WC.condT rfl (hne3) ?_
        have d4 : w3.drew.cell? ⟨rb, 4, none⟩ = some (.int .i64 (p : Nat)) := q4
        have d5 : w3.drew.cell? ⟨rb, 5, none⟩ = some (.int .i64 e) := q5
        refine WC.seq ?_
        refine WC.draw (fun W => W.cell? ⟨rb, 4, none⟩ = some (.int .i64 (p : Nat)) ∧ W.cell? ⟨rb, 5, none⟩ = some (.int .i64 e)) 14 rfl (by kernel_rfl) ?_
        refine WH.take 0 rfl (by kernel_rfl) (by kernel_rfl) (by kernel_rfl) ⟨d4, d5⟩ (fun w1 hw1 => RV.buildF pl26 (Tryz.zeroValue26 _) rfl (by first | rfl | (simp only [List.all_cons, List.all_nil]; rfl)) rfl rfl) rfl ?_
        refine WH.take 1 rfl (by kernel_rfl) (by kernel_rfl) (by kernel_rfl) ⟨d4, d5⟩ (fun w1 hw1 => RV.move rfl) rfl ?_
        refine WH.take 2 rfl (by kernel_rfl) (by kernel_rfl) (by kernel_rfl) ⟨d4, d5⟩ (fun w1 hw1 => RV.nilPtr rfl) rfl ?_
        refine WH.take 3 rfl (by kernel_rfl) (by kernel_rfl) (by kernel_rfl) ⟨d4, d5⟩ (fun w1 hw1 => RV.fieldAddr 0 Tryz.underlying56 rfl rfl (Tryz.sizeOf53 _) (by decide) rfl) rfl ?_
        refine WH.take 4 rfl (by kernel_rfl) (by kernel_rfl) (by kernel_rfl) ⟨d4, d5⟩ (fun w1 hw1 => RV.fieldAddr 4 Tryz.underlying53 rfl rfl (Tryz.sizeOf3 _) (by decide) rfl) rfl ?_
        refine WH.take 5 rfl (by kernel_rfl) (by kernel_rfl) (by kernel_rfl) ⟨d4, d5⟩ (fun w1 hw1 => RV.load (by first | exact hw1.1 | exact hw1.2) (Tryz.isAgg3 _) rfl) rfl ?_
        refine WH.take 6 rfl (by kernel_rfl) (by kernel_rfl) (by kernel_rfl) ⟨d4, d5⟩ (fun w1 hw1 => RV.move rfl) rfl ?_
        refine WH.take 7 rfl (by kernel_rfl) (by kernel_rfl) (by kernel_rfl) ⟨d4, d5⟩ (fun w1 hw1 => RV.nilPtr rfl) rfl ?_
        refine WH.take 8 rfl (by kernel_rfl) (by kernel_rfl) (by kernel_rfl) ⟨d4, d5⟩ (fun w1 hw1 => RV.fieldAddr 0 Tryz.underlying56 rfl rfl (Tryz.sizeOf53 _) (by decide) rfl) rfl ?_
        refine WH.take 9 rfl (by kernel_rfl) (by kernel_rfl) (by kernel_rfl) ⟨d4, d5⟩ (fun w1 hw1 => RV.fieldAddr 5 Tryz.underlying53 rfl rfl (Tryz.sizeOf27 _) (by decide) rfl) rfl ?_
        refine WH.take 10 rfl (by kernel_rfl) (by kernel_rfl) (by kernel_rfl) ⟨d4, d5⟩ (fun w1 hw1 => RV.load (by first | exact hw1.1 | exact hw1.2) (Tryz.isAgg27 _) rfl) rfl ?_
        refine WH.one 11 (by kernel_rfl) rfl ?_
        refine WL.storeAgg (us := #[.slice none 0 0, .slice none 0 0, .slice none 0 0]) hx3.drew rfl (Tryz.sizeOf26 _) rfl rfl rfl rfl ?_
        have hxz := BlkO.setRow (us := #[.slice none 0 0, .slice none 0 0, .slice none 0 0]) hx3.drew
        have hUz : Upd (fun k => k = T) O1 w3.drew O1 (w3.drew.setRow xb #[.slice none 0 0, .slice none 0 0, .slice none 0 0]) := Upd.setRow (by omega) hx3.tag rfl
        have hbz := (BlkO.drew hb3).upd hUz (by omega) (by omega)
        have z5 := hbz.q5
        rw [hee] at z5
        have z4 := hbz.q4
        rw [hbad] at z4
        refine WL.nil ?_
        refine QF.after (⟨z4, z5⟩) ?_
        refine WH.take 12 rfl (by kernel_rfl) (by kernel_rfl) (by kernel_rfl) (⟨z4, z5⟩) (fun w1 hw1 => RV.assign rfl) rfl ?_
        refine WH.take 13 rfl (by kernel_rfl) (by kernel_rfl) (by kernel_rfl) (⟨z4, z5⟩) (fun w1 hw1 => RV.assign rfl) rfl ?_
        refine WH.done (by kernel_rfl) ?_
        refine QF.seqNext ?_
        refine WC.ret ?_
        refine QF.thenRet ?_
        refine QF.doneC3 rfl rfl rfl rfl hxz.cellsAdd (Tryz.isAgg26 _) (Tryz.sizeOf26 _) ⟨Upd.noneE ((hUt3.drew).trans (hUz.mono (fun _ h => Nat.le_of_eq h.symm) hzz)) hTT, rfl, hne⟩
      | true =>
        refine WC.seq ?_
        refine WC.seq ?_
        refine WC.region ?_
        refine WL.v (RV.move rfl) rfl ?_
        refine WL.v (RV.move rfl) rfl ?_
        refine WL.v (RV.lenS Tryz.underlying9 rfl) rfl ?_
        refine WL.v (RV.leq rfl rfl) rfl ?_
        refine WL.v (RV.move rfl) rfl ?_
        refine WL.know (d := 21) rfl (b' := true) (hfl) ?_
        refine WL.on rfl ?_
        refine WL.v (RV.move rfl) rfl ?_
        refine WL.on rfl ?_
        refine WL.v (RV.nilPtr rfl) rfl ?_
        refine WL.on rfl ?_
        refine WL.v (RV.fieldAddr 0 Tryz.underlying56 rfl rfl (Tryz.sizeOf53 _) (by decide) rfl) rfl ?_
        refine WL.on rfl ?_
        refine WL.v (RV.fieldAddr 5 Tryz.underlying53 rfl rfl (Tryz.sizeOf27 _) (by decide) rfl) rfl ?_
        refine WL.on rfl ?_
        refine WL.v (RV.load (by first | exact q5) (Tryz.isAgg27 _) rfl) rfl ?_
        refine WL.on rfl ?_
        refine WL.v (RV.eql rfl rfl) rfl ?_
        refine WL.v (RV.pickT rfl rfl) rfl ?_
        refine WL.nil ?_
        refine QF.seqNext ?_
        refine WC.condF rfl (hne2) ?_
        refine WC.exit ?_
        refine QF.thenExit ?_
        refine QF.thenExit ?_
        refine QF.blockHit ?_
        refine QF.seqNext ?_
        refine WC.seq ?_
        refine WC.seq ?_
        refine WC.region ?_
        refine WL.v (RV.move rfl) rfl ?_
        refine WL.v (RV.nilPtr rfl) rfl ?_
        refine WL.v (RV.fieldAddr 0 Tryz.underlying56 rfl rfl (Tryz.sizeOf53 _) (by decide) rfl) rfl ?_
        refine WL.v (RV.fieldAddr 5 Tryz.underlying53 rfl rfl (Tryz.sizeOf27 _) (by decide) rfl) rfl ?_
        refine WL.v (RV.load (by first | exact q5) (Tryz.isAgg27 _) rfl) rfl ?_
        refine WL.v (RV.neq rfl rfl) rfl ?_
        refine WL.nil ?_
        refine QF.seqNext ?_
        refine WC.condT rfl (hne3) ?_
        have d4 : w3.drew.cell? ⟨rb, 4, none⟩ = some (.int .i64 (p : Nat)) := q4
        have d5 : w3.drew.cell? ⟨rb, 5, none⟩ = some (.int .i64 e) := q5
        refine WC.seq ?_
        refine WC.draw (fun W => W.cell? ⟨rb, 4, none⟩ = some (.int .i64 (p : Nat)) ∧ W.cell? ⟨rb, 5, none⟩ = some (.int .i64 e)) 14 rfl (by kernel_rfl) ?_
        refine WH.take 0 rfl (by kernel_rfl) (by kernel_rfl) (by kernel_rfl) ⟨d4, d5⟩ (fun w1 hw1 => RV.buildF pl26 (Tryz.zeroValue26 _) rfl (by first | rfl | (simp only [List.all_cons, List.all_nil]; rfl)) rfl rfl) rfl ?_
        refine WH.take 1 rfl (by kernel_rfl) (by kernel_rfl) (by kernel_rfl) ⟨d4, d5⟩ (fun w1 hw1 => RV.move rfl) rfl ?_
        refine WH.take 2 rfl (by kernel_rfl) (by kernel_rfl) (by kernel_rfl) ⟨d4, d5⟩ (fun w1 hw1 => RV.nilPtr rfl) rfl ?_
        refine WH.take 3 rfl (by kernel_rfl) (by kernel_rfl) (by kernel_rfl) ⟨d4, d5⟩ (fun w1 hw1 => RV.fieldAddr 0 Tryz.underlying56 rfl rfl (Tryz.sizeOf53 _) (by decide) rfl) rfl ?_
        refine WH.take 4 rfl (by kernel_rfl) (by kernel_rfl) (by kernel_rfl) ⟨d4, d5⟩ (fun w1 hw1 => RV.fieldAddr 4 Tryz.underlying53 rfl rfl (Tryz.sizeOf3 _) (by decide) rfl) rfl ?_
        refine WH.take 5 rfl (by kernel_rfl) (by kernel_rfl) (by kernel_rfl) ⟨d4, d5⟩ (fun w1 hw1 => RV.load (by first | exact hw1.1 | exact hw1.2) (Tryz.isAgg3 _) rfl) rfl ?_
        refine WH.take 6 rfl (by kernel_rfl) (by kernel_rfl) (by kernel_rfl) ⟨d4, d5⟩ (fun w1 hw1 => RV.move rfl) rfl ?_
        refine WH.take 7 rfl (by kernel_rfl) (by kernel_rfl) (by kernel_rfl) ⟨d4, d5⟩ (fun w1 hw1 => RV.nilPtr rfl) rfl ?_
        refine WH.take 8 rfl (by kernel_rfl) (by kernel_rfl) (by kernel_rfl) ⟨d4, d5⟩ (fun w1 hw1 => RV.fieldAddr 0 Tryz.underlying56 rfl rfl (Tryz.sizeOf53 _) (by decide) rfl) rfl ?_
        refine WH.take 9 rfl (by kernel_rfl) (by kernel_rfl) (by kernel_rfl) ⟨d4, d5⟩ (fun w1 hw1 => RV.fieldAddr 5 Tryz.underlying53 rfl rfl (Tryz.sizeOf27 _) (by decide) rfl) rfl ?_
        refine WH.take 10 rfl (by kernel_rfl) (by kernel_rfl) (by kernel_rfl) ⟨d4, d5⟩ (fun w1 hw1 => RV.load (by first | exact hw1.1 | exact hw1.2) (Tryz.isAgg27 _) rfl) rfl ?_
        refine WH.one 11 (by kernel_rfl) rfl ?_
        refine WL.storeAgg (us := #[.slice none 0 0, .slice none 0 0, .slice none 0 0]) hx3.drew rfl (Tryz.sizeOf26 _) rfl rfl rfl rfl ?_
        have hxz := BlkO.setRow (us := #[.slice none 0 0, .slice none 0 0, .slice none 0 0]) hx3.drew
        have hUz : Upd (fun k => k = T) O1 w3.drew O1 (w3.drew.setRow xb #[.slice none 0 0, .slice none 0 0, .slice none 0 0]) := Upd.setRow (by omega) hx3.tag rfl
        have hbz := (BlkO.drew hb3).upd hUz (by omega) (by omega)
        have z5 := hbz.q5
        rw [hee] at z5
        have z4 := hbz.q4
        rw [hbad] at z4
        refine WL.nil ?_
        refine QF.after (⟨z4, z5⟩) ?_
        refine WH.take 12 rfl (by kernel_rfl) (by kernel_rfl) (by kernel_rfl) (⟨z4, z5⟩) (fun w1 hw1 => RV.assign rfl) rfl ?_
        refine WH.take 13 rfl (by kernel_rfl) (by kernel_rfl) (by kernel_rfl) (⟨z4, z5⟩) (fun w1 hw1 => RV.assign rfl) rfl ?_
        refine WH.done (by kernel_rfl) ?_
        refine QF.seqNext ?_
        refine WC.ret ?_
        refine QF.thenRet ?_
        refine QF.doneC3 rfl rfl rfl rfl hxz.cellsAdd (Tryz.isAgg26 _) (Tryz.sizeOf26 _) ⟨Upd.noneE ((hUt3.drew).trans (hUz.mono (fun _ h => Nat.le_of_eq h.symm) hzz)) hTT, rfl, hne⟩
end Go.Proofs.YtmohcfjopaccdaaGreatDoor
