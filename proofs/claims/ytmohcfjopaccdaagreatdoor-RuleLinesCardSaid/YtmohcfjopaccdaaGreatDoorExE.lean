/- Package expr, walked: one, brackets, atom, often. -/
import Derived.Test.YtmohcfjopaccdaaGreatDoorExM
namespace Go.Proofs.YtmohcfjopaccdaaGreatDoor
open Go.VL Go.Proofs
set_option maxRecDepth 10000
variable {kv : Value} {kn : Kn}

theorem byteBne (b : UInt8) (k : Nat) (hk : k < 256) (h : ¬ b = UInt8.ofNat k) : ((b.toNat : Int) != (k : Int)) = true := by rw [bne, byteEq b k hk, decide_eq_false h]; rfl
theorem byteBeq (b : UInt8) (k : Nat) (hk : k < 256) (h : ¬ b = UInt8.ofNat k) : ((b.toNat : Int) == (k : Int)) = false := by rw [byteEq b k hk, decide_eq_false h]
theorem PostE.one {O : Nat → Nat} {w : World} {j rb : Nat} {l : List UInt8} {op : Int} {x : N3} {M : PR} (h : PostE kv O w j rb l op x M) : x.2.2.oneCell' = true := by
  cases M with
  | ok t r => exact h.2.one
  | bad p e => exact h.1
theorem PostE.upd {S : Nat → Prop} {O O' : Nat → Nat} {w w' : World} {j rb : Nat} {l : List UInt8} {op : Int} {x : N3} {M : PR} (h : PostE kv O w j rb l op x M) (u : Upd S O w O' w') (hj : j ≠ 0) (hS : ¬ S j) : PostE kv O' w' j rb l op x M := by
  cases M with
  | ok t r => exact ⟨BlkO.upd h.1 u hj hS, h.2.upd u⟩
  | bad p e => obtain ⟨h1, a, o, h2, h3⟩ := h; exact ⟨h1, a, o, BlkO.upd h2 u hj hS, h3⟩
theorem PostE.low {S : Nat → Prop} {O O' : Nat → Nat} {w w0 w' : World} {j rb : Nat} {l : List UInt8} {op : Int} {x : N3} {M : PR} (h : PostE kv O' w' j rb l op x M) (u : Upd S O w O' w0) (hrb : O rb = j) : PostE kv O w' j rb l op x M := by
  cases M with
  | ok t r => exact ⟨BlkO.fgt h.1 hrb, h.2.low u⟩
  | bad p e => obtain ⟨h1, a, o, h2, h3⟩ := h; exact ⟨h1, a, o, BlkO.fgt h2 hrb, h3⟩
theorem one_ret (k : Int) (xs : List N3) (lv : Value) (w : World) (h : Sl encN 3 w lv xs) (h1 : ∀ i, i < xs.length → (nth xs i).2.2.oneCell' = true) :
    Ret Tryz.prog 102 [.int .i64 k, lv] w fun v w' => v = nv (if xs.length = 1 then nth xs 0 else (k, 0, lv)) ∧ Ext w w' := by
  refine Ret.enter Tryz.func102 Tryz.ntmps102 rfl rfl ?_
  refine WC.seq ?_
  refine WC.region ?_
  refine WL.allocO (Rng.start w) 1 (by omega) (Tryz.zeroValue48 _) rfl ?_
  intro xb w1 O1 hx1 hU1 hR1 hE1
  have hs1 := h.ext hE1
  refine WL.nil ?_
  refine QF.seqNext ?_
  refine WC.seq ?_
  refine WC.seq ?_
  refine WC.region ?_
  refine WL.v (RV.move rfl) rfl ?_
  refine WL.v (RV.len (by first | exact hs1) Tryz.underlying46 rfl) rfl ?_
  refine WL.v (RV.eql rfl rfl) rfl ?_
  refine WL.nil ?_
  refine QF.seqNext ?_
  by_cases hl : xs.length = 1
  · have hxo := h1 0 (by omega)
    rw [if_pos hl]
    refine WC.condT rfl ((by rw [hl]; rfl)) ?_
    refine WC.seq ?_
    refine WC.region ?_
    refine WL.v (RV.move rfl) rfl ?_
    refine WL.v (RV.indexAddr hs1 Tryz.underlying46 (Tryz.sizeOf48 _) rfl rfl 0 rfl (by omega)) rfl ?_
    refine WL.v (RV.loadAgg (us := encN (nth xs 0)) (fun j u hu => hs1.cell (by omega) hu) (Tryz.isAgg48 _) (Tryz.sizeOf48 _) rfl) rfl ?_
    refine WL.storeAgg (us := #[.int .i64 (nth xs 0).1, .int .i64 (nth xs 0).2.1, (nth xs 0).2.2]) hx1 rfl (Tryz.sizeOf48 _) (nv_ok hxo) rfl rfl rfl ?_
    have hx2 := hx1.setRow (us := #[.int .i64 (nth xs 0).1, .int .i64 (nth xs 0).2.1, (nth xs 0).2.2])
    refine WL.nil ?_
    refine QF.seqNext ?_
    refine WC.ret ?_
    refine QF.thenRet ?_
    refine QF.doneC1 rfl rfl (hx2.cellsAdd) (Tryz.isAgg48 _) (Tryz.sizeOf48 _) (⟨rfl, (hU1.trans (Upd.setRow (by decide) hx1.tag rfl)).ext⟩)
  · rw [if_neg hl]
    refine WC.condF rfl ((by simp; omega)) ?_
    refine WC.skip ?_
    refine QF.seqNext ?_
    refine WC.seq ?_
    refine WC.region ?_
    refine WL.v (RV.move rfl) rfl ?_
    refine WL.v (RV.move rfl) rfl ?_
    refine WL.v (RV.buildF pl48 (Tryz.zeroValue48 _) rfl (by first | rfl | (simp only [List.all_cons, h.one]; rfl)) rfl rfl) rfl ?_
    refine WL.storeAgg (us := #[.int .i64 k, .int .i64 0, lv]) hx1 rfl (Tryz.sizeOf48 _) (nv_ok (x := (k, 0, lv)) h.one) rfl rfl rfl ?_
    have hx2 := hx1.setRow (us := #[.int .i64 k, .int .i64 0, lv])
    refine WL.nil ?_
    refine QF.seqNext ?_
    refine WC.ret ?_
    refine QF.doneC1 rfl rfl (hx2.cellsAdd) (Tryz.isAgg48 _) (Tryz.sizeOf48 _) (⟨rfl, (hU1.trans (Upd.setRow (by decide) hx1.tag rfl)).ext⟩)
def AltsOK (kv : Value) (kn : Kn) (al : Option (List UInt8 → PR)) (op : Int) : Prop :=
  match al with
  | none => op = 20
  | some f => op < 20 ∧ Reads kv kn 81 [] (op + 1) f (fun _ => True)
theorem brackets_ret (al : Option (List UInt8 → PR)) (op : Int) (hop : 0 ≤ op ∧ op ≤ 20) (ha : AltsOK kv kn al op) (hg : GoodF al) : Reads kv kn 143 [] op (bracketsM al) (fun r => r.headD 0 ≠ 0) := by
  intro B O j rb l r w hR hj hr hl hpre h hkn
  obtain ⟨T, hT0, hT⟩ := hR.bound
  have hjT : j < T := by rw [← h.tag]; exact hT rb
  have hrl := hr.length_le
  refine Ret.enter Tryz.func143 Tryz.ntmps143 rfl rfl ?_
  refine WC.seq ?_
  refine WC.region ?_
  refine WL.allocO hR T (by omega) (Tryz.zeroValue48 _) rfl ?_
  intro xb w1 O1 hx1 hU1 hR1 hE1
  have hb1 := h.upd hU1 hj (by omega)
  have hUt1 := hU1.pT hj hT0 (Nat.le_refl _)
  obtain ⟨ht1, ht2⟩ := tail_good hpre
  have hrt := ht1.trans hr
  refine WL.nil ?_
  refine QF.seqNext ?_
  refine WC.seq ?_
  refine WC.seq ?_
  refine WC.region ?_
  refine WL.v (RV.move rfl) rfl ?_
  refine WL.v (RV.nilPtr rfl) rfl ?_
  refine WL.v (RV.fieldAddr 3 Tryz.underlying125 rfl rfl (Tryz.sizeOf3 _) (by decide) rfl) rfl ?_
  refine WL.v (RV.load (by first | exact hb1.r0 | exact hb1.r1 | exact hb1.r2 | exact hb1.r3 | exact hb1.r4 | exact hb1.r5) (Tryz.isAgg3 _) rfl) rfl ?_
  refine WL.v (RV.eql rfl rfl) rfl ?_
  refine WL.nil ?_
  refine QF.seqNext ?_
  cases al with
  | none =>
    have hM : bracketsM none r = .bad r.length 6 := rfl
    replace ha : op = 20 := ha
    refine WC.condT rfl ((by rw [ha]; rfl)) ?_
    refine WC.seq ?_
    refine WC.region ?_
    refine WL.v (RV.move rfl) rfl ?_
    refine WL.v (RV.move rfl) rfl ?_
    refine WL.v (RV.nilPtr rfl) rfl ?_
    refine WL.v (RV.fieldAddr 0 Tryz.underlying125 rfl rfl (Tryz.sizeOf123 _) (by decide) rfl) rfl ?_
    refine WL.v (RV.fieldAddr 1 Tryz.underlying123 rfl rfl (Tryz.sizeOf3 _) (by decide) rfl) rfl ?_
    refine WL.v (RV.load (by first | exact hb1.r0 | exact hb1.r1 | exact hb1.r2 | exact hb1.r3 | exact hb1.r4 | exact hb1.r5) (Tryz.isAgg3 _) rfl) rfl ?_
    refine WL.call Tryz.call83 rfl (fail_ret _ O1 w1 j rb l _ _ 0 ((l.length : Int) - (r.length : Int)) 6 hj hR1 hb1) rfl ?_
    rintro v wf ⟨rfl, hbf, hUf⟩
    have hxf := hx1.upd hUf (by omega) (by omega)
    refine WL.storeAgg (us := #[.int .i64 0, .int .i64 0, .slice none 0 0]) hxf rfl (Tryz.sizeOf48 _) rfl rfl rfl rfl ?_
    have hxg := hxf.setRow (us := #[.int .i64 0, .int .i64 0, .slice none 0 0])
    have hUg : Upd (fun k => k = T) O1 wf O1 (wf.setRow xb #[.int .i64 0, .int .i64 0, .slice none 0 0]) := Upd.setRow (by omega) hxf.tag rfl
    have hbg := hbf.upd hUg hj (by omega)
    refine WL.nil ?_
    refine QF.seqNext ?_
    refine WC.ret ?_
    refine QF.thenRet ?_
    refine QF.doneC1 rfl rfl (hxg.cellsAdd) (Tryz.isAgg48 _) (Tryz.sizeOf48 _) (⟨(0, 0, .slice none 0 0), rfl, ((hUt1.trans (hUf.pj hT0)).trans (hUg.pT hj hT0 (Nat.le_refl _))).priv hT hj, ?_⟩)
    rw [hM]
    exact ⟨rfl, _, op, hbg.fgt h.tag, by omega, by omega, by omega, by omega⟩
  | some f =>
    obtain ⟨ha1, ha2⟩ := ha
    have hgf := hg f rfl r.tail
    refine WC.condF rfl ((by simp; omega)) ?_
    refine WC.skip ?_
    refine QF.seqNext ?_
    refine WC.seq ?_
    refine WC.region ?_
    refine WL.v (RV.move rfl) rfl ?_
    refine WL.v (RV.nilPtr rfl) rfl ?_
    refine WL.v (RV.fieldAddr 0 Tryz.underlying125 rfl rfl (Tryz.sizeOf123 _) (by decide) rfl) rfl ?_
    refine WL.v (RV.fieldAddr 1 Tryz.underlying123 rfl rfl (Tryz.sizeOf3 _) (by decide) rfl) rfl ?_
    refine WL.v (RV.load (by first | exact hb1.r0 | exact hb1.r1 | exact hb1.r2 | exact hb1.r3 | exact hb1.r4 | exact hb1.r5) (Tryz.isAgg3 _) rfl) rfl ?_
    refine WL.v (RV.add rfl rfl (Fit.i64 (by omega))) rfl ?_
    refine WL.v (RV.nilPtr rfl) rfl ?_
    refine WL.v (RV.fieldAddr 0 Tryz.underlying125 rfl rfl (Tryz.sizeOf123 _) (by decide) rfl) rfl ?_
    refine WL.v (RV.fieldAddr 1 Tryz.underlying123 rfl rfl (Tryz.sizeOf3 _) (by decide) rfl) rfl ?_
    refine WL.storeBlk (j := 1) hb1 rfl (Tryz.sizeOf3 _) rfl rfl rfl rfl ?_
    rw [show ((l.length : Int) - (r.length : Int)) + 1 = (l.length : Int) - (r.tail.length : Int) from by omega]
    have hb2 := BlkO.rAt hb1 ((l.length : Int) - (r.tail.length : Int))
    have hU2 : Upd (fun k => k = j) O1 w1 O1 (World.setCell w1 ⟨rb, 1, none⟩ (.int .i64 ((l.length : Int) - (r.tail.length : Int)))) := Upd.set (fun e => hj e.symm) (BlkO.tag hb1) rfl
    have hx2 := hx1.upd hU2 (by omega) (by omega)
    have hR2 := hR1.upd hU2
    generalize World.setCell w1 ⟨rb, 1, none⟩ (.int .i64 ((l.length : Int) - (r.tail.length : Int))) = w2 at *
    refine WL.nil ?_
    refine QF.seqNext ?_
    refine WC.seq ?_
    refine WC.region ?_
    refine WL.v (RV.move rfl) rfl ?_
    refine WL.v (RV.nilPtr rfl) rfl ?_
    refine WL.v (RV.fieldAddr 3 Tryz.underlying125 rfl rfl (Tryz.sizeOf3 _) (by decide) rfl) rfl ?_
    refine WL.v (RV.load (by first | exact hb2.r0 | exact hb2.r1 | exact hb2.r2 | exact hb2.r3 | exact hb2.r4 | exact hb2.r5) (Tryz.isAgg3 _) rfl) rfl ?_
    refine WL.v (RV.add rfl rfl (Fit.i64 (by omega))) rfl ?_
    refine WL.v (RV.nilPtr rfl) rfl ?_
    refine WL.v (RV.fieldAddr 3 Tryz.underlying125 rfl rfl (Tryz.sizeOf3 _) (by decide) rfl) rfl ?_
    refine WL.storeBlk (j := 3) hb2 rfl (Tryz.sizeOf3 _) rfl rfl rfl rfl ?_
    have hb3 := hb2.rOp (op + 1)
    have hU3 : Upd (fun k => k = j) O1 w2 O1 (w2.setCell ⟨rb, 3, none⟩ (.int .i64 (op + 1))) := Upd.set (fun e => hj e.symm) hb2.tag rfl
    have hx3 := hx2.upd hU3 (by omega) (by omega)
    have hR3 := hR2.upd hU3
    have hUt3 := (hUt1.trans (hU2.pj hT0)).trans (hU3.pj hT0)
    generalize w2.setCell ⟨rb, 3, none⟩ (.int .i64 (op + 1)) = w3 at *
    refine WL.nil ?_
    refine QF.seqNext ?_
    refine WC.seq ?_
    refine WC.region ?_
    refine WL.v (RV.move rfl) rfl ?_
    refine WL.call Tryz.call81 rfl (ha2 B O1 j rb l r.tail w3 hR3 hj hrt hl trivial hb3 (hkn.upd hUt3)) rfl ?_
    rintro v w4 ⟨x, rfl, hU4, hP4⟩
    have hxo := hP4.one
    have hx4 := hx3.upd hU4 (by omega) (by omega)
    have hR4 := hR3.upd hU4
    have hUt4 := hUt3.trans (hU4.pj hT0)
    refine WL.allocO hR4 (T + 1) (by omega) (Tryz.zeroValue48 _) rfl ?_
    intro nb w5 O5 hn5 hU5 hR5 hE5
    refine WL.storeAgg (us := #[.int .i64 x.1, .int .i64 x.2.1, x.2.2]) hn5 rfl (Tryz.sizeOf48 _) (nv_ok hxo) rfl rfl rfl ?_
    have hn6 := hn5.setRow (us := #[.int .i64 x.1, .int .i64 x.2.1, x.2.2])
    have hU6 : Upd (fun k => k = T + 1) O5 w5 O5 (w5.setRow nb #[.int .i64 x.1, .int .i64 x.2.1, x.2.2]) := Upd.setRow (by omega) hn5.tag rfl
    have hU56 := hU5.trans hU6
    have hx6 := hx4.upd hU56 (by omega) (by omega)
    have hP6 := hP4.upd hU56 hj (by omega)
    have hR6 := hR4.upd hU56
    have hUt6 := hUt4.trans (hU56.pT hj hT0 (Nat.le_succ _))
    generalize w5.setRow nb #[.int .i64 x.1, .int .i64 x.2.1, x.2.2] = w6 at *
    cases hf : f r.tail with
    | bad p e =>
      rw [hf] at hgf hP6
      have hM : bracketsM (some f) r = .bad p e := by unfold bracketsM; dsimp only; rw [hf]
      obtain ⟨g1, a, op', hb6, g2, g3, g4, g5⟩ := hP6
      replace hb6 : BlkO O5 w6 j rb (rdr kv l a op' ((l.length : Int) - (p : Int)) e) 125 := hb6
      refine WL.nil ?_
      refine QF.seqNext ?_
      refine WC.seq ?_
      refine WC.seq ?_
      refine WC.region ?_
      refine WL.v (RV.move rfl) rfl ?_
      refine WL.v (RV.nilPtr rfl) rfl ?_
      refine WL.v (RV.fieldAddr 5 Tryz.underlying125 rfl rfl (Tryz.sizeOf27 _) (by decide) rfl) rfl ?_
      refine WL.v (RV.load (by first | exact hb6.r0 | exact hb6.r1 | exact hb6.r2 | exact hb6.r3 | exact hb6.r4 | exact hb6.r5) (Tryz.isAgg27 _) rfl) rfl ?_
      refine WL.v (RV.eql rfl rfl) rfl ?_
      refine WL.v (RV.move rfl) rfl ?_
      refine WL.know (d := 39) rfl (b' := false) ((by simpa using hgf.2)) ?_
      refine WL.off rfl rfl rfl ?_
      refine WL.off rfl rfl rfl ?_
      refine WL.off rfl rfl rfl ?_
      refine WL.off rfl rfl rfl ?_
      refine WL.off rfl rfl rfl ?_
      refine WL.v (RV.pickF rfl rfl) rfl ?_
      refine WL.nil ?_
      refine QF.seqNext ?_
      refine WC.condF rfl rfl ?_
      refine WC.skip ?_
      refine QF.seqNext ?_
      refine WC.seq ?_
      refine WC.region ?_
      refine WL.v (RV.move rfl) rfl ?_
      refine WL.v (RV.nilPtr rfl) rfl ?_
      refine WL.v (RV.fieldAddr 0 Tryz.underlying125 rfl rfl (Tryz.sizeOf123 _) (by decide) rfl) rfl ?_
      refine WL.v (RV.fieldAddr 1 Tryz.underlying123 rfl rfl (Tryz.sizeOf3 _) (by decide) rfl) rfl ?_
      refine WL.v (RV.load (by first | exact hb6.r0 | exact hb6.r1 | exact hb6.r2 | exact hb6.r3 | exact hb6.r4 | exact hb6.r5) (Tryz.isAgg3 _) rfl) rfl ?_
      refine WL.v (RV.add rfl rfl (Fit.i64 (by omega))) rfl ?_
      refine WL.v (RV.nilPtr rfl) rfl ?_
      refine WL.v (RV.fieldAddr 0 Tryz.underlying125 rfl rfl (Tryz.sizeOf123 _) (by decide) rfl) rfl ?_
      refine WL.v (RV.fieldAddr 1 Tryz.underlying123 rfl rfl (Tryz.sizeOf3 _) (by decide) rfl) rfl ?_
      refine WL.storeBlk (j := 1) hb6 rfl (Tryz.sizeOf3 _) rfl rfl rfl rfl ?_
      have hb7 := hb6.rAt (a + 1)
      have hU7 : Upd (fun k => k = j) O5 w6 O5 (w6.setCell ⟨rb, 1, none⟩ (.int .i64 (a + 1))) := Upd.set (fun e => hj e.symm) hb6.tag rfl
      have hx7 := hx6.upd hU7 (by omega) (by omega)
      have hn7 := hn6.upd hU7 (by omega) (by omega)
      generalize w6.setCell ⟨rb, 1, none⟩ (.int .i64 (a + 1)) = w7 at *
      refine WL.nil ?_
      refine QF.seqNext ?_
      refine WC.seq ?_
      refine WC.region ?_
      refine WL.v (RV.move rfl) rfl ?_
      refine WL.v (RV.nilPtr rfl) rfl ?_
      refine WL.v (RV.fieldAddr 3 Tryz.underlying125 rfl rfl (Tryz.sizeOf3 _) (by decide) rfl) rfl ?_
      refine WL.v (RV.load (by first | exact hb7.r0 | exact hb7.r1 | exact hb7.r2 | exact hb7.r3 | exact hb7.r4 | exact hb7.r5) (Tryz.isAgg3 _) rfl) rfl ?_
      refine WL.v (RV.sub rfl rfl (Fit.i64 (by omega))) rfl ?_
      refine WL.v (RV.nilPtr rfl) rfl ?_
      refine WL.v (RV.fieldAddr 3 Tryz.underlying125 rfl rfl (Tryz.sizeOf3 _) (by decide) rfl) rfl ?_
      refine WL.storeBlk (j := 3) hb7 rfl (Tryz.sizeOf3 _) rfl rfl rfl rfl ?_
      have hb8 := hb7.rOp (op' - 1)
      have hU8 : Upd (fun k => k = j) O5 w7 O5 (w7.setCell ⟨rb, 3, none⟩ (.int .i64 (op' - 1))) := Upd.set (fun e => hj e.symm) hb7.tag rfl
      have hx8 := hx7.upd hU8 (by omega) (by omega)
      have hn8 := hn7.upd hU8 (by omega) (by omega)
      generalize w7.setCell ⟨rb, 3, none⟩ (.int .i64 (op' - 1)) = w8 at *
      have hUt8 := (hUt6.trans (hU7.pj hT0)).trans (hU8.pj hT0)
      refine WL.nil ?_
      refine QF.seqNext ?_
      refine WC.seq ?_
      refine WC.region ?_
      refine WL.v (RV.loadAgg (us := encN x) hn8.cellsAdd (Tryz.isAgg48 _) (Tryz.sizeOf48 _) rfl) rfl ?_
      refine WL.storeAgg (us := #[.int .i64 x.1, .int .i64 x.2.1, x.2.2]) hx8 rfl (Tryz.sizeOf48 _) (nv_ok hxo) rfl rfl rfl ?_
      have hxd := BlkO.setRow (us := #[.int .i64 x.1, .int .i64 x.2.1, x.2.2]) hx8
      have hUd : Upd (fun k => k = T) O5 w8 O5 (World.setRow w8 xb #[.int .i64 x.1, .int .i64 x.2.1, x.2.2]) := Upd.setRow (by omega) (BlkO.tag hx8) rfl
      have hbd := hb8.upd hUd hj (by omega)
      have hUz := hUt8.trans (hUd.pT hj hT0 (Nat.le_refl _))
      refine WL.nil ?_
      refine QF.seqNext ?_
      refine WC.ret ?_
      refine QF.doneC1 rfl rfl (hxd.cellsAdd) (Tryz.isAgg48 _) (Tryz.sizeOf48 _) (⟨x, rfl, hUz.priv hT hj, ?_⟩)
      rw [hM]
      exact ⟨hxo, a + 1, op' - 1, hbd.fgt h.tag, by omega, by omega, by omega, by omega⟩
    | ok t r2 =>
      rw [hf] at hgf hP6
      obtain ⟨hb6, hn⟩ := hP6
      replace hb6 : BlkO O5 w6 j rb (rdr kv l ((l.length : Int) - (r2.length : Int)) (op + 1) 0 0) 125 := hb6
      have hr2 := hgf.1.trans hrt
      have hq2 := (skipB_suf r2).trans hr2
      have hq2l := hq2.length_le
      refine WL.nil ?_
      refine QF.seqNext ?_
      refine WC.seq ?_
      refine WC.seq ?_
      refine WC.region ?_
      refine WL.v (RV.move rfl) rfl ?_
      refine WL.v (RV.nilPtr rfl) rfl ?_
      refine WL.v (RV.fieldAddr 5 Tryz.underlying125 rfl rfl (Tryz.sizeOf27 _) (by decide) rfl) rfl ?_
      refine WL.v (RV.load (by first | exact hb6.r0 | exact hb6.r1 | exact hb6.r2 | exact hb6.r3 | exact hb6.r4 | exact hb6.r5) (Tryz.isAgg27 _) rfl) rfl ?_
      refine WL.v (RV.eql rfl rfl) rfl ?_
      refine WL.v (RV.move rfl) rfl ?_
      refine WL.know (d := 39) rfl (b' := true) (rfl) ?_
      refine WL.on rfl ?_
      refine WL.v (RV.move rfl) rfl ?_
      refine WL.on rfl ?_
      refine WL.v (RV.nilPtr rfl) rfl ?_
      refine WL.on rfl ?_
      refine WL.v (RV.fieldAddr 0 Tryz.underlying125 rfl rfl (Tryz.sizeOf123 _) (by decide) rfl) rfl ?_
      refine WL.on rfl ?_
      refine WL.call Tryz.call82 rfl (peek_ret O5 w6 j rb l r2 (op + 1) 0 0 hj hr2 (by omega) hb6) rfl ?_
      rintro v w7 ⟨rfl, hb7, hU7⟩
      have hx7 := hx6.upd hU7 (by omega) (by omega)
      have hn7 := hn6.upd hU7 (by omega) (by omega)
      have hR7 := hR6.upd hU7
      have hUt7 := hUt6.trans (hU7.pj hT0)
      have hnt7 := hn.upd hU7
      refine WL.on rfl ?_
      refine WL.v (RV.neq rfl rfl) rfl ?_
      refine WL.v (RV.pickT rfl rfl) rfl ?_
      refine WL.nil ?_
      refine QF.seqNext ?_
      by_cases hc : (skipB r2).headD 0 = 41
      · have hM : bracketsM (some f) r = .ok t (skipB r2).tail := by unfold bracketsM; dsimp only; rw [hf]; dsimp only; rw [if_pos hc]
        obtain ⟨g1, g2⟩ := tail_good (r := skipB r2) (by rw [hc]; decide)
        refine WC.condF rfl ((by rw [hc]; rfl)) ?_
        refine WC.skip ?_
        refine QF.seqNext ?_
        refine WC.seq ?_
        refine WC.region ?_
        refine WL.v (RV.move rfl) rfl ?_
        refine WL.v (RV.nilPtr rfl) rfl ?_
        refine WL.v (RV.fieldAddr 0 Tryz.underlying125 rfl rfl (Tryz.sizeOf123 _) (by decide) rfl) rfl ?_
        refine WL.v (RV.fieldAddr 1 Tryz.underlying123 rfl rfl (Tryz.sizeOf3 _) (by decide) rfl) rfl ?_
        refine WL.v (RV.load (by first | exact hb7.r0 | exact hb7.r1 | exact hb7.r2 | exact hb7.r3 | exact hb7.r4 | exact hb7.r5) (Tryz.isAgg3 _) rfl) rfl ?_
        refine WL.v (RV.add rfl rfl (Fit.i64 (by omega))) rfl ?_
        refine WL.v (RV.nilPtr rfl) rfl ?_
        refine WL.v (RV.fieldAddr 0 Tryz.underlying125 rfl rfl (Tryz.sizeOf123 _) (by decide) rfl) rfl ?_
        refine WL.v (RV.fieldAddr 1 Tryz.underlying123 rfl rfl (Tryz.sizeOf3 _) (by decide) rfl) rfl ?_
        refine WL.storeBlk (j := 1) hb7 rfl (Tryz.sizeOf3 _) rfl rfl rfl rfl ?_
        rw [show ((l.length : Int) - ((skipB r2).length : Int)) + 1 = (l.length : Int) - ((skipB r2).tail.length : Int) from by omega]
        have hb8 := BlkO.rAt hb7 ((l.length : Int) - ((skipB r2).tail.length : Int))
        have hU8 : Upd (fun k => k = j) O5 w7 O5 (World.setCell w7 ⟨rb, 1, none⟩ (.int .i64 ((l.length : Int) - ((skipB r2).tail.length : Int)))) := Upd.set (fun e => hj e.symm) (BlkO.tag hb7) rfl
        have hx8 := hx7.upd hU8 (by omega) (by omega)
        have hn8 := hn7.upd hU8 (by omega) (by omega)
        have hnt8 := hnt7.upd hU8
        generalize World.setCell w7 ⟨rb, 1, none⟩ (.int .i64 ((l.length : Int) - ((skipB r2).tail.length : Int))) = w8 at *
        refine WL.nil ?_
        refine QF.seqNext ?_
        refine WC.seq ?_
        refine WC.region ?_
        refine WL.v (RV.move rfl) rfl ?_
        refine WL.v (RV.nilPtr rfl) rfl ?_
        refine WL.v (RV.fieldAddr 3 Tryz.underlying125 rfl rfl (Tryz.sizeOf3 _) (by decide) rfl) rfl ?_
        refine WL.v (RV.load (by first | exact hb8.r0 | exact hb8.r1 | exact hb8.r2 | exact hb8.r3 | exact hb8.r4 | exact hb8.r5) (Tryz.isAgg3 _) rfl) rfl ?_
        refine WL.v (RV.sub rfl rfl (Fit.i64 (by omega))) rfl ?_
        refine WL.v (RV.nilPtr rfl) rfl ?_
        refine WL.v (RV.fieldAddr 3 Tryz.underlying125 rfl rfl (Tryz.sizeOf3 _) (by decide) rfl) rfl ?_
        refine WL.storeBlk (j := 3) hb8 rfl (Tryz.sizeOf3 _) rfl rfl rfl rfl ?_
        rw [show op + 1 - 1 = op from by omega]
        have hb9 := hb8.rOp op
        have hU9 : Upd (fun k => k = j) O5 w8 O5 (w8.setCell ⟨rb, 3, none⟩ (.int .i64 op)) := Upd.set (fun e => hj e.symm) hb8.tag rfl
        have hx9 := hx8.upd hU9 (by omega) (by omega)
        have hn9 := hn8.upd hU9 (by omega) (by omega)
        have hnt9 := hnt8.upd hU9
        generalize w8.setCell ⟨rb, 3, none⟩ (.int .i64 op) = w9 at *
        have hUt9 := (hUt7.trans (hU8.pj hT0)).trans (hU9.pj hT0)
        refine WL.nil ?_
        refine QF.seqNext ?_
        refine WC.seq ?_
        refine WC.region ?_
        refine WL.v (RV.loadAgg (us := encN x) hn9.cellsAdd (Tryz.isAgg48 _) (Tryz.sizeOf48 _) rfl) rfl ?_
        refine WL.storeAgg (us := #[.int .i64 x.1, .int .i64 x.2.1, x.2.2]) hx9 rfl (Tryz.sizeOf48 _) (nv_ok hxo) rfl rfl rfl ?_
        have hxd := BlkO.setRow (us := #[.int .i64 x.1, .int .i64 x.2.1, x.2.2]) hx9
        have hUd : Upd (fun k => k = T) O5 w9 O5 (World.setRow w9 xb #[.int .i64 x.1, .int .i64 x.2.1, x.2.2]) := Upd.setRow (by omega) (BlkO.tag hx9) rfl
        have hbd := hb9.upd hUd hj (by omega)
        have hUz := hUt9.trans (hUd.pT hj hT0 (Nat.le_refl _))
        refine WL.nil ?_
        refine QF.seqNext ?_
        refine WC.ret ?_
        refine QF.doneC1 rfl rfl (hxd.cellsAdd) (Tryz.isAgg48 _) (Tryz.sizeOf48 _) (⟨x, rfl, hUz.priv hT hj, ?_⟩)
        rw [hM]
        exact ⟨hbd.fgt h.tag, (hnt9.upd hUd).low hUz⟩
      · have hM : bracketsM (some f) r = .bad (skipB r2).length 4 := by unfold bracketsM; dsimp only; rw [hf]; dsimp only; rw [if_neg hc]
        refine WC.condT rfl ((byteBne _ 41 (by decide) hc)) ?_
        refine WC.seq ?_
        refine WC.region ?_
        refine WL.v (RV.move rfl) rfl ?_
        refine WL.v (RV.move rfl) rfl ?_
        refine WL.v (RV.nilPtr rfl) rfl ?_
        refine WL.v (RV.fieldAddr 0 Tryz.underlying125 rfl rfl (Tryz.sizeOf123 _) (by decide) rfl) rfl ?_
        refine WL.v (RV.fieldAddr 1 Tryz.underlying123 rfl rfl (Tryz.sizeOf3 _) (by decide) rfl) rfl ?_
        refine WL.v (RV.load (by first | exact hb7.r0 | exact hb7.r1 | exact hb7.r2 | exact hb7.r3 | exact hb7.r4 | exact hb7.r5) (Tryz.isAgg3 _) rfl) rfl ?_
        refine WL.call Tryz.call83 rfl (fail_ret _ O5 w7 j rb l _ _ 0 ((l.length : Int) - ((skipB r2).length : Int)) 4 hj hR7 hb7) rfl ?_
        rintro v wf ⟨rfl, hbf, hUf⟩
        have hxf := hx7.upd hUf (by omega) (by omega)
        refine WL.storeAgg (us := #[.int .i64 0, .int .i64 0, .slice none 0 0]) hxf rfl (Tryz.sizeOf48 _) rfl rfl rfl rfl ?_
        have hxg := hxf.setRow (us := #[.int .i64 0, .int .i64 0, .slice none 0 0])
        have hUg : Upd (fun k => k = T) O5 wf O5 (wf.setRow xb #[.int .i64 0, .int .i64 0, .slice none 0 0]) := Upd.setRow (by omega) hxf.tag rfl
        have hbg := hbf.upd hUg hj (by omega)
        refine WL.nil ?_
        refine QF.seqNext ?_
        refine WC.ret ?_
        refine QF.thenRet ?_
        refine QF.doneC1 rfl rfl (hxg.cellsAdd) (Tryz.isAgg48 _) (Tryz.sizeOf48 _) (⟨(0, 0, .slice none 0 0), rfl, ((hUt7.trans (hUf.pj hT0)).trans (hUg.pT hj hT0 (Nat.le_refl _))).priv hT hj, ?_⟩)
        rw [hM]
        exact ⟨rfl, _, op + 1, hbg.fgt h.tag, by omega, by omega, by omega, by omega⟩
theorem atom_ret (al : Option (List UInt8 → PR)) (op : Int) (hop : 0 ≤ op ∧ op ≤ 20) (ha : AltsOK kv kn al op) (hg : GoodF al) : Reads kv kn 136 [] op (atomK kn al) (fun _ => True) := by
  intro B O j rb l r w hR hj hr hl hpre h hkn
  obtain ⟨T, hT0, hT⟩ := hR.bound
  have hjT : j < T := by rw [← h.tag]; exact hT rb
  have hrl := hr.length_le
  refine Ret.enter Tryz.func136 Tryz.ntmps136 rfl rfl ?_
  refine WC.seq ?_
  refine WC.region ?_
  refine WL.allocO hR T (by omega) (Tryz.zeroValue48 _) rfl ?_
  intro xb w1 O1 hx1 hU1 hR1 hE1
  have hb1 := h.upd hU1 hj (by omega)
  have hUt1 := hU1.pT hj hT0 (Nat.le_refl _)
  have hq := (skipB_suf r).trans hr
  have hql := hq.length_le
  refine WL.nil ?_
  refine QF.seqNext ?_
  refine WC.seq ?_
  refine WC.region ?_
  refine WL.v (RV.move rfl) rfl ?_
  refine WL.v (RV.nilPtr rfl) rfl ?_
  refine WL.v (RV.fieldAddr 0 Tryz.underlying125 rfl rfl (Tryz.sizeOf123 _) (by decide) rfl) rfl ?_
  refine WL.call Tryz.call82 rfl (peek_ret O1 w1 j rb l r op 0 0 hj hr (by omega) hb1) rfl ?_
  rintro v w2 ⟨rfl, hb2, hU2⟩
  have hx2 := hx1.upd hU2 (by omega) (by omega)
  have hR2 := hR1.upd hU2
  have hUt2 := hUt1.trans (hU2.pj hT0)
  refine WL.v (RV.assign rfl) rfl ?_
  refine WL.nil ?_
  refine QF.seqNext ?_
  refine WC.seq ?_
  refine WC.block ?_
  refine WC.seq ?_
  refine WC.region ?_
  refine WL.v (RV.move rfl) rfl ?_
  refine WL.call Tryz.call137 rfl (letter_ret ((skipB r).headD 0) w2) rfl ?_
  rintro v w9 ⟨rfl, hw9⟩
  rw [hw9]
  clear hw9 w9
  refine WL.v (RV.assign rfl) rfl ?_
  refine WL.nil ?_
  refine QF.seqNext ?_
  by_cases h1 : letterB ((skipB r).headD 0) = true
  · have hM : atomK kn al r = namedK kn (skipB r) := by unfold atomK; rw [if_pos h1]
    rw [hM]
    refine WC.condT rfl (h1) ?_
    refine WC.seq ?_
    refine WC.region ?_
    refine WL.v (RV.move rfl) rfl ?_
    refine WL.call Tryz.call141 rfl (named_ret op hop B O1 j rb l (skipB r) w2 hR2 hj hq hl h1 hb2 (hkn.upd hUt2)) rfl ?_
    rintro v wc ⟨x, rfl, hUc, hPc⟩
    have hxo := hPc.one
    have hxc := BlkO.upd hx2 hUc (by omega) (by omega)
    refine WL.storeAgg (us := #[.int .i64 x.1, .int .i64 x.2.1, x.2.2]) hxc rfl (Tryz.sizeOf48 _) (nv_ok hxo) rfl rfl rfl ?_
    have hxd := BlkO.setRow (us := #[.int .i64 x.1, .int .i64 x.2.1, x.2.2]) hxc
    have hUd : Upd (fun k => k = T) O1 wc O1 (World.setRow wc xb #[.int .i64 x.1, .int .i64 x.2.1, x.2.2]) := Upd.setRow (by omega) (BlkO.tag hxc) rfl
    have hUz := (hUt2.trans (hUc.pj hT0)).trans (hUd.pT hj hT0 (Nat.le_refl _))
    refine WL.nil ?_
    refine QF.seqNext ?_
    refine WC.ret ?_
    refine QF.blockRet ?_
    refine QF.thenRet ?_
    refine QF.doneC1 rfl rfl (hxd.cellsAdd) (Tryz.isAgg48 _) (Tryz.sizeOf48 _) (⟨x, rfl, hUz.priv hT hj, (hPc.upd hUd hj (by omega)).low hUz h.tag⟩)
  · skip
    refine WC.condF rfl ((by simpa using h1)) ?_
    refine WC.seq ?_
    refine WC.region ?_
    refine WL.v (RV.move rfl) rfl ?_
    refine WL.v (RV.eql rfl rfl) rfl ?_
    refine WL.v (RV.assign rfl) rfl ?_
    refine WL.nil ?_
    refine QF.seqNext ?_
    by_cases h2 : (skipB r).headD 0 = 126
    · have hM : atomK kn al r = classM 2 (skipB r).tail := by unfold atomK; rw [if_neg h1, if_pos h2]
      obtain ⟨k1, k2⟩ := tail_good (r := skipB r) (by rw [h2]; decide)
      rw [hM]
      refine WC.condT rfl ((by rw [h2]; rfl)) ?_
      refine WC.seq ?_
      refine WC.region ?_
      refine WL.v (RV.move rfl) rfl ?_
      refine WL.v (RV.nilPtr rfl) rfl ?_
      refine WL.v (RV.fieldAddr 0 Tryz.underlying125 rfl rfl (Tryz.sizeOf123 _) (by decide) rfl) rfl ?_
      refine WL.v (RV.fieldAddr 1 Tryz.underlying123 rfl rfl (Tryz.sizeOf3 _) (by decide) rfl) rfl ?_
      refine WL.v (RV.load (by first | exact hb2.r0 | exact hb2.r1 | exact hb2.r2 | exact hb2.r3 | exact hb2.r4 | exact hb2.r5) (Tryz.isAgg3 _) rfl) rfl ?_
      refine WL.v (RV.add rfl rfl (Fit.i64 (by omega))) rfl ?_
      refine WL.v (RV.nilPtr rfl) rfl ?_
      refine WL.v (RV.fieldAddr 0 Tryz.underlying125 rfl rfl (Tryz.sizeOf123 _) (by decide) rfl) rfl ?_
      refine WL.v (RV.fieldAddr 1 Tryz.underlying123 rfl rfl (Tryz.sizeOf3 _) (by decide) rfl) rfl ?_
      refine WL.storeBlk (j := 1) hb2 rfl (Tryz.sizeOf3 _) rfl rfl rfl rfl ?_
      rw [show ((l.length : Int) - ((skipB r).length : Int)) + 1 = (l.length : Int) - ((skipB r).tail.length : Int) from by omega]
      have hb3 := BlkO.rAt hb2 ((l.length : Int) - ((skipB r).tail.length : Int))
      have hU3 : Upd (fun k => k = j) O1 w2 O1 (World.setCell w2 ⟨rb, 1, none⟩ (.int .i64 ((l.length : Int) - ((skipB r).tail.length : Int)))) := Upd.set (fun e => hj e.symm) (BlkO.tag hb2) rfl
      have hx3 := hx2.upd hU3 (by omega) (by omega)
      have hR3 := hR2.upd hU3
      refine WL.nil ?_
      refine QF.seqNext ?_
      refine WC.seq ?_
      refine WC.region ?_
      refine WL.v (RV.move rfl) rfl ?_
      refine WL.call Tryz.call142 rfl (class_ret 2 op hop B O1 j rb l (skipB r).tail _ hR3 hj (k1.trans hq) hl trivial hb3 (hkn.upd (hUt2.trans (hU3.pj hT0)))) rfl ?_
      rintro v wc ⟨x, rfl, hUc, hPc⟩
      have hxo := hPc.one
      have hxc := BlkO.upd hx3 hUc (by omega) (by omega)
      refine WL.storeAgg (us := #[.int .i64 x.1, .int .i64 x.2.1, x.2.2]) hxc rfl (Tryz.sizeOf48 _) (nv_ok hxo) rfl rfl rfl ?_
      have hxd := BlkO.setRow (us := #[.int .i64 x.1, .int .i64 x.2.1, x.2.2]) hxc
      have hUd : Upd (fun k => k = T) O1 wc O1 (World.setRow wc xb #[.int .i64 x.1, .int .i64 x.2.1, x.2.2]) := Upd.setRow (by omega) (BlkO.tag hxc) rfl
      have hUz := ((hUt2.trans (hU3.pj hT0)).trans (hUc.pj hT0)).trans (hUd.pT hj hT0 (Nat.le_refl _))
      refine WL.nil ?_
      refine QF.seqNext ?_
      refine WC.ret ?_
      refine QF.blockRet ?_
      refine QF.thenRet ?_
      refine QF.doneC1 rfl rfl (hxd.cellsAdd) (Tryz.isAgg48 _) (Tryz.sizeOf48 _) (⟨x, rfl, hUz.priv hT hj, (hPc.upd hUd hj (by omega)).low hUz h.tag⟩)
    · skip
      refine WC.condF rfl ((byteBeq _ 126 (by decide) h2)) ?_
      refine WC.seq ?_
      refine WC.region ?_
      refine WL.v (RV.move rfl) rfl ?_
      refine WL.v (RV.eql rfl rfl) rfl ?_
      refine WL.v (RV.assign rfl) rfl ?_
      refine WL.nil ?_
      refine QF.seqNext ?_
      by_cases h3 : (skipB r).headD 0 = 94
      · have hM : atomK kn al r = .ok (.mk 3 0 []) (skipB r).tail := by unfold atomK; rw [if_neg h1, if_neg h2, if_pos h3]
        obtain ⟨k1, k2⟩ := tail_good (r := skipB r) (by rw [h3]; decide)
        rw [hM]
        refine WC.condT rfl ((by rw [h3]; rfl)) ?_
        refine WC.seq ?_
        refine WC.region ?_
        refine WL.v (RV.move rfl) rfl ?_
        refine WL.v (RV.nilPtr rfl) rfl ?_
        refine WL.v (RV.fieldAddr 0 Tryz.underlying125 rfl rfl (Tryz.sizeOf123 _) (by decide) rfl) rfl ?_
        refine WL.v (RV.fieldAddr 1 Tryz.underlying123 rfl rfl (Tryz.sizeOf3 _) (by decide) rfl) rfl ?_
        refine WL.v (RV.load (by first | exact hb2.r0 | exact hb2.r1 | exact hb2.r2 | exact hb2.r3 | exact hb2.r4 | exact hb2.r5) (Tryz.isAgg3 _) rfl) rfl ?_
        refine WL.v (RV.add rfl rfl (Fit.i64 (by omega))) rfl ?_
        refine WL.v (RV.nilPtr rfl) rfl ?_
        refine WL.v (RV.fieldAddr 0 Tryz.underlying125 rfl rfl (Tryz.sizeOf123 _) (by decide) rfl) rfl ?_
        refine WL.v (RV.fieldAddr 1 Tryz.underlying123 rfl rfl (Tryz.sizeOf3 _) (by decide) rfl) rfl ?_
        refine WL.storeBlk (j := 1) hb2 rfl (Tryz.sizeOf3 _) rfl rfl rfl rfl ?_
        rw [show ((l.length : Int) - ((skipB r).length : Int)) + 1 = (l.length : Int) - ((skipB r).tail.length : Int) from by omega]
        have hb3 := BlkO.rAt hb2 ((l.length : Int) - ((skipB r).tail.length : Int))
        have hU3 : Upd (fun k => k = j) O1 w2 O1 (World.setCell w2 ⟨rb, 1, none⟩ (.int .i64 ((l.length : Int) - ((skipB r).tail.length : Int)))) := Upd.set (fun e => hj e.symm) (BlkO.tag hb2) rfl
        have hx3 := hx2.upd hU3 (by omega) (by omega)
        have hxo : ((3, 0, .slice none 0 0) : N3).2.2.oneCell' = true := rfl
        refine WL.nil ?_
        refine QF.seqNext ?_
        refine WC.seq ?_
        refine WC.region ?_
        refine WL.v (RV.buildF pl48 (Tryz.zeroValue48 _) rfl (by first | rfl | (simp only [List.all_cons, h.one]; rfl)) rfl rfl) rfl ?_
        refine WL.storeAgg (us := #[.int .i64 ((3, 0, .slice none 0 0) : N3).1, .int .i64 ((3, 0, .slice none 0 0) : N3).2.1, ((3, 0, .slice none 0 0) : N3).2.2]) hx3 rfl (Tryz.sizeOf48 _) (nv_ok hxo) rfl rfl rfl ?_
        have hxd := BlkO.setRow (us := #[.int .i64 ((3, 0, .slice none 0 0) : N3).1, .int .i64 ((3, 0, .slice none 0 0) : N3).2.1, ((3, 0, .slice none 0 0) : N3).2.2]) hx3
        have hUd : Upd (fun k => k = T) O1 (World.setCell w2 ⟨rb, 1, none⟩ (.int .i64 ((l.length : Int) - ((skipB r).tail.length : Int)))) O1 (World.setRow (World.setCell w2 ⟨rb, 1, none⟩ (.int .i64 ((l.length : Int) - ((skipB r).tail.length : Int)))) xb #[.int .i64 ((3, 0, .slice none 0 0) : N3).1, .int .i64 ((3, 0, .slice none 0 0) : N3).2.1, ((3, 0, .slice none 0 0) : N3).2.2]) := Upd.setRow (by omega) (BlkO.tag hx3) rfl
        have hbd := hb3.upd hUd hj (by omega)
        have hUz := (hUt2.trans (hU3.pj hT0)).trans (hUd.pT hj hT0 (Nat.le_refl _))
        refine WL.nil ?_
        refine QF.seqNext ?_
        refine WC.ret ?_
        refine QF.blockRet ?_
        refine QF.thenRet ?_
        refine QF.doneC1 rfl rfl (hxd.cellsAdd) (Tryz.isAgg48 _) (Tryz.sizeOf48 _) (⟨(3, 0, .slice none 0 0), rfl, hUz.priv hT hj, hbd.fgt h.tag, Nt.leaf _ _ _ _⟩)
      · skip
        refine WC.condF rfl ((byteBeq _ 94 (by decide) h3)) ?_
        refine WC.seq ?_
        refine WC.region ?_
        refine WL.v (RV.move rfl) rfl ?_
        refine WL.v (RV.eql rfl rfl) rfl ?_
        refine WL.v (RV.assign rfl) rfl ?_
        refine WL.nil ?_
        refine QF.seqNext ?_
        by_cases h4 : (skipB r).headD 0 = 40
        · have hM : atomK kn al r = bracketsM al (skipB r) := by unfold atomK; rw [if_neg h1, if_neg h2, if_neg h3, if_pos h4]
          rw [hM]
          refine WC.condT rfl ((by rw [h4]; rfl)) ?_
          refine WC.seq ?_
          refine WC.region ?_
          refine WL.v (RV.move rfl) rfl ?_
          refine WL.call Tryz.call143 rfl (brackets_ret al op hop ha hg B O1 j rb l (skipB r) w2 hR2 hj hq hl (show (skipB r).headD 0 ≠ 0 by rw [h4]; decide) hb2 (hkn.upd hUt2)) rfl ?_
          rintro v wc ⟨x, rfl, hUc, hPc⟩
          have hxo := hPc.one
          have hxc := BlkO.upd hx2 hUc (by omega) (by omega)
          refine WL.storeAgg (us := #[.int .i64 x.1, .int .i64 x.2.1, x.2.2]) hxc rfl (Tryz.sizeOf48 _) (nv_ok hxo) rfl rfl rfl ?_
          have hxd := BlkO.setRow (us := #[.int .i64 x.1, .int .i64 x.2.1, x.2.2]) hxc
          have hUd : Upd (fun k => k = T) O1 wc O1 (World.setRow wc xb #[.int .i64 x.1, .int .i64 x.2.1, x.2.2]) := Upd.setRow (by omega) (BlkO.tag hxc) rfl
          have hUz := (hUt2.trans (hUc.pj hT0)).trans (hUd.pT hj hT0 (Nat.le_refl _))
          refine WL.nil ?_
          refine QF.seqNext ?_
          refine WC.ret ?_
          refine QF.blockRet ?_
          refine QF.thenRet ?_
          refine QF.doneC1 rfl rfl (hxd.cellsAdd) (Tryz.isAgg48 _) (Tryz.sizeOf48 _) (⟨x, rfl, hUz.priv hT hj, (hPc.upd hUd hj (by omega)).low hUz h.tag⟩)
        · have hM : atomK kn al r = .bad (skipB r).length 4 := by unfold atomK; rw [if_neg h1, if_neg h2, if_neg h3, if_neg h4]
          rw [hM]
          refine WC.condF rfl ((byteBeq _ 40 (by decide) h4)) ?_
          refine WC.skip ?_
          refine QF.blockNormal ?_
          refine QF.seqNext ?_
          refine WC.seq ?_
          refine WC.region ?_
          refine WL.v (RV.move rfl) rfl ?_
          refine WL.v (RV.move rfl) rfl ?_
          refine WL.v (RV.nilPtr rfl) rfl ?_
          refine WL.v (RV.fieldAddr 0 Tryz.underlying125 rfl rfl (Tryz.sizeOf123 _) (by decide) rfl) rfl ?_
          refine WL.v (RV.fieldAddr 1 Tryz.underlying123 rfl rfl (Tryz.sizeOf3 _) (by decide) rfl) rfl ?_
          refine WL.v (RV.load (by first | exact hb2.r0 | exact hb2.r1 | exact hb2.r2 | exact hb2.r3 | exact hb2.r4 | exact hb2.r5) (Tryz.isAgg3 _) rfl) rfl ?_
          refine WL.call Tryz.call83 rfl (fail_ret _ O1 w2 j rb l _ _ 0 ((l.length : Int) - ((skipB r).length : Int)) 4 hj hR2 hb2) rfl ?_
          rintro v wf ⟨rfl, hbf, hUf⟩
          have hxf := hx2.upd hUf (by omega) (by omega)
          refine WL.storeAgg (us := #[.int .i64 0, .int .i64 0, .slice none 0 0]) hxf rfl (Tryz.sizeOf48 _) rfl rfl rfl rfl ?_
          have hxg := hxf.setRow (us := #[.int .i64 0, .int .i64 0, .slice none 0 0])
          have hUg : Upd (fun k => k = T) O1 wf O1 (wf.setRow xb #[.int .i64 0, .int .i64 0, .slice none 0 0]) := Upd.setRow (by omega) hxf.tag rfl
          have hbg := hbf.upd hUg hj (by omega)
          refine WL.nil ?_
          refine QF.seqNext ?_
          refine WC.ret ?_
          refine QF.doneC1 rfl rfl (hxg.cellsAdd) (Tryz.isAgg48 _) (Tryz.sizeOf48 _) (⟨(0, 0, .slice none 0 0), rfl, ((hUt2.trans (hUf.pj hT0)).trans (hUg.pT hj hT0 (Nat.le_refl _))).priv hT hj, ?_⟩)
          exact ⟨rfl, _, op, hbg.fgt h.tag, by omega, by omega, by omega, by omega⟩
end Go.Proofs.YtmohcfjopaccdaaGreatDoor
