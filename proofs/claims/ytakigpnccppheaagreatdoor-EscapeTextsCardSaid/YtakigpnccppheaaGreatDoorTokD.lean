/- Package token, walked: the tokens of a text that was escaped. -/
import Derived.Test.YtakigpnccppheaaGreatDoorTokC
namespace Go.Proofs.YtakigpnccppheaaGreatDoor
open Go.VL Go.Proofs
set_option maxRecDepth 10000

theorem Upd.any {S : Nat → Prop} {O O' : Nat → Nat} {w w' : World} (h : Upd S O w O' w') : Upd (fun k => k ≠ 0) O w O' w' := h.mono (fun i hi e => h.z (e ▸ hi)) (by decide)
theorem Upd.ofE {w w' : World} (O : Nat → Nat) (h : Ext w w') : Upd (fun k => k ≠ 0) O w O w' := Upd.of_ext (by decide) O h
theorem Upd.row {O : Nat → Nat} {w : World} {i b : Nat} {cs : Array Value} {E : TypeId} (us : Array Value) (h : BlkO O w i b cs E) (hi : i ≠ 0) : Upd (fun k => k ≠ 0) O w O (w.setRow b us) := Upd.any (Upd.setRow (S := fun k => k = i) (fun e => hi e.symm) h.tag rfl)
def encT (x : Tok) : List Value := [.int .i64 x.1, .int .i64 x.2.1, .int .i64 x.2.2.1, .string (bs []), .int .i32 x.2.2.2, .bool false]
theorem byte_ne {b : UInt8} {k : Nat} (hk : k < 256) (h : b ≠ UInt8.ofNat k) : ((b.toNat : Int) == (k : Int)) = false := by
  rw [byte_eq b k hk]; exact decide_eq_false h
theorem pl56 : Places Tryz.prog 56 #[(0, 1), (1, 1), (2, 1), (3, 1), (4, 1), (5, 1)] := ⟨_, Tryz.underlying56, fun w => by kernel_rfl⟩
theorem special_no (b : List UInt8) (bv : Value) (i : Nat) (w : World) (h : Bytes w bv b) (hi : i < b.length) (h60 : nth b i ≠ 60) (h38 : nth b i ≠ 38) (h27 : nth b i ≠ 27) :
    Ret Tryz.prog 53 [bv, .int .i64 i] w fun v w' => v = .tuple #[.agg (encT (6, i, i, 0)).toArray, .bool false, .bool false] ∧ Ext w w' := by
  have hm := h.len_le
  refine Ret.enter Tryz.func53 Tryz.ntmps53 rfl rfl ?_
  refine WC.seq ?_
  refine WC.region ?_
  refine WL.allocO (Rng.start w) 1 (by omega) (Tryz.zeroValue56 _) rfl ?_
  intro rb w1 O1 hr1 hU1 hR1 hE1
  have h1 := h.ext hE1
  refine WL.v (RV.assign rfl) rfl ?_
  refine WL.v (RV.assign rfl) rfl ?_
  refine WL.nil ?_
  refine QF.seqNext ?_
  refine WC.seq ?_
  refine WC.seq ?_
  refine WC.region ?_
  refine WL.v (RV.move rfl) rfl ?_
  refine WL.v (RV.move rfl) rfl ?_
  refine WL.v (RV.indexAddr (by first | exact h1) Tryz.underlying31 (Tryz.sizeOf5 _) rfl rfl _ rfl (by omega)) rfl ?_
  refine WL.v (RV.load (by first | exact h1.ld (i := i) hi) (Tryz.isAgg5 _) rfl) rfl ?_
  refine WL.nil ?_
  refine QF.seqNext ?_
  refine WC.block ?_
  refine WC.seq ?_
  refine WC.region ?_
  refine WL.v (RV.eql rfl rfl) rfl ?_
  refine WL.v (RV.assign rfl) rfl ?_
  refine WL.nil ?_
  refine QF.seqNext ?_
  refine WC.condF rfl ((byte_ne (k := 60) (by decide) h60)) ?_
  refine WC.seq ?_
  refine WC.region ?_
  refine WL.v (RV.eql rfl rfl) rfl ?_
  refine WL.v (RV.assign rfl) rfl ?_
  refine WL.nil ?_
  refine QF.seqNext ?_
  refine WC.condF rfl ((byte_ne (k := 38) (by decide) h38)) ?_
  refine WC.skip ?_
  refine QF.blockNormal ?_
  refine QF.seqNext ?_
  refine WC.seq ?_
  refine WC.region ?_
  refine WL.v (RV.move rfl) rfl ?_
  refine WL.v (RV.move rfl) rfl ?_
  refine WL.call Tryz.call80 rfl (ansiRead_ret b bv i w1 h1 hi h27) rfl ?_
  rintro v w2 ⟨rfl, hE2⟩
  have hr2 := hr1.upd (Upd.of_ext (S := fun _ => False) (fun h => h) O1 hE2) (by decide) (fun h => h)
  have hR2 := hR1.ext hE2
  refine WL.allocO hR2 2 (by omega) (Tryz.zeroValue163 _) rfl ?_
  intro eb w3 O3 he3 hU3 hR3 hE3
  have hr3 := hr2.upd hU3 (by decide) (by decide)
  refine WL.storeAgg (us := encA0.toArray) he3 rfl (Tryz.sizeOf163 _) rfl rfl rfl rfl ?_
  have he4 := he3.setRow (us := encA0.toArray)
  have hU4 : Upd (fun k => k = 2) O3 w3 O3 (w3.setRow eb encA0.toArray) := Upd.setRow (by decide) he3.tag rfl
  have hr4 := hr3.upd hU4 (by decide) (by decide)
  have hz : ¬ (fun k : Nat => k ≠ 0) 0 := by decide
  have hUt : Upd (fun k => k ≠ 0) (fun _ => 0) w O3 (w3.setRow eb encA0.toArray) := ((Upd.any hU1).trans (Upd.ofE O1 hE2)).trans ((Upd.any hU3).trans (Upd.any hU4))
  generalize w3.setRow eb encA0.toArray = w4 at *
  have hr5 := hr4.drew
  have c0 : w4.cell? ((⟨eb, 0, none⟩ : Addr).add 0) = some (.int .i64 0) := he4.cell 0 rfl
  have he6 := he4.drew.upd (Upd.setRow (S := fun k => k = 1) (us := (encT (6, i, i, 0)).toArray) (by decide) hr5.tag rfl) (by decide) (by decide)
  have c6 : (w4.drew.setRow rb (encT (6, i, i, 0)).toArray).cell? ((⟨eb, 0, none⟩ : Addr).add 0) = some (.int .i64 0) := he6.cell 0 rfl
  refine WL.nil ?_
  refine QF.seqNext ?_
  refine WC.seq ?_
  refine WC.draw (fun W => W.cell? ((⟨eb, 0, none⟩ : Addr).add 0) = some (.int .i64 0)) 12 rfl (by kernel_rfl) ?_
  refine WH.take 0 rfl (by kernel_rfl) (by kernel_rfl) (by kernel_rfl) c0 (fun w1 hw1 => RV.move rfl) rfl ?_
  refine WH.take 1 rfl (by kernel_rfl) (by kernel_rfl) (by kernel_rfl) c0 (fun w1 hw1 => RV.move rfl) rfl ?_
  refine WH.take 2 rfl (by kernel_rfl) (by kernel_rfl) (by kernel_rfl) c0 (fun w1 hw1 => RV.fieldAddr 0 Tryz.underlying163 rfl rfl (Tryz.sizeOf3 _) (by decide) rfl) rfl ?_
  refine WH.take 3 rfl (by kernel_rfl) (by kernel_rfl) (by kernel_rfl) c0 (fun w1 hw1 => RV.load (by first | exact hw1) (Tryz.isAgg3 _) rfl) rfl ?_
  refine WH.take 4 rfl (by kernel_rfl) (by kernel_rfl) (by kernel_rfl) c0 (fun w1 hw1 => RV.add rfl rfl (Fit.i64 (by omega))) rfl ?_
  refine WH.take 5 rfl (by kernel_rfl) (by kernel_rfl) (by kernel_rfl) c0 (fun w1 hw1 => RV.buildF pl56 (Tryz.zeroValue56 _) rfl (by first | rfl | (simp only [List.all_cons, List.all_nil]; rfl)) rfl rfl) rfl ?_
  refine WH.take 6 rfl (by kernel_rfl) (by kernel_rfl) (by kernel_rfl) c0 (fun w1 hw1 => RV.fieldAddr 0 Tryz.underlying163 rfl rfl (Tryz.sizeOf3 _) (by decide) rfl) rfl ?_
  refine WH.take 7 rfl (by kernel_rfl) (by kernel_rfl) (by kernel_rfl) c0 (fun w1 hw1 => RV.load (by first | exact hw1) (Tryz.isAgg3 _) rfl) rfl ?_
  refine WH.take 8 rfl (by kernel_rfl) (by kernel_rfl) (by kernel_rfl) c0 (fun w1 hw1 => RV.gtr rfl rfl) rfl ?_
  refine WH.one 9 (by kernel_rfl) rfl ?_
  refine WL.storeAgg (us := (encT (6, i, i, 0)).toArray) hr5 rfl (Tryz.sizeOf56 _) rfl rfl rfl rfl ?_
  refine WL.nil ?_
  refine QF.after (c6) ?_
  refine WH.take 10 rfl (by kernel_rfl) (by kernel_rfl) (by kernel_rfl) (c6) (fun w1 hw1 => RV.assign rfl) rfl ?_
  refine WH.take 11 rfl (by kernel_rfl) (by kernel_rfl) (by kernel_rfl) (c6) (fun w1 hw1 => RV.assign rfl) rfl ?_
  refine WH.done (by kernel_rfl) ?_
  refine QF.seqNext ?_
  refine WC.ret ?_
  refine QF.doneC3 rfl rfl rfl rfl ((hr5.setRow (us := (encT (6, i, i, 0)).toArray)).cellsAdd) (Tryz.isAgg56 _) (Tryz.sizeOf56 _) (⟨rfl, (hUt.drew.trans (Upd.row _ hr5 (by decide))).ext⟩)
theorem special_ref (b : List UInt8) (bv : Value) (i : Nat) (c : UInt8) (r : List UInt8) (w : World) (h : Bytes w bv b) (hc : spec c = true) (hd : b.drop i = escB c ++ r) :
    Ret Tryz.prog 53 [bv, .int .i64 i] w fun v w' => v = .tuple #[.agg (encT (1, i, i + (escB c).length, (c.toNat : Int))).toArray, .bool true, .bool false] ∧ Ext w w' := by
  have hm := h.len_le
  obtain ⟨hi, h38⟩ := drop_nth (b := b) (i := i) (x := 38) (r := refName c ++ [59] ++ r) (by rw [hd, escB_spec hc]; simp)
  have hlen : (escB c ++ r).length = b.length - i := by rw [← hd]; simp
  rw [List.length_append] at hlen
  have hpos : 0 < (escB c).length := by rw [escB_spec hc]; simp
  refine Ret.enter Tryz.func53 Tryz.ntmps53 rfl rfl ?_
  refine WC.seq ?_
  refine WC.region ?_
  refine WL.allocO (Rng.start w) 1 (by omega) (Tryz.zeroValue56 _) rfl ?_
  intro rb w1 O1 hr1 hU1 hR1 hE1
  have h1 := h.ext hE1
  refine WL.v (RV.assign rfl) rfl ?_
  refine WL.v (RV.assign rfl) rfl ?_
  refine WL.nil ?_
  refine QF.seqNext ?_
  refine WC.seq ?_
  refine WC.seq ?_
  refine WC.region ?_
  refine WL.v (RV.move rfl) rfl ?_
  refine WL.v (RV.move rfl) rfl ?_
  refine WL.v (RV.indexAddr (by first | exact h1) Tryz.underlying31 (Tryz.sizeOf5 _) rfl rfl _ rfl (by omega)) rfl ?_
  refine WL.v (RV.load (by first | exact h1.ld (i := i) hi) (Tryz.isAgg5 _) rfl) rfl ?_
  refine WL.nil ?_
  refine QF.seqNext ?_
  refine WC.block ?_
  refine WC.seq ?_
  refine WC.region ?_
  refine WL.v (RV.eql rfl rfl) rfl ?_
  refine WL.v (RV.assign rfl) rfl ?_
  refine WL.nil ?_
  refine QF.seqNext ?_
  refine WC.condF rfl ((by rw [h38]; rfl)) ?_
  refine WC.seq ?_
  refine WC.region ?_
  refine WL.v (RV.eql rfl rfl) rfl ?_
  refine WL.v (RV.assign rfl) rfl ?_
  refine WL.nil ?_
  refine QF.seqNext ?_
  refine WC.condT rfl ((by rw [h38]; rfl)) ?_
  refine WC.seq ?_
  refine WC.region ?_
  refine WL.v (RV.move rfl) rfl ?_
  refine WL.v (RV.move rfl) rfl ?_
  refine WL.call Tryz.call79 rfl (entRead_ret b bv i c r w1 h1 hc hd) rfl ?_
  rintro v w2 ⟨rfl, hE2⟩
  have hr2 := hr1.upd (Upd.of_ext (S := fun _ => False) (fun h => h) O1 hE2) (by decide) (fun h => h)
  refine WL.v (RV.move rfl) rfl ?_
  refine WL.v (RV.extract rfl rfl) rfl ?_
  refine WL.v (RV.extract rfl rfl) rfl ?_
  refine WL.v (RV.assign rfl) rfl ?_
  refine WL.v (RV.assign rfl) rfl ?_
  refine WL.nil ?_
  refine QF.seqNext ?_
  refine WC.seq ?_
  refine WC.region ?_
  refine WL.v (RV.move rfl) rfl ?_
  refine WL.v (RV.move rfl) rfl ?_
  refine WL.v (RV.move rfl) rfl ?_
  refine WL.v (RV.add rfl rfl (Fit.i64 (by omega))) rfl ?_
  refine WL.v (RV.move rfl) rfl ?_
  refine WL.v (RV.buildF pl56 (Tryz.zeroValue56 _) rfl (by first | rfl | (simp only [List.all_cons, List.all_nil]; rfl)) rfl rfl) rfl ?_
  refine WL.v (RV.move rfl) rfl ?_
  refine WL.v (RV.gtr rfl rfl) rfl ?_
  refine WL.storeAgg (us := (encT (1, i, i + (escB c).length, (c.toNat : Int))).toArray) hr2 rfl (Tryz.sizeOf56 _) rfl rfl rfl rfl ?_
  have hz : ¬ (fun k : Nat => k ≠ 0) 0 := by decide
  refine WL.v (RV.assign rfl) rfl ?_
  refine WL.v (RV.assign rfl) rfl ?_
  refine WL.nil ?_
  refine QF.seqNext ?_
  refine WC.ret ?_
  refine QF.blockRet ?_
  refine QF.thenRet ?_
  refine QF.doneC3 rfl rfl rfl rfl ((hr2.setRow (us := (encT (1, i, i + (escB c).length, (c.toNat : Int))).toArray)).cellsAdd) (Tryz.isAgg56 _) (Tryz.sizeOf56 _) (⟨?_, (((Upd.any hU1).trans (Upd.ofE O1 hE2)).trans (Upd.row _ hr2 (by decide))).ext⟩)
  rw [show decide ((0 : Int) < ((escB c).length : Int)) = true from decide_eq_true (by omega)]
theorem text_ret (b : List UInt8) (bv : Value) (i e : Nat) (w : World) (h : Bytes w bv b) (hie : i < e) (he : e ≤ b.length) (hno : ∀ j, i < j → j < e → nth b j ≠ 60 ∧ nth b j ≠ 38 ∧ nth b j ≠ 27)
    (hend : e = b.length ∨ ∃ c r, spec c = true ∧ b.drop e = escB c ++ r) : Ret Tryz.prog 54 [bv, .int .i64 i] w fun v w' => v = .int .i64 e ∧ Ext w w' := by
  have hm := h.len_le
  refine Ret.enter Tryz.func54 Tryz.ntmps54 rfl rfl ?_
  refine WC.seq ?_
  refine WC.region ?_
  refine WL.v (RV.assign rfl) rfl ?_
  refine WL.nil ?_
  refine QF.seqNext ?_
  refine WC.seq ?_
  refine WC.seq ?_
  refine WC.region ?_
  refine WL.v (RV.move rfl) rfl ?_
  refine WL.v (RV.add rfl rfl (Fit.i64 (by omega))) rfl ?_
  refine WL.v (RV.assign rfl) rfl ?_
  refine WL.nil ?_
  refine QF.seqNext ?_
  refine WC.block ?_
  refine WC.loop (fun x : Nat × World => [(0, bv), (1, .int .i64 x.1)]) (fun x : Nat × World => x.2) (fun x : Nat × World => i + 1 ≤ x.1 ∧ x.1 ≤ e ∧ Ext w x.2) (fun x : Nat × World => e - x.1) (i + 1, w) (⟨Nat.le_refl _, hie, Ext.refl w⟩) ⟨rfl, rfl, trivial⟩ rfl ?_
  rintro ⟨j, w1⟩ ⟨hj1, hj2, hE1⟩
  dsimp only at hj1 hj2 hE1 ⊢
  have h1 := h.ext hE1
  refine WC.seq ?_
  refine WC.seq ?_
  refine WC.region ?_
  refine WL.v (RV.move rfl) rfl ?_
  refine WL.v (RV.move rfl) rfl ?_
  refine WL.v (RV.len (by first | exact h1) Tryz.underlying31 rfl) rfl ?_
  refine WL.v (RV.lss rfl rfl) rfl ?_
  refine WL.nil ?_
  refine QF.seqNext ?_
  refine WC.cond rfl ?_ ?_
  · intro hlt
    replace hlt : j < b.length := by have := of_decide_eq_true hlt; omega
    refine WC.skip ?_
    refine QF.seqNext ?_
    refine WC.seq ?_
    refine WC.block ?_
    refine WC.seq ?_
    refine WC.region ?_
    refine WL.v (RV.move rfl) rfl ?_
    refine WL.v (RV.move rfl) rfl ?_
    by_cases hje : j = e
    · subst hje
      obtain ⟨c, r, hc, hd⟩ := hend.resolve_left (by omega)
      refine WL.call Tryz.call53 rfl (special_ref b bv j c r w1 h1 hc hd) rfl ?_
      rintro v w2 ⟨rfl, hE2⟩
      refine WL.v (RV.move rfl) rfl ?_
      refine WL.v (RV.extract rfl rfl) rfl ?_
      refine WL.v (RV.extract rfl rfl) rfl ?_
      refine WL.v (RV.extract rfl rfl) rfl ?_
      refine WL.allocO (Rng.start w2) 1 (by omega) (Tryz.zeroValue56 _) rfl ?_
      intro tb w3 O3 ht3 hU3 hR3 hE3
      refine WL.storeAgg (us := (encT (1, j, j + (escB c).length, (c.toNat : Int))).toArray) ht3 rfl (Tryz.sizeOf56 _) rfl rfl rfl rfl ?_
      have hE4 : Ext w2 _ := (hU3.trans (Upd.setRow (by decide) ht3.tag rfl (us := (encT (1, j, j + (escB c).length, (c.toNat : Int))).toArray))).ext
      refine WL.v (RV.assign rfl) rfl ?_
      refine WL.v (RV.assign rfl) rfl ?_
      refine WL.nil ?_
      refine QF.seqNext ?_
      refine WC.seq ?_
      refine WC.region ?_
      refine WL.v (RV.move rfl) rfl ?_
      refine WL.nil ?_
      refine QF.seqNext ?_
      refine WC.condT rfl (rfl) ?_
      refine WC.exit ?_
      refine QF.blockMiss rfl ?_
      refine QF.thenExit ?_
      refine QF.thenExit ?_
      refine QF.blockHit ?_
      refine QF.seqNext ?_
      refine WC.seq ?_
      refine WC.region ?_
      refine WL.v (RV.move rfl) rfl ?_
      refine WL.v (RV.assign rfl) rfl ?_
      refine WL.nil ?_
      refine QF.seqNext ?_
      refine WC.ret ?_
      refine QF.done1 rfl rfl (⟨rfl, (hE1.trans hE2).trans hE4⟩)
    · obtain ⟨n1, n2, n3⟩ := hno j (by omega) (by omega)
      refine WL.call Tryz.call53 rfl (special_no b bv j w1 h1 hlt n1 n2 n3) rfl ?_
      rintro v w2 ⟨rfl, hE2⟩
      refine WL.v (RV.move rfl) rfl ?_
      refine WL.v (RV.extract rfl rfl) rfl ?_
      refine WL.v (RV.extract rfl rfl) rfl ?_
      refine WL.v (RV.extract rfl rfl) rfl ?_
      refine WL.allocO (Rng.start w2) 1 (by omega) (Tryz.zeroValue56 _) rfl ?_
      intro tb w3 O3 ht3 hU3 hR3 hE3
      refine WL.storeAgg (us := (encT (6, j, j, 0)).toArray) ht3 rfl (Tryz.sizeOf56 _) rfl rfl rfl rfl ?_
      have hE4 : Ext w2 (w3.setRow tb (encT (6, j, j, 0)).toArray) := (hU3.trans (Upd.setRow (by decide) ht3.tag rfl)).ext
      refine WL.v (RV.assign rfl) rfl ?_
      refine WL.v (RV.assign rfl) rfl ?_
      refine WL.nil ?_
      refine QF.seqNext ?_
      refine WC.seq ?_
      refine WC.region ?_
      refine WL.v (RV.move rfl) rfl ?_
      refine WL.nil ?_
      refine QF.seqNext ?_
      refine WC.condF rfl (rfl) ?_
      refine WC.skip ?_
      refine QF.blockNormal ?_
      refine QF.seqNext ?_
      refine WC.region ?_
      refine WL.v (RV.move rfl) rfl ?_
      refine WL.v (RV.add rfl rfl (Fit.i64 (by omega))) rfl ?_
      refine WL.v (RV.assign rfl) rfl ?_
      refine WL.nil ?_
      refine QF.next ((j + 1, w3.setRow tb (encT (6, j, j, 0)).toArray)) (⟨by dsimp only; omega, by dsimp only; omega, (hE1.trans hE2).trans hE4⟩) (by dsimp only; omega) ⟨rfl, rfl, trivial⟩ rfl
  · intro hge
    replace hge : ¬ j < b.length := by have := of_decide_eq_false hge; omega
    obtain rfl : j = e := by omega
    refine WC.exit ?_
    refine QF.thenExit ?_
    refine QF.thenExit ?_
    refine QF.blockHit ?_
    refine QF.seqNext ?_
    refine WC.seq ?_
    refine WC.region ?_
    refine WL.v (RV.move rfl) rfl ?_
    refine WL.v (RV.assign rfl) rfl ?_
    refine WL.nil ?_
    refine QF.seqNext ?_
    refine WC.ret ?_
    refine QF.done1 rfl rfl (⟨rfl, hE1⟩)
end Go.Proofs.YtakigpnccppheaaGreatDoor
