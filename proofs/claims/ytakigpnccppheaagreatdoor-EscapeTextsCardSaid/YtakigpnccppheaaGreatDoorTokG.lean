/- Packages nest, extract, walked: the items of a text that was escaped. -/
import Derived.Test.YtakigpnccppheaaGreatDoorTokF
namespace Go.Proofs.YtakigpnccppheaaGreatDoor
open Go.VL Go.Proofs
set_option maxRecDepth 10000

theorem Upd.forget {S S' : Nat → Prop} {O O2 : Nat → Nat} {w w' : World} (h : Upd S O w O2 w') (hS : ∀ b, S (O b) → S' (O b)) (hz : ¬ S' 0) : Upd S' O w O w' :=
  ⟨h.os, h.tape, h.output, h.size, fun b hb hn => h.blk b hb fun hs => hn (hS b hs), fun _ _ => rfl, fun _ h => .inl h, hz⟩
theorem BlkO.forget {O O2 : Nat → Nat} {w : World} {i j b : Nat} {cs : Array Value} {E : TypeId} (h : BlkO O2 w j b cs E) (ho : O b = i) : BlkO O w i b cs E := ⟨h.blk, ho⟩
/-- An extractor that has seen nothing that counts. -/
structure Ex (O : Nat → Nat) (w : World) (eb nb : Nat) : Prop where
  blk : BlkO O w 1 eb #[.pointer (some ⟨nb, 0, none⟩), .bool false, .bool false] 100
  n0 : Fixed O w ⟨nb, 0, none⟩ (.int .i64 0)
  n1 : Fixed O w ⟨nb, 1, none⟩ (.int .i64 0)
  n2 : Fixed O w ⟨nb, 2, none⟩ (.int .i64 0)
theorem Ex.upd {S : Nat → Prop} {O O' : Nat → Nat} {w w' : World} {eb nb : Nat} (h : Ex O w eb nb) (u : Upd S O w O' w') (h1 : ¬ S 1) : Ex O' w' eb nb :=
  ⟨h.blk.upd u (by decide) h1, h.n0.upd u, h.n1.upd u, h.n2.upd u⟩
theorem Ex.drew {O : Nat → Nat} {w : World} {eb nb : Nat} (h : Ex O w eb nb) : Ex O w.drew eb nb := ⟨h.blk.drew, h.n0.drew, h.n1.drew, h.n2.drew⟩
theorem nestCount_ret (nb i : Nat) (w : World) (hi : i < 3) (hc : w.cell? ((⟨nb, 0, none⟩ : Addr).add i) = some (.int .i64 0)) : Ret Tryz.prog 59 [.pointer (some ⟨nb, 0, none⟩), .int .i64 i] w fun v w' => v = .int .i64 0 ∧ w' = w := by
  refine Ret.enter Tryz.func59 Tryz.ntmps59 rfl rfl ?_
  refine WC.seq ?_
  refine WC.region ?_
  refine WL.v (RV.assign rfl) rfl ?_
  refine WL.nil ?_
  refine QF.seqNext ?_
  refine WC.seq ?_
  refine WC.seq ?_
  refine WC.region ?_
  refine WL.v (RV.move rfl) rfl ?_
  refine WL.v (RV.eqlNilP (q := some ⟨nb, 0, none⟩) Tryz.underlying97 rfl rfl) rfl ?_
  refine WL.nil ?_
  refine QF.seqNext ?_
  refine WC.condF rfl (rfl) ?_
  refine WC.skip ?_
  refine QF.seqNext ?_
  refine WC.seq ?_
  refine WC.region ?_
  refine WL.v (RV.move rfl) rfl ?_
  refine WL.v (RV.move rfl) rfl ?_
  refine WL.v (RV.nilPtr rfl) rfl ?_
  refine WL.v (RV.fieldAddr 0 Tryz.underlying123 rfl rfl (Tryz.sizeOf121 _) (by decide) rfl) rfl ?_
  refine WL.v (RV.fieldAddr 0 Tryz.underlying121 rfl rfl (Tryz.sizeOf119 _) (by decide) rfl) rfl ?_
  refine WL.v (RV.indexAddrA1 Tryz.underlying119 (Tryz.sizeOf3 _) rfl rfl i rfl hi) rfl ?_
  refine WL.v (RV.load (by first | exact hc) (Tryz.isAgg3 _) rfl) rfl ?_
  refine WL.v (RV.assign rfl) rfl ?_
  refine WL.nil ?_
  refine QF.seqNext ?_
  refine WC.ret ?_
  refine QF.done1 rfl rfl (⟨rfl, rfl⟩)
theorem nestHidden_ret (nb : Nat) (w : World) (hc : w.cell? ⟨nb, 0, none⟩ = some (.int .i64 0)) : Ret Tryz.prog 39 [.pointer (some ⟨nb, 0, none⟩)] w fun v w' => v = .int .i64 0 ∧ w' = w := by
  refine Ret.enter Tryz.func39 Tryz.ntmps39 rfl rfl ?_
  refine WC.seq ?_
  refine WC.region ?_
  refine WL.v (RV.assign rfl) rfl ?_
  refine WL.nil ?_
  refine QF.seqNext ?_
  refine WC.seq ?_
  refine WC.region ?_
  refine WL.v (RV.move rfl) rfl ?_
  refine WL.call Tryz.call59 rfl (nestCount_ret nb 0 w (by decide) hc) rfl ?_
  rintro v w' ⟨rfl, rfl⟩
  refine WL.v (RV.assign rfl) rfl ?_
  refine WL.nil ?_
  refine QF.seqNext ?_
  refine WC.ret ?_
  refine QF.done1 rfl rfl (⟨rfl, rfl⟩)
theorem nestPre_ret (nb : Nat) (w : World) (hc : w.cell? ⟨nb, 1, none⟩ = some (.int .i64 0)) : Ret Tryz.prog 62 [.pointer (some ⟨nb, 0, none⟩)] w fun v w' => v = .int .i64 0 ∧ w' = w := by
  refine Ret.enter Tryz.func62 Tryz.ntmps62 rfl rfl ?_
  refine WC.seq ?_
  refine WC.region ?_
  refine WL.v (RV.assign rfl) rfl ?_
  refine WL.nil ?_
  refine QF.seqNext ?_
  refine WC.seq ?_
  refine WC.region ?_
  refine WL.v (RV.move rfl) rfl ?_
  refine WL.call Tryz.call59 rfl (nestCount_ret nb 1 w (by decide) hc) rfl ?_
  rintro v w' ⟨rfl, rfl⟩
  refine WL.v (RV.assign rfl) rfl ?_
  refine WL.nil ?_
  refine QF.seqNext ?_
  refine WC.ret ?_
  refine QF.done1 rfl rfl (⟨rfl, rfl⟩)
theorem nestNoBreak_ret (nb : Nat) (w : World) (hc : w.cell? ⟨nb, 2, none⟩ = some (.int .i64 0)) : Ret Tryz.prog 61 [.pointer (some ⟨nb, 0, none⟩)] w fun v w' => v = .int .i64 0 ∧ w' = w := by
  refine Ret.enter Tryz.func61 Tryz.ntmps61 rfl rfl ?_
  refine WC.seq ?_
  refine WC.region ?_
  refine WL.v (RV.assign rfl) rfl ?_
  refine WL.nil ?_
  refine QF.seqNext ?_
  refine WC.seq ?_
  refine WC.region ?_
  refine WL.v (RV.move rfl) rfl ?_
  refine WL.call Tryz.call59 rfl (nestCount_ret nb 2 w (by decide) hc) rfl ?_
  rintro v w' ⟨rfl, rfl⟩
  refine WL.v (RV.assign rfl) rfl ?_
  refine WL.nil ?_
  refine QF.seqNext ?_
  refine WC.ret ?_
  refine QF.done1 rfl rfl (⟨rfl, rfl⟩)
theorem pl123 : Places Tryz.prog 123 #[(0, 3)] := ⟨_, Tryz.underlying123, fun w => by kernel_rfl⟩
theorem pl100 : Places Tryz.prog 100 #[(0, 1), (1, 1), (2, 1)] := ⟨_, Tryz.underlying100, fun w => by kernel_rfl⟩
theorem pl49 : Places Tryz.prog 49 #[(0, 1), (1, 1), (2, 1), (3, 1), (4, 1), (5, 1), (6, 1)] := ⟨_, Tryz.underlying49, fun w => by kernel_rfl⟩
theorem nestNew_ret (w : World) : Ret Tryz.prog 35 [] w fun v w' => ∃ nb, v = .pointer (some ⟨nb, 0, none⟩) ∧ w'.heap[nb]? = some (.cells #[.int .i64 0, .int .i64 0, .int .i64 0] 123 (0, 0)) ∧ Ext w w' := by
  refine Ret.enter Tryz.func35 Tryz.ntmps35 rfl rfl ?_
  refine WC.seq ?_
  refine WC.region ?_
  refine WL.v (RV.assign rfl) rfl ?_
  refine WL.nil ?_
  refine QF.seqNext ?_
  refine WC.seq ?_
  refine WC.region ?_
  refine WL.v (RV.buildF pl123 (Tryz.zeroValue123 _) rfl (by first | rfl | (simp only [List.all_cons, List.all_nil]; rfl)) rfl rfl) rfl ?_
  refine WL.boxO (Rng.start w) 1 (by omega) rfl rfl ?_
  intro nb w1 O1 hn hU1 hR1 hE1
  refine WL.v (RV.assign rfl) rfl ?_
  refine WL.nil ?_
  refine QF.seqNext ?_
  refine WC.ret ?_
  refine QF.done1 rfl rfl (⟨nb, rfl, hn.blk, hE1⟩)
theorem exNew_ret (w : World) : Ret Tryz.prog 21 [] w fun v w' => ∃ eb nb, v = .pointer (some ⟨eb, 0, none⟩) ∧ Ex (own1 (fun _ => 0) eb 1) w' eb nb ∧ Rng w.heap.size (own1 (fun _ => 0) eb 1) w' ∧ Ext w w' := by
  refine Ret.enter Tryz.func21 Tryz.ntmps21 rfl rfl ?_
  refine WC.seq ?_
  refine WC.region ?_
  refine WL.v (RV.assign rfl) rfl ?_
  refine WL.nil ?_
  refine QF.seqNext ?_
  refine WC.seq ?_
  refine WC.region ?_
  refine WL.call Tryz.call35 rfl (nestNew_ret w) rfl ?_
  rintro v w1 ⟨nb, rfl, hnb, hE1⟩
  refine WL.v (RV.buildF pl100 (Tryz.zeroValue100 _) rfl (by first | rfl | (simp only [List.all_cons, List.all_nil]; rfl)) rfl rfl) rfl ?_
  refine WL.boxO (Rng.start w1) 1 (by omega) rfl rfl ?_
  intro eb w2 O2 he hU2 hR2 hE2
  have hbr := hR2.rng eb (by rw [he.tag]; decide)
  have hlt := heap_lt hnb
  have hnb2 := (hE2.block nb hlt).trans hnb
  have hz : own1 (fun _ => 0) eb 1 nb = 0 := own1_zero _ _ _ (by omega)
  refine WL.v (RV.assign rfl) rfl ?_
  refine WL.nil ?_
  refine QF.seqNext ?_
  refine WC.ret ?_
  refine QF.done1 rfl rfl (⟨eb, nb, rfl, ⟨⟨he.blk, own1_at _ _ _⟩, ⟨cell_of_row _ _ 0 _ _ _ hnb2, hz⟩, ⟨cell_of_row _ _ 1 _ _ _ hnb2, hz⟩, ⟨cell_of_row _ _ 2 _ _ _ hnb2, hz⟩⟩, ⟨Nat.le_trans hE1.size hE2.size, fun k hk => ?_⟩, hE1.trans hE2⟩)
  have : k = eb := Classical.byContradiction fun hne => hk (own1_zero eb 1 k hne)
  subst this
  exact ⟨Nat.le_trans hE1.size hbr.1, hbr.2⟩

/-- An item, as far as it matters. -/
abbrev It := Int × Int × Int
def encIt (x : It) : List Value := [.int .i32 x.1, .int .i64 x.2.1, .int .i64 x.2.2, .bool false, .bool false, .bool false, .bool false]
theorem ex_c0 {W : World} {eb nb : Nat} (h : ∃ O', Ex O' W eb nb) : W.cell? ((⟨eb, 0, none⟩ : Addr).add 0) = some (.pointer (some ⟨nb, 0, none⟩)) := by
  obtain ⟨O', h⟩ := h; exact h.blk.cell 0 rfl
theorem ex_c1 {W : World} {eb nb : Nat} (h : ∃ O', Ex O' W eb nb) : W.cell? ((⟨eb, 0, none⟩ : Addr).add 1) = some (.bool false) := by
  obtain ⟨O', h⟩ := h; exact h.blk.cell 1 rfl
theorem ex_c2 {W : World} {eb nb : Nat} (h : ∃ O', Ex O' W eb nb) : W.cell? ((⟨eb, 0, none⟩ : Addr).add 2) = some (.bool false) := by
  obtain ⟨O', h⟩ := h; exact h.blk.cell 2 rfl
theorem item_ret (B : Nat) (O : Nat → Nat) (w : World) (eb nb : Nat) (x : It) (hR : Rng B O w) (h : Ex O w eb nb) (hO : ∀ b, O b < 100) :
    Ret Tryz.prog 41 [.pointer (some ⟨eb, 0, none⟩), .int .i32 x.1, .int .i64 x.2.1, .int .i64 x.2.2] w fun v w' => v = .agg (encIt x).toArray ∧ Ex O w' eb nb ∧ Upd (fun k => k = 1) O w O w' := by
  refine Ret.enter Tryz.func41 Tryz.ntmps41 rfl rfl ?_
  refine WC.seq ?_
  refine WC.region ?_
  refine WL.allocO hR 100 (by omega) (Tryz.zeroValue49 _) rfl ?_
  intro rb w1 O1 hr1 hU1 hR1 hE1
  have h1 := h.upd hU1 (by decide)
  have hS : ∃ O', Ex O' w1.drew eb nb := ⟨O1, h1.drew⟩
  refine WL.nil ?_
  refine QF.seqNext ?_
  refine WC.seq ?_
  refine WC.draw (fun W => ∃ O', Ex O' W eb nb) 26 rfl (by kernel_rfl) ?_
  refine WH.take 0 rfl (by kernel_rfl) (by kernel_rfl) (by kernel_rfl) hS (fun w1 hw1 => RV.move rfl) rfl ?_
  refine WH.take 1 rfl (by kernel_rfl) (by kernel_rfl) (by kernel_rfl) hS (fun w1 hw1 => RV.move rfl) rfl ?_
  refine WH.take 2 rfl (by kernel_rfl) (by kernel_rfl) (by kernel_rfl) hS (fun w1 hw1 => RV.move rfl) rfl ?_
  refine WH.take 3 rfl (by kernel_rfl) (by kernel_rfl) (by kernel_rfl) hS (fun w1 hw1 => RV.move rfl) rfl ?_
  refine WH.take 4 rfl (by kernel_rfl) (by kernel_rfl) (by kernel_rfl) hS (fun w1 hw1 => RV.nilPtr rfl) rfl ?_
  refine WH.take 5 rfl (by kernel_rfl) (by kernel_rfl) (by kernel_rfl) hS (fun w1 hw1 => RV.fieldAddr 1 Tryz.underlying100 rfl rfl (Tryz.sizeOf4 _) (by decide) rfl) rfl ?_
  refine WH.take 6 rfl (by kernel_rfl) (by kernel_rfl) (by kernel_rfl) hS (fun w1 hw1 => RV.load (by first | exact ex_c1 hw1) (Tryz.isAgg4 _) rfl) rfl ?_
  refine WH.take 7 rfl (by kernel_rfl) (by kernel_rfl) (by kernel_rfl) hS (fun w1 hw1 => RV.move rfl) rfl ?_
  refine WH.take 8 rfl (by kernel_rfl) (by kernel_rfl) (by kernel_rfl) hS (fun w1 hw1 => RV.nilPtr rfl) rfl ?_
  refine WH.take 9 rfl (by kernel_rfl) (by kernel_rfl) (by kernel_rfl) hS (fun w1 hw1 => RV.fieldAddr 2 Tryz.underlying100 rfl rfl (Tryz.sizeOf4 _) (by decide) rfl) rfl ?_
  refine WH.take 10 rfl (by kernel_rfl) (by kernel_rfl) (by kernel_rfl) hS (fun w1 hw1 => RV.load (by first | exact ex_c2 hw1) (Tryz.isAgg4 _) rfl) rfl ?_
  refine WH.take 11 rfl (by kernel_rfl) (by kernel_rfl) (by kernel_rfl) hS (fun w1 hw1 => RV.move rfl) rfl ?_
  refine WH.take 12 rfl (by kernel_rfl) (by kernel_rfl) (by kernel_rfl) hS (fun w1 hw1 => RV.nilPtr rfl) rfl ?_
  refine WH.take 13 rfl (by kernel_rfl) (by kernel_rfl) (by kernel_rfl) hS (fun w1 hw1 => RV.fieldAddr 0 Tryz.underlying100 rfl rfl (Tryz.sizeOf97 _) (by decide) rfl) rfl ?_
  refine WH.take 14 rfl (by kernel_rfl) (by kernel_rfl) (by kernel_rfl) hS (fun w1 hw1 => RV.load (by first | exact ex_c0 hw1) (Tryz.isAgg97 _) rfl) rfl ?_
  refine WH.take 17 rfl (by kernel_rfl) (by kernel_rfl) (by kernel_rfl) hS (fun w1 hw1 => RV.move rfl) rfl ?_
  refine WH.take 18 rfl (by kernel_rfl) (by kernel_rfl) (by kernel_rfl) hS (fun w1 hw1 => RV.nilPtr rfl) rfl ?_
  refine WH.take 19 rfl (by kernel_rfl) (by kernel_rfl) (by kernel_rfl) hS (fun w1 hw1 => RV.fieldAddr 0 Tryz.underlying100 rfl rfl (Tryz.sizeOf97 _) (by decide) rfl) rfl ?_
  refine WH.take 20 rfl (by kernel_rfl) (by kernel_rfl) (by kernel_rfl) hS (fun w1 hw1 => RV.load (ex_c0 hw1) (Tryz.isAgg97 _) rfl) rfl ?_
  refine WH.two 15 24 (by kernel_rfl) rfl rfl ?_ ?_
  · skip
    refine WL.call Tryz.call61 rfl (nestNoBreak_ret nb w1.drew (h1.drew).n2.cell) rfl ?_
    rintro v _ ⟨rfl, rfl⟩
    refine WL.nil ?_
    refine QF.after hS ?_
    refine WH.take 16 rfl (by kernel_rfl) (by kernel_rfl) (by kernel_rfl) hS (fun w1 hw1 => (show RV _ _ _ _ _ _ (.bool false) from RV.gtr (m := 0) (n := 0) rfl rfl)) rfl ?_
    refine WH.two 21 24 (by kernel_rfl) rfl rfl ?_ ?_
    · skip
      refine WL.call Tryz.call62 rfl (nestPre_ret nb w1.drew (h1.drew).n1.cell) rfl ?_
      rintro v _ ⟨rfl, rfl⟩
      refine WL.nil ?_
      refine QF.after hS ?_
      refine WH.take 22 rfl (by kernel_rfl) (by kernel_rfl) (by kernel_rfl) hS (fun w1 hw1 => (show RV _ _ _ _ _ _ (.bool false) from RV.gtr (m := 0) (n := 0) rfl rfl)) rfl ?_
      refine WH.take 23 rfl (by kernel_rfl) (by kernel_rfl) (by kernel_rfl) hS (fun w1 hw1 => RV.buildF (vs := [(0, .int .i32 x.1), (1, .int .i64 x.2.1), (2, .int .i64 x.2.2), (3, .bool false), (4, .bool false), (5, .bool false), (6, .bool false)]) (cells := (encIt x).toArray) pl49 (Tryz.zeroValue49 _) rfl rfl rfl (by kernel_rfl)) rfl ?_
      refine WH.one 24 (by kernel_rfl) rfl ?_
      refine WL.allocO hR1.drew 101 (by decide) (Tryz.zeroValue49 _) rfl ?_
      intro ob w2 O2 ho2 hU2 hR2 hE2
      have hS2 : ∃ O', Ex O' w2 eb nb := ⟨O2, h1.drew.upd hU2 (by decide)⟩
      refine WL.nil ?_
      refine QF.after hS2 ?_
      have hr2 := hr1.drew.upd hU2 (by decide) (by decide)
      have h2 := h1.drew.upd hU2 (by decide)
      refine WH.one 25 (by kernel_rfl) rfl ?_
      refine WL.storeAgg (us := (encIt x).toArray) ho2 rfl (Tryz.sizeOf49 _) rfl rfl rfl rfl ?_
      have ho3 := ho2.setRow (us := (encIt x).toArray)
      have hU3 : Upd (fun j => j = 101) O2 w2 O2 (w2.setRow ob (encIt x).toArray) := Upd.setRow (by decide) ho2.tag rfl
      have hr3 := hr2.upd hU3 (by decide) (by decide)
      have h3 := h2.upd hU3 (by decide)
      generalize w2.setRow ob (encIt x).toArray = w3 at *
      refine WL.nil ?_
      refine QF.after (⟨O2, h3⟩) ?_
      refine WH.done (by kernel_rfl) ?_
      refine QF.seqNext ?_
      refine WC.seq ?_
      refine WC.region ?_
      refine WL.v (RV.move rfl) rfl ?_
      refine WL.v (RV.move rfl) rfl ?_
      refine WL.v (RV.nilPtr rfl) rfl ?_
      refine WL.v (RV.fieldAddr 1 Tryz.underlying100 rfl rfl (Tryz.sizeOf4 _) (by decide) rfl) rfl ?_
      refine WL.storeBlk (j := 1) h3.blk rfl (Tryz.sizeOf4 _) rfl rfl rfl rfl ?_
      have hb4 := h3.blk.set 1 (.bool false)
      have hU4 : Upd (fun j => j = 1) O2 w3 O2 (w3.setCell ⟨eb, 1, none⟩ (.bool false)) := Upd.set (by decide) h3.blk.tag rfl
      have h4 : Ex O2 (w3.setCell ⟨eb, 1, none⟩ (.bool false)) eb nb := ⟨hb4, h3.n0.upd hU4, h3.n1.upd hU4, h3.n2.upd hU4⟩
      generalize w3.setCell ⟨eb, 1, none⟩ (.bool false) = w4 at *
      refine WL.v (RV.nilPtr rfl) rfl ?_
      refine WL.v (RV.fieldAddr 2 Tryz.underlying100 rfl rfl (Tryz.sizeOf4 _) (by decide) rfl) rfl ?_
      refine WL.storeBlk (j := 2) h4.blk rfl (Tryz.sizeOf4 _) rfl rfl rfl rfl ?_
      have hb5 := h4.blk.set 2 (.bool false)
      have hU5 : Upd (fun j => j = 1) O2 w4 O2 (w4.setCell ⟨eb, 2, none⟩ (.bool false)) := Upd.set (by decide) h4.blk.tag rfl
      have h5 : Ex O2 (w4.setCell ⟨eb, 2, none⟩ (.bool false)) eb nb := ⟨hb5, h4.n0.upd hU5, h4.n1.upd hU5, h4.n2.upd hU5⟩
      generalize w4.setCell ⟨eb, 2, none⟩ (.bool false) = w5 at *
      have hU35 := hU4.trans hU5
      have ho5 := ho3.upd hU35 (by decide) (by decide)
      have hr5 := hr3.upd hU35 (by decide) (by decide)
      refine WL.nil ?_
      refine QF.seqNext ?_
      refine WC.seq ?_
      refine WC.region ?_
      refine WL.v (RV.loadAgg (us := encIt x) ho5.cellsAdd (Tryz.isAgg49 _) (Tryz.sizeOf49 _) rfl) rfl ?_
      refine WL.storeAgg (us := (encIt x).toArray) hr5 rfl (Tryz.sizeOf49 _) rfl rfl rfl rfl ?_
      have hr6 := hr5.setRow (us := (encIt x).toArray)
      have hU6 : Upd (fun j => j = 100) O2 w5 O2 (w5.setRow rb (encIt x).toArray) := Upd.setRow (by decide) hr5.tag rfl
      have h6 := h5.upd hU6 (by decide)
      have hz : ¬ (fun k : Nat => k = 1 ∨ k = 100 ∨ k = 101) 0 := by decide
      have hUt : Upd (fun k => k = 1 ∨ k = 100 ∨ k = 101) O w O2 (w5.setRow rb (encIt x).toArray) := ((((hU1.drew.mono (by rintro _ rfl; simp) hz).trans (hU2.mono (by rintro _ rfl; simp) hz)).trans (hU3.mono (by rintro _ rfl; simp) hz)).trans (hU35.mono (by rintro _ rfl; simp) hz)).trans (hU6.mono (by rintro _ rfl; simp) hz)
      have hUf : Upd (fun k => k = 1) O w O (w5.setRow rb (encIt x).toArray) := Upd.forget hUt (fun b hb => by have := hO b; omega) (by decide)
      refine WL.nil ?_
      refine QF.seqNext ?_
      refine WC.ret ?_
      refine QF.doneC1 rfl rfl (hr6.cellsAdd) (Tryz.isAgg49 _) (Tryz.sizeOf49 _) (⟨rfl, ⟨BlkO.forget h6.blk h.blk.tag, h.n0.upd hUf, h.n1.upd hUf, h.n2.upd hUf⟩, hUf⟩)
    · skip
      refine WL.allocO hR1.drew 101 (by decide) (Tryz.zeroValue49 _) rfl ?_
      intro ob w2 O2 ho2 hU2 hR2 hE2
      have hS2 : ∃ O', Ex O' w2 eb nb := ⟨O2, h1.drew.upd hU2 (by decide)⟩
      refine WL.nil ?_
      refine QF.after hS2 ?_
      refine WH.one 21 (by kernel_rfl) rfl ?_
      refine WL.call Tryz.call62 rfl (nestPre_ret nb w2 ((h1.drew.upd hU2 (by decide))).n1.cell) rfl ?_
      rintro v w9 ⟨rfl, hw9⟩
      rw [hw9]
      clear hw9 w9
      refine WL.nil ?_
      refine QF.after hS2 ?_
      refine WH.take 22 rfl (by kernel_rfl) (by kernel_rfl) (by kernel_rfl) hS2 (fun w1 hw1 => (show RV _ _ _ _ _ _ (.bool false) from RV.gtr (m := 0) (n := 0) rfl rfl)) rfl ?_
      refine WH.take 23 rfl (by kernel_rfl) (by kernel_rfl) (by kernel_rfl) hS2 (fun w1 hw1 => RV.buildF (vs := [(0, .int .i32 x.1), (1, .int .i64 x.2.1), (2, .int .i64 x.2.2), (3, .bool false), (4, .bool false), (5, .bool false), (6, .bool false)]) (cells := (encIt x).toArray) pl49 (Tryz.zeroValue49 _) rfl rfl rfl (by kernel_rfl)) rfl ?_
      have hr2 := hr1.drew.upd hU2 (by decide) (by decide)
      have h2 := h1.drew.upd hU2 (by decide)
      refine WH.one 25 (by kernel_rfl) rfl ?_
      refine WL.storeAgg (us := (encIt x).toArray) ho2 rfl (Tryz.sizeOf49 _) rfl rfl rfl rfl ?_
      have ho3 := ho2.setRow (us := (encIt x).toArray)
      have hU3 : Upd (fun j => j = 101) O2 w2 O2 (w2.setRow ob (encIt x).toArray) := Upd.setRow (by decide) ho2.tag rfl
      have hr3 := hr2.upd hU3 (by decide) (by decide)
      have h3 := h2.upd hU3 (by decide)
      generalize w2.setRow ob (encIt x).toArray = w3 at *
      refine WL.nil ?_
      refine QF.after (⟨O2, h3⟩) ?_
      refine WH.done (by kernel_rfl) ?_
      refine QF.seqNext ?_
      refine WC.seq ?_
      refine WC.region ?_
      refine WL.v (RV.move rfl) rfl ?_
      refine WL.v (RV.move rfl) rfl ?_
      refine WL.v (RV.nilPtr rfl) rfl ?_
      refine WL.v (RV.fieldAddr 1 Tryz.underlying100 rfl rfl (Tryz.sizeOf4 _) (by decide) rfl) rfl ?_
      refine WL.storeBlk (j := 1) h3.blk rfl (Tryz.sizeOf4 _) rfl rfl rfl rfl ?_
      have hb4 := h3.blk.set 1 (.bool false)
      have hU4 : Upd (fun j => j = 1) O2 w3 O2 (w3.setCell ⟨eb, 1, none⟩ (.bool false)) := Upd.set (by decide) h3.blk.tag rfl
      have h4 : Ex O2 (w3.setCell ⟨eb, 1, none⟩ (.bool false)) eb nb := ⟨hb4, h3.n0.upd hU4, h3.n1.upd hU4, h3.n2.upd hU4⟩
      generalize w3.setCell ⟨eb, 1, none⟩ (.bool false) = w4 at *
      refine WL.v (RV.nilPtr rfl) rfl ?_
      refine WL.v (RV.fieldAddr 2 Tryz.underlying100 rfl rfl (Tryz.sizeOf4 _) (by decide) rfl) rfl ?_
      refine WL.storeBlk (j := 2) h4.blk rfl (Tryz.sizeOf4 _) rfl rfl rfl rfl ?_
      have hb5 := h4.blk.set 2 (.bool false)
      have hU5 : Upd (fun j => j = 1) O2 w4 O2 (w4.setCell ⟨eb, 2, none⟩ (.bool false)) := Upd.set (by decide) h4.blk.tag rfl
      have h5 : Ex O2 (w4.setCell ⟨eb, 2, none⟩ (.bool false)) eb nb := ⟨hb5, h4.n0.upd hU5, h4.n1.upd hU5, h4.n2.upd hU5⟩
      generalize w4.setCell ⟨eb, 2, none⟩ (.bool false) = w5 at *
      have hU35 := hU4.trans hU5
      have ho5 := ho3.upd hU35 (by decide) (by decide)
      have hr5 := hr3.upd hU35 (by decide) (by decide)
      refine WL.nil ?_
      refine QF.seqNext ?_
      refine WC.seq ?_
      refine WC.region ?_
      refine WL.v (RV.loadAgg (us := encIt x) ho5.cellsAdd (Tryz.isAgg49 _) (Tryz.sizeOf49 _) rfl) rfl ?_
      refine WL.storeAgg (us := (encIt x).toArray) hr5 rfl (Tryz.sizeOf49 _) rfl rfl rfl rfl ?_
      have hr6 := hr5.setRow (us := (encIt x).toArray)
      have hU6 : Upd (fun j => j = 100) O2 w5 O2 (w5.setRow rb (encIt x).toArray) := Upd.setRow (by decide) hr5.tag rfl
      have h6 := h5.upd hU6 (by decide)
      have hz : ¬ (fun k : Nat => k = 1 ∨ k = 100 ∨ k = 101) 0 := by decide
      have hUt : Upd (fun k => k = 1 ∨ k = 100 ∨ k = 101) O w O2 (w5.setRow rb (encIt x).toArray) := ((((hU1.drew.mono (by rintro _ rfl; simp) hz).trans (hU2.mono (by rintro _ rfl; simp) hz)).trans (hU3.mono (by rintro _ rfl; simp) hz)).trans (hU35.mono (by rintro _ rfl; simp) hz)).trans (hU6.mono (by rintro _ rfl; simp) hz)
      have hUf : Upd (fun k => k = 1) O w O (w5.setRow rb (encIt x).toArray) := Upd.forget hUt (fun b hb => by have := hO b; omega) (by decide)
      refine WL.nil ?_
      refine QF.seqNext ?_
      refine WC.ret ?_
      refine QF.doneC1 rfl rfl (hr6.cellsAdd) (Tryz.isAgg49 _) (Tryz.sizeOf49 _) (⟨rfl, ⟨BlkO.forget h6.blk h.blk.tag, h.n0.upd hUf, h.n1.upd hUf, h.n2.upd hUf⟩, hUf⟩)
  · skip
    refine WL.allocO hR1.drew 101 (by decide) (Tryz.zeroValue49 _) rfl ?_
    intro ob w2 O2 ho2 hU2 hR2 hE2
    have hS2 : ∃ O', Ex O' w2 eb nb := ⟨O2, h1.drew.upd hU2 (by decide)⟩
    refine WL.nil ?_
    refine QF.after hS2 ?_
    refine WH.one 15 (by kernel_rfl) rfl ?_
    refine WL.call Tryz.call61 rfl (nestNoBreak_ret nb w2 ((h1.drew.upd hU2 (by decide))).n2.cell) rfl ?_
    rintro v w9 ⟨rfl, hw9⟩
    rw [hw9]
    clear hw9 w9
    refine WL.nil ?_
    refine QF.after hS2 ?_
    refine WH.take 16 rfl (by kernel_rfl) (by kernel_rfl) (by kernel_rfl) hS2 (fun w1 hw1 => (show RV _ _ _ _ _ _ (.bool false) from RV.gtr (m := 0) (n := 0) rfl rfl)) rfl ?_
    refine WH.one 21 (by kernel_rfl) rfl ?_
    refine WL.call Tryz.call62 rfl (nestPre_ret nb w2 ((h1.drew.upd hU2 (by decide))).n1.cell) rfl ?_
    rintro v w9 ⟨rfl, hw9⟩
    rw [hw9]
    clear hw9 w9
    refine WL.nil ?_
    refine QF.after hS2 ?_
    refine WH.take 22 rfl (by kernel_rfl) (by kernel_rfl) (by kernel_rfl) hS2 (fun w1 hw1 => (show RV _ _ _ _ _ _ (.bool false) from RV.gtr (m := 0) (n := 0) rfl rfl)) rfl ?_
    refine WH.take 23 rfl (by kernel_rfl) (by kernel_rfl) (by kernel_rfl) hS2 (fun w1 hw1 => RV.buildF (vs := [(0, .int .i32 x.1), (1, .int .i64 x.2.1), (2, .int .i64 x.2.2), (3, .bool false), (4, .bool false), (5, .bool false), (6, .bool false)]) (cells := (encIt x).toArray) pl49 (Tryz.zeroValue49 _) rfl rfl rfl (by kernel_rfl)) rfl ?_
    have hr2 := hr1.drew.upd hU2 (by decide) (by decide)
    have h2 := h1.drew.upd hU2 (by decide)
    refine WH.one 25 (by kernel_rfl) rfl ?_
    refine WL.storeAgg (us := (encIt x).toArray) ho2 rfl (Tryz.sizeOf49 _) rfl rfl rfl rfl ?_
    have ho3 := ho2.setRow (us := (encIt x).toArray)
    have hU3 : Upd (fun j => j = 101) O2 w2 O2 (w2.setRow ob (encIt x).toArray) := Upd.setRow (by decide) ho2.tag rfl
    have hr3 := hr2.upd hU3 (by decide) (by decide)
    have h3 := h2.upd hU3 (by decide)
    generalize w2.setRow ob (encIt x).toArray = w3 at *
    refine WL.nil ?_
    refine QF.after (⟨O2, h3⟩) ?_
    refine WH.done (by kernel_rfl) ?_
    refine QF.seqNext ?_
    refine WC.seq ?_
    refine WC.region ?_
    refine WL.v (RV.move rfl) rfl ?_
    refine WL.v (RV.move rfl) rfl ?_
    refine WL.v (RV.nilPtr rfl) rfl ?_
    refine WL.v (RV.fieldAddr 1 Tryz.underlying100 rfl rfl (Tryz.sizeOf4 _) (by decide) rfl) rfl ?_
    refine WL.storeBlk (j := 1) h3.blk rfl (Tryz.sizeOf4 _) rfl rfl rfl rfl ?_
    have hb4 := h3.blk.set 1 (.bool false)
    have hU4 : Upd (fun j => j = 1) O2 w3 O2 (w3.setCell ⟨eb, 1, none⟩ (.bool false)) := Upd.set (by decide) h3.blk.tag rfl
    have h4 : Ex O2 (w3.setCell ⟨eb, 1, none⟩ (.bool false)) eb nb := ⟨hb4, h3.n0.upd hU4, h3.n1.upd hU4, h3.n2.upd hU4⟩
    generalize w3.setCell ⟨eb, 1, none⟩ (.bool false) = w4 at *
    refine WL.v (RV.nilPtr rfl) rfl ?_
    refine WL.v (RV.fieldAddr 2 Tryz.underlying100 rfl rfl (Tryz.sizeOf4 _) (by decide) rfl) rfl ?_
    refine WL.storeBlk (j := 2) h4.blk rfl (Tryz.sizeOf4 _) rfl rfl rfl rfl ?_
    have hb5 := h4.blk.set 2 (.bool false)
    have hU5 : Upd (fun j => j = 1) O2 w4 O2 (w4.setCell ⟨eb, 2, none⟩ (.bool false)) := Upd.set (by decide) h4.blk.tag rfl
    have h5 : Ex O2 (w4.setCell ⟨eb, 2, none⟩ (.bool false)) eb nb := ⟨hb5, h4.n0.upd hU5, h4.n1.upd hU5, h4.n2.upd hU5⟩
    generalize w4.setCell ⟨eb, 2, none⟩ (.bool false) = w5 at *
    have hU35 := hU4.trans hU5
    have ho5 := ho3.upd hU35 (by decide) (by decide)
    have hr5 := hr3.upd hU35 (by decide) (by decide)
    refine WL.nil ?_
    refine QF.seqNext ?_
    refine WC.seq ?_
    refine WC.region ?_
    refine WL.v (RV.loadAgg (us := encIt x) ho5.cellsAdd (Tryz.isAgg49 _) (Tryz.sizeOf49 _) rfl) rfl ?_
    refine WL.storeAgg (us := (encIt x).toArray) hr5 rfl (Tryz.sizeOf49 _) rfl rfl rfl rfl ?_
    have hr6 := hr5.setRow (us := (encIt x).toArray)
    have hU6 : Upd (fun j => j = 100) O2 w5 O2 (w5.setRow rb (encIt x).toArray) := Upd.setRow (by decide) hr5.tag rfl
    have h6 := h5.upd hU6 (by decide)
    have hz : ¬ (fun k : Nat => k = 1 ∨ k = 100 ∨ k = 101) 0 := by decide
    have hUt : Upd (fun k => k = 1 ∨ k = 100 ∨ k = 101) O w O2 (w5.setRow rb (encIt x).toArray) := ((((hU1.drew.mono (by rintro _ rfl; simp) hz).trans (hU2.mono (by rintro _ rfl; simp) hz)).trans (hU3.mono (by rintro _ rfl; simp) hz)).trans (hU35.mono (by rintro _ rfl; simp) hz)).trans (hU6.mono (by rintro _ rfl; simp) hz)
    have hUf : Upd (fun k => k = 1) O w O (w5.setRow rb (encIt x).toArray) := Upd.forget hUt (fun b hb => by have := hO b; omega) (by decide)
    refine WL.nil ?_
    refine QF.seqNext ?_
    refine WC.ret ?_
    refine QF.doneC1 rfl rfl (hr6.cellsAdd) (Tryz.isAgg49 _) (Tryz.sizeOf49 _) (⟨rfl, ⟨BlkO.forget h6.blk h.blk.tag, h.n0.upd hUf, h.n1.upd hUf, h.n2.upd hUf⟩, hUf⟩)
end Go.Proofs.YtakigpnccppheaaGreatDoor
