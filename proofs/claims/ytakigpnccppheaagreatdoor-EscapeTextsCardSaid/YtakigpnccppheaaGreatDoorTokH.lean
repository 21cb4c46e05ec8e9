/- Package extract, walked: text, Take. -/
import Derived.Test.YtakigpnccppheaaGreatDoorTokG
namespace Go.VL
section
variable {P : Program} {N : Nat} {ops : Array Oper} {Q : Exit → Act → World → Prop} {rest : List Oper} {st : St} {w : World}
variable {t : TypeId} {p : String} {e : Array Edge} {d : Nat} {x y z : Operand}
/-- A slice of one element, in a new block. -/
theorem WL.buildOne2 {T E : TypeId} {sz bytes : Nat} (he : Elem P T E sz bytes) {α : Type} {enc : α → List Value} (u : α) {xv : Value} (hx : ev st x = some xv) (hxv : xv.cells.toList = enc u) (hul : (enc u).length = sz) (hs : sz ≤ 16777216) (hd : Nat.blt d N = true)
    (h : ∀ w', Sl enc sz w' (.slice (some ⟨w.heap.size, 0, none⟩) 1 1) [u] → Ext w w' → WL P N ops Q rest ((d, .slice (some ⟨w.heap.size, 0, none⟩) 1 1) :: st) w') : WL P N ops Q (⟨some d, .buildSlice T 1 #[(0, x)], t, p, e, none⟩ :: rest) st w := by
  obtain ⟨inf, z, hi, hz, hsz, hby, hzs⟩ := he.parts
  have hcs : xv.cells.size = sz := by rw [← hul, ← hxv]; simp
  have hpos := he.pos
  refine WL.val (v := .slice (some ⟨w.heap.size, 0, none⟩) 1 1) (w' := w.alloc (.cells xv.cells E)) hd (fun a ha => ?_) (h _ ⟨⟨_, 1, rfl, Nat.le_refl _, by simp, fun _ => ⟨_, _, rfl⟩⟩, fun i hi j c hc => ?_⟩ (Ext.alloc _ _))
  · have := run_buildSlice (P := P) w T E 1 #[(0, xv)] xv.cells inf z he.ht hi hz (by rw [hsz]; omega) (by rw [hsz]; omega) (by
      rw [hsz]
      exact fill_one hcs (by simp))
    simp only [execOp, List.map_toArray, List.map_cons, List.map_nil, ha.ev hx, Sem.run_bind, this, Result.andThen_ok]
    rfl
  · obtain rfl : i = 0 := by simpa using hi
    simp only [List.getElem_cons_zero] at hc
    simp only [adr, Nat.zero_mul, Nat.add_zero]
    rw [show ((⟨w.heap.size, 0, none⟩ : Addr).add j) = ⟨w.heap.size, j, none⟩ from by simp only [Addr.add]; split <;> simp_all, cell_of_row _ _ j xv.cells E (0, 0) (heap_alloc_new w _)]
    rw [← hxv] at hc; simpa using hc
end
end Go.VL
namespace Go.Proofs.YtakigpnccppheaaGreatDoor
open Go.VL Go.Proofs
set_option maxRecDepth 10000

theorem Ex.ne {O : Nat → Nat} {w : World} {eb nb : Nat} (h : Ex O w eb nb) : nb ≠ eb := fun e => by
  have h1 := h.blk.tag; have h2 := h.n0.free
  subst e; simp only at h2; omega
theorem Ex.low {O : Nat → Nat} {w : World} {eb nb : Nat} (h : Ex O w eb nb) : Ex (own1 (fun _ => 0) eb 1) w eb nb :=
  ⟨⟨h.blk.blk, own1_at _ _ _⟩, ⟨h.n0.cell, own1_zero _ _ _ h.ne⟩, ⟨h.n1.cell, own1_zero _ _ _ h.ne⟩, ⟨h.n2.cell, own1_zero _ _ _ h.ne⟩⟩
theorem Ex.high {O : Nat → Nat} {w w' : World} {eb nb : Nat} (h : Ex O w eb nb) (k : Ex (own1 (fun _ => 0) eb 1) w' eb nb) : Ex O w' eb nb :=
  ⟨⟨k.blk.blk, h.blk.tag⟩, ⟨k.n0.cell, h.n0.free⟩, ⟨k.n1.cell, h.n1.free⟩, ⟨k.n2.cell, h.n2.free⟩⟩
theorem Ex.lift {O : Nat → Nat} {w w' : World} {eb nb : Nat} (h : Ex O w eb nb) (u : Upd (fun k => k = 1) (own1 (fun _ => 0) eb 1) w (own1 (fun _ => 0) eb 1) w') : Upd (fun k => k = 1) O w O w' :=
  ⟨u.os, u.tape, u.output, u.size, fun b hb hn => u.blk b hb fun e => by
    have : b = eb := Classical.byContradiction fun hne => by rw [own1_zero _ _ _ hne] at e; cases e
    subst this; exact hn h.blk.tag, fun _ _ => rfl, fun _ h => .inl h, by decide⟩
theorem Ex.rng {w : World} {eb : Nat} {cs : Array Value} {E : TypeId} (h : BlkO (own1 (fun _ => 0) eb 1) w 1 eb cs E) : Rng 0 (own1 (fun _ => 0) eb 1) w :=
  ⟨Nat.zero_le _, fun b hb => ⟨Nat.zero_le _, by
    have : b = eb := Classical.byContradiction fun hne => hb (own1_zero _ _ _ hne)
    subst this; exact heap_lt h.blk⟩⟩
theorem item_any (O : Nat → Nat) (w : World) (eb nb : Nat) (x : It) (h : Ex O w eb nb) :
    Ret Tryz.prog 41 [.pointer (some ⟨eb, 0, none⟩), .int .i32 x.1, .int .i64 x.2.1, .int .i64 x.2.2] w fun v w' => v = .agg (encIt x).toArray ∧ Ex O w' eb nb ∧ Upd (fun k => k = 1) O w O w' := by
  refine (item_ret 0 _ w eb nb x (Ex.rng h.low.blk) h.low (fun b => ?_)).mono ?_
  · unfold own1; split <;> simp
  · rintro v w' ⟨hv, k, u⟩
    exact ⟨hv, h.high k, h.lift u⟩
theorem elIt : Elem Tryz.prog 29 49 7 32 := ⟨Tryz.underlying29, by kernel_rfl, by decide⟩
theorem scNext_ret (L : List UInt8) (bv : Value) (i : Nat) (w : World) (h : Bytes w bv L) (hi : i < L.length) : Ret Tryz.prog 60 [bv, .int .i64 i] w fun v w' => v = .tuple #[.int .i32 (decM (L.drop i)).1, .int .i64 (decM (L.drop i)).2.1] ∧ Ext w w' := by
  refine Ret.enter Tryz.func60 Tryz.ntmps60 rfl rfl ?_
  refine WC.seq ?_
  refine WC.region ?_
  refine WL.v (RV.assign rfl) rfl ?_
  refine WL.v (RV.assign rfl) rfl ?_
  refine WL.nil ?_
  refine QF.seqNext ?_
  refine WC.seq ?_
  refine WC.region ?_
  refine WL.v (RV.move rfl) rfl ?_
  refine WL.v (RV.move rfl) rfl ?_
  refine WL.call Tryz.call48 rfl (read_ret L bv i w h hi) rfl ?_
  rintro v w1 ⟨rfl, hE1⟩
  refine WL.v (RV.move rfl) rfl ?_
  refine WL.v (RV.extract rfl rfl) rfl ?_
  refine WL.v (RV.extract rfl rfl) rfl ?_
  refine WL.v (RV.extract rfl rfl) rfl ?_
  refine WL.v (RV.assign rfl) rfl ?_
  refine WL.v (RV.assign rfl) rfl ?_
  refine WL.v (RV.assign rfl) rfl ?_
  refine WL.nil ?_
  refine QF.seqNext ?_
  refine WC.seq ?_
  refine WC.region ?_
  refine WL.v (RV.move rfl) rfl ?_
  refine WL.v (RV.move rfl) rfl ?_
  refine WL.v (RV.assign rfl) rfl ?_
  refine WL.v (RV.assign rfl) rfl ?_
  refine WL.nil ?_
  refine QF.seqNext ?_
  refine WC.ret ?_
  refine QF.done2 rfl rfl rfl (⟨rfl, hE1⟩)
def Fresh (w : World) (v : Value) : Prop := ∀ a n c, v = .slice (some a) n c → w.heap.size ≤ a.block
theorem exText_ret (O : Nat → Nat) (w : World) (eb nb : Nat) (at' : Int) (seg : List UInt8) (bv : Value) (h : Ex O w eb nb) (hs : Bytes w bv seg) (hbv : Free O w bv) (hat : 0 ≤ at' ∧ at' ≤ 1000000000) (hl : seg.length ≤ 1000000000) :
    Ret Tryz.prog 40 [.pointer (some ⟨eb, 0, none⟩), .int .i64 at', bv] w fun v w' => ∃ its, Sl encIt 7 w' v its ∧ Fresh w v ∧ its.map (·.1) = runesM seg ∧ Ex O w' eb nb ∧ Upd (fun k => k = 1) O w O w' := by
  have hpl := decP_len seg
  have hlow : Free (own1 (fun _ => 0) eb 1) w bv := fun a n c e => by
    obtain ⟨h1, h2⟩ := hbv a n c e
    refine ⟨own1_zero _ _ _ fun e2 => ?_, h2⟩
    rw [e2, h.blk.tag] at h1; cases h1
  have hx0 := h.low
  have hR0 := Ex.rng hx0.blk
  have hfin : ∀ w', Ex (own1 (fun _ => 0) eb 1) w' eb nb → Upd (fun k => k = 1) (own1 (fun _ => 0) eb 1) w (own1 (fun _ => 0) eb 1) w' → Ex O w' eb nb ∧ Upd (fun k => k = 1) O w O w' := fun w' k u => ⟨h.high k, h.lift u⟩
  generalize hOs : own1 (fun _ => 0) eb 1 = Os at *
  have hOs50 : ∀ b, Os b ≠ 50 := fun b => by rw [← hOs]; unfold own1; split <;> simp
  refine Ret.enter Tryz.func40 Tryz.ntmps40 rfl rfl ?_
  refine WC.seq ?_
  refine WC.region ?_
  refine WL.v (RV.assign rfl) rfl ?_
  refine WL.nil ?_
  refine QF.seqNext ?_
  refine WC.seq ?_
  refine WC.region ?_
  refine WL.v (RV.assign rfl) rfl ?_
  refine WL.nil ?_
  refine QF.seqNext ?_
  refine WC.seq ?_
  refine WC.seq ?_
  refine WC.region ?_
  refine WL.v (RV.assign rfl) rfl ?_
  refine WL.nil ?_
  refine QF.seqNext ?_
  refine WC.block ?_
  refine WC.loop (fun x : Nat × (Nat → Nat) × World × Value × List It × Int => [(0, .pointer (some ⟨eb, 0, none⟩)), (1, .int .i64 at'), (2, bv), (7, x.2.2.2.1), (8, .int .i64 x.2.2.2.2.2)]) (fun x : Nat × (Nat → Nat) × World × Value × List It × Int => x.2.2.1) (fun x : Nat × (Nat → Nat) × World × Value × List It × Int => x.1 ≤ (decP seg).length ∧ x.2.2.2.2.2 = (atOf (decP seg) x.1 : Nat) ∧ RowT encIt 49 7 x.2.1 x.2.2.1 50 x.2.2.2.1 x.2.2.2.2.1 ∧ x.2.2.2.2.1.map (·.1) = (runesM seg).take x.1 ∧ Ex x.2.1 x.2.2.1 eb nb ∧ Upd (fun k => k = 1 ∨ k = 50) Os w x.2.1 x.2.2.1) (fun x : Nat × (Nat → Nat) × World × Value × List It × Int => (decP seg).length - x.1) (0, Os, w, .slice none 0 0, [], 0) (⟨Nat.zero_le _, rfl, RowT.nil _ _ _ _ _ _, rfl, hx0, Upd.refl (by decide) _ _⟩) ⟨rfl, rfl, rfl, rfl, rfl, trivial⟩ rfl ?_
  rintro ⟨i, O1, w1, lv, its, ii⟩ ⟨hi, hii, hrow, hmap, hx1, hU1⟩
  dsimp only at hi hii hrow hmap hx1 hU1 ⊢
  subst hii
  have hs1 : Bytes w1 bv seg := hs.upd hlow hU1
  have hR1 := hR0.upd hU1
  obtain ⟨hp1, hp2⟩ := decP_drop seg i hi
  have hil := congrArg List.length hmap
  rw [List.length_map, List.length_take, runesM_len] at hil
  refine WC.seq ?_
  refine WC.seq ?_
  refine WC.region ?_
  refine WL.v (RV.move rfl) rfl ?_
  refine WL.v (RV.move rfl) rfl ?_
  refine WL.v (RV.len (by first | exact hs1) Tryz.underlying31 rfl) rfl ?_
  refine WL.v (RV.lss rfl rfl) rfl ?_
  refine WL.nil ?_
  refine QF.seqNext ?_
  refine WC.cond rfl ?_ ?_
  · intro hlt
    replace hlt : atOf (decP seg) i < seg.length := by have := of_decide_eq_true hlt; omega
    have hin : i < (decP seg).length := by
      refine Nat.lt_of_not_le fun e => ?_
      have : i = (decP seg).length := by omega
      rw [this, atOf_all] at hlt; omega
    obtain ⟨hd, _⟩ := hp2 hin
    have hat2 := atOf_succ (decP seg) i hin
    have hle2 := atOf_le seg (i + 1)
    refine WC.skip ?_
    refine QF.seqNext ?_
    refine WC.block ?_
    refine WC.seq ?_
    refine WC.region ?_
    refine WL.v (RV.move rfl) rfl ?_
    refine WL.v (RV.move rfl) rfl ?_
    refine WL.call Tryz.call60 rfl (scNext_ret seg bv (atOf (decP seg) i) w1 hs1 hlt) rfl ?_
    rw [hd]
    rintro v w2 ⟨rfl, hE2⟩
    have hX2 : Upd (fun _ => False) O1 w1 O1 w2 := Upd.of_ext (fun h => h) O1 hE2
    have hx2 := hx1.upd hX2 (fun h => h)
    refine WL.v (RV.move rfl) rfl ?_
    refine WL.v (RV.extract rfl rfl) rfl ?_
    refine WL.v (RV.extract rfl rfl) rfl ?_
    refine WL.v (RV.assign rfl) rfl ?_
    refine WL.v (RV.assign rfl) rfl ?_
    refine WL.nil ?_
    refine QF.seqNext ?_
    refine WC.seq ?_
    refine WC.region ?_
    refine WL.v (RV.move rfl) rfl ?_
    refine WL.v (RV.move rfl) rfl ?_
    refine WL.v (RV.move rfl) rfl ?_
    refine WL.v (RV.move rfl) rfl ?_
    refine WL.v (RV.move rfl) rfl ?_
    refine WL.v (RV.add rfl rfl (Fit.i64 (by omega))) rfl ?_
    refine WL.v (RV.move rfl) rfl ?_
    refine WL.call Tryz.call41 rfl (item_any O1 w2 eb nb (((nth (decP seg) i).1, at' + ((atOf (decP seg) i : Nat) : Int), (((nth (decP seg) i).2.1 : Nat) : Int)) : It) hx2) rfl ?_
    rintro v w3 ⟨rfl, hx3, hU3⟩
    have hrow3 := (hrow.upd hX2 (by decide) (fun h => h)).upd hU3 (by decide) (by decide)
    have hR3 := (hR1.upd hX2).upd hU3
    refine WL.push elIt hrow3 hR3 ((((nth (decP seg) i).1, at' + ((atOf (decP seg) i : Nat) : Int), (((nth (decP seg) i).2.1 : Nat) : Int)) : It)) (fun _ => rfl) rfl rfl rfl (by simp [Value.oneCell', encIt]) (by omega) (by omega) (by omega) (by decide) rfl rfl ?_
    intro lv4 w4 O4 hrow4 hU4 hR4
    have hx4 := hx3.upd hU4 (by decide)
    have hz : ¬ (fun k : Nat => k = 1 ∨ k = 50) 0 := by decide
    refine WL.v (RV.assign rfl) rfl ?_
    refine WL.nil ?_
    refine QF.seqNext ?_
    refine WC.region ?_
    refine WL.v (RV.move rfl) rfl ?_
    refine WL.v (RV.move rfl) rfl ?_
    refine WL.v (RV.add rfl rfl (Fit.i64 (by omega))) rfl ?_
    refine WL.v (RV.assign rfl) rfl ?_
    refine WL.nil ?_
    refine QF.blockNormal ?_
    refine QF.next ((i + 1, O4, w4, lv4, its ++ [(((nth (decP seg) i).1, at' + ((atOf (decP seg) i : Nat) : Int), (((nth (decP seg) i).2.1 : Nat) : Int)) : It)], ((atOf (decP seg) i : Nat) : Int) + ((nth (decP seg) i).2.1 : Nat))) (⟨hin, by dsimp only; rw [hat2]; rfl, hrow4, by dsimp only; rw [List.map_append, hmap, runesM_succ seg i hin]; rfl, hx4, ((hU1.trans (hX2.mono (fun _ h => h.elim) hz)).trans (hU3.mono (fun _ h => .inl h) hz)).trans (hU4.mono (fun _ h => .inr h) hz)⟩) (by dsimp only; omega) ⟨rfl, rfl, rfl, rfl, rfl, trivial⟩ rfl
  · intro hge
    replace hge : ¬ atOf (decP seg) i < seg.length := by have := of_decide_eq_false hge; omega
    obtain rfl : i = (decP seg).length := Nat.le_antisymm hi (Nat.le_of_not_lt fun e => hge (hp2 e).2)
    have hUf : Upd (fun k => k = 1) Os w Os w1 := Upd.forget hU1 (fun b hb => hb.resolve_right (hOs50 b)) (by decide)
    obtain ⟨hf1, hf2⟩ := hfin w1 ⟨⟨hx1.blk.blk, hx0.blk.tag⟩, ⟨hx1.n0.cell, hx0.n0.free⟩, ⟨hx1.n1.cell, hx0.n1.free⟩, ⟨hx1.n2.cell, hx0.n2.free⟩⟩ hUf
    rw [← runesM_len, List.take_length] at hmap
    refine WC.exit ?_
    refine QF.thenExit ?_
    refine QF.thenExit ?_
    refine QF.blockHit ?_
    refine QF.seqNext ?_
    refine WC.seq ?_
    refine WC.region ?_
    refine WL.v (RV.move rfl) rfl ?_
    refine WL.v (RV.assign rfl) rfl ?_
    refine WL.nil ?_
    refine QF.seqNext ?_
    refine WC.ret ?_
    refine QF.done1 rfl rfl (⟨its, hrow.sl, fun a n c e => ?_, hmap, hf1, hf2⟩)
    have htg := hrow.1.tag a.block (by rw [e]; rfl)
    rcases hU1.new a.block (by rw [htg]; decide) with h1 | h1
    · have := hU1.tag _ h1; rw [htg] at this; exact absurd this.symm (hOs50 _)
    · exact h1.1
theorem takeText_ret (O : Nat → Nat) (w : World) (eb nb : Nat) (f t : Nat) (seg : List UInt8) (bv : Value) (h : Ex O w eb nb) (hs : Bytes w bv seg) (hbv : Free O w bv) (hf : f ≤ 1000000000) (hl : seg.length ≤ 1000000000) :
    Ret Tryz.prog 23 [.pointer (some ⟨eb, 0, none⟩), tokV (0, f, t, 0), bv] w fun v w' => ∃ its, Sl encIt 7 w' v its ∧ Fresh w v ∧ its.map (·.1) = runesM seg ∧ Ex O w' eb nb ∧ Upd (fun k => k = 1) O w O w' := by
  refine Ret.enter Tryz.func23 Tryz.ntmps23 rfl rfl ?_
  refine WC.seq ?_
  refine WC.region ?_
  refine WL.boxO (Rng.start w) 1 (by omega) rfl rfl ?_
  intro tb w1 O1 ht1 hU1 hR1 hE1
  have hX1 : Upd (fun _ => False) O w O w1 := Upd.of_ext (fun h => h) O hE1
  have h1 := h.upd hX1 (fun h => h)
  have c0 : w1.cell? ((⟨tb, 0, none⟩ : Addr).add 0) = some (.int .i64 0) := ht1.cell 0 rfl
  have c1 : w1.cell? ((⟨tb, 0, none⟩ : Addr).add 1) = some (.int .i64 f) := ht1.cell 1 rfl
  have e0 : w1.cell? ((⟨eb, 0, none⟩ : Addr).add 0) = some (.pointer (some ⟨nb, 0, none⟩)) := h1.blk.cell 0 rfl
  refine WL.v (RV.assign rfl) rfl ?_
  refine WL.nil ?_
  refine QF.seqNext ?_
  refine WC.seq ?_
  refine WC.seq ?_
  refine WC.region ?_
  refine WL.v (RV.move rfl) rfl ?_
  refine WL.v (RV.eqlNilP (q := some ⟨eb, 0, none⟩) Tryz.underlying51 rfl rfl) rfl ?_
  refine WL.nil ?_
  refine QF.seqNext ?_
  refine WC.condF rfl (rfl) ?_
  refine WC.skip ?_
  refine QF.seqNext ?_
  refine WC.seq ?_
  refine WC.block ?_
  refine WC.seq ?_
  refine WC.region ?_
  refine WL.v (RV.fieldAddr 0 Tryz.underlying56 rfl rfl (Tryz.sizeOf3 _) (by decide) rfl) rfl ?_
  refine WL.v (RV.load (by first | exact c0) (Tryz.isAgg3 _) rfl) rfl ?_
  refine WL.v (RV.eql rfl rfl) rfl ?_
  refine WL.v (RV.move rfl) rfl ?_
  refine WL.know (d := 15) rfl (b' := false) (rfl) ?_
  refine WL.on rfl ?_
  refine WL.v (RV.fieldAddr 0 Tryz.underlying56 rfl rfl (Tryz.sizeOf3 _) (by decide) rfl) rfl ?_
  refine WL.on rfl ?_
  refine WL.v (RV.load (by first | exact c0) (Tryz.isAgg3 _) rfl) rfl ?_
  refine WL.on rfl ?_
  refine WL.v (RV.eql rfl rfl) rfl ?_
  refine WL.v (RV.pickF rfl rfl) rfl ?_
  refine WL.v (RV.assign rfl) rfl ?_
  refine WL.nil ?_
  refine QF.seqNext ?_
  refine WC.condF rfl (rfl) ?_
  refine WC.seq ?_
  refine WC.region ?_
  refine WL.v (RV.move rfl) rfl ?_
  refine WL.v (RV.nilPtr rfl) rfl ?_
  refine WL.v (RV.fieldAddr 0 Tryz.underlying100 rfl rfl (Tryz.sizeOf97 _) (by decide) rfl) rfl ?_
  refine WL.v (RV.load (by first | exact e0) (Tryz.isAgg97 _) rfl) rfl ?_
  refine WL.call Tryz.call39 rfl (nestHidden_ret nb w1 h1.n0.cell) rfl ?_
  rintro v w9 ⟨rfl, hw9⟩
  rw [hw9]
  clear hw9 w9
  refine WL.v (RV.gtr rfl rfl) rfl ?_
  refine WL.v (RV.assign rfl) rfl ?_
  refine WL.nil ?_
  refine QF.seqNext ?_
  refine WC.condF rfl (rfl) ?_
  refine WC.seq ?_
  refine WC.region ?_
  refine WL.v (RV.fieldAddr 0 Tryz.underlying56 rfl rfl (Tryz.sizeOf3 _) (by decide) rfl) rfl ?_
  refine WL.v (RV.load (by first | exact c0) (Tryz.isAgg3 _) rfl) rfl ?_
  refine WL.v (RV.eql rfl rfl) rfl ?_
  refine WL.v (RV.assign rfl) rfl ?_
  refine WL.nil ?_
  refine QF.seqNext ?_
  refine WC.condT rfl (rfl) ?_
  refine WC.seq ?_
  refine WC.region ?_
  refine WL.v (RV.move rfl) rfl ?_
  refine WL.v (RV.fieldAddr 1 Tryz.underlying56 rfl rfl (Tryz.sizeOf3 _) (by decide) rfl) rfl ?_
  refine WL.v (RV.load (by first | exact c1) (Tryz.isAgg3 _) rfl) rfl ?_
  refine WL.v (RV.move rfl) rfl ?_
  refine WL.call Tryz.call40 rfl (exText_ret O w1 eb nb (f : Int) seg bv h1 (hs.ext hE1) (hbv.upd hX1) ⟨by omega, by omega⟩ hl) rfl ?_
  rintro v w2 ⟨its, g1, g2, g3, g4, g5⟩
  refine WL.v (RV.assign rfl) rfl ?_
  refine WL.nil ?_
  refine QF.seqNext ?_
  refine WC.ret ?_
  refine QF.blockRet ?_
  refine QF.thenRet ?_
  refine QF.done1 rfl rfl (⟨its, g1, fun a n c e => Nat.le_trans hE1.size (g2 a n c e), g3, g4, (hX1.mono (fun _ h => h.elim) (by decide)).trans g5⟩)
theorem takeRef_ret (O : Nat → Nat) (w : World) (eb nb : Nat) (f t : Nat) (r : Int) (bv : Value) (h : Ex O w eb nb) (hf : f ≤ t) (ht : t ≤ 1000000000) :
    Ret Tryz.prog 23 [.pointer (some ⟨eb, 0, none⟩), tokV (1, f, t, r), bv] w fun v w' => ∃ its, Sl encIt 7 w' v its ∧ Fresh w v ∧ its.map (·.1) = [r] ∧ Ex O w' eb nb ∧ Upd (fun k => k = 1) O w O w' := by
  refine Ret.enter Tryz.func23 Tryz.ntmps23 rfl rfl ?_
  refine WC.seq ?_
  refine WC.region ?_
  refine WL.boxO (Rng.start w) 1 (by omega) rfl rfl ?_
  intro tb w1 O1 ht1 hU1 hR1 hE1
  have hX1 : Upd (fun _ => False) O w O w1 := Upd.of_ext (fun h => h) O hE1
  have h1 := h.upd hX1 (fun h => h)
  have c0 : w1.cell? ((⟨tb, 0, none⟩ : Addr).add 0) = some (.int .i64 1) := ht1.cell 0 rfl
  have c1 : w1.cell? ((⟨tb, 0, none⟩ : Addr).add 1) = some (.int .i64 f) := ht1.cell 1 rfl
  have c2 : w1.cell? ((⟨tb, 0, none⟩ : Addr).add 2) = some (.int .i64 t) := ht1.cell 2 rfl
  have c4 : w1.cell? ((⟨tb, 0, none⟩ : Addr).add 4) = some (.int .i32 r) := ht1.cell 4 rfl
  have e0 : w1.cell? ((⟨eb, 0, none⟩ : Addr).add 0) = some (.pointer (some ⟨nb, 0, none⟩)) := h1.blk.cell 0 rfl
  refine WL.v (RV.assign rfl) rfl ?_
  refine WL.nil ?_
  refine QF.seqNext ?_
  refine WC.seq ?_
  refine WC.seq ?_
  refine WC.region ?_
  refine WL.v (RV.move rfl) rfl ?_
  refine WL.v (RV.eqlNilP (q := some ⟨eb, 0, none⟩) Tryz.underlying51 rfl rfl) rfl ?_
  refine WL.nil ?_
  refine QF.seqNext ?_
  refine WC.condF rfl (rfl) ?_
  refine WC.skip ?_
  refine QF.seqNext ?_
  refine WC.seq ?_
  refine WC.block ?_
  refine WC.seq ?_
  refine WC.region ?_
  refine WL.v (RV.fieldAddr 0 Tryz.underlying56 rfl rfl (Tryz.sizeOf3 _) (by decide) rfl) rfl ?_
  refine WL.v (RV.load (by first | exact c0) (Tryz.isAgg3 _) rfl) rfl ?_
  refine WL.v (RV.eql rfl rfl) rfl ?_
  refine WL.v (RV.move rfl) rfl ?_
  refine WL.know (d := 15) rfl (b' := false) (rfl) ?_
  refine WL.on rfl ?_
  refine WL.v (RV.fieldAddr 0 Tryz.underlying56 rfl rfl (Tryz.sizeOf3 _) (by decide) rfl) rfl ?_
  refine WL.on rfl ?_
  refine WL.v (RV.load (by first | exact c0) (Tryz.isAgg3 _) rfl) rfl ?_
  refine WL.on rfl ?_
  refine WL.v (RV.eql rfl rfl) rfl ?_
  refine WL.v (RV.pickF rfl rfl) rfl ?_
  refine WL.v (RV.assign rfl) rfl ?_
  refine WL.nil ?_
  refine QF.seqNext ?_
  refine WC.condF rfl (rfl) ?_
  refine WC.seq ?_
  refine WC.region ?_
  refine WL.v (RV.move rfl) rfl ?_
  refine WL.v (RV.nilPtr rfl) rfl ?_
  refine WL.v (RV.fieldAddr 0 Tryz.underlying100 rfl rfl (Tryz.sizeOf97 _) (by decide) rfl) rfl ?_
  refine WL.v (RV.load (by first | exact e0) (Tryz.isAgg97 _) rfl) rfl ?_
  refine WL.call Tryz.call39 rfl (nestHidden_ret nb w1 h1.n0.cell) rfl ?_
  rintro v w9 ⟨rfl, hw9⟩
  rw [hw9]
  clear hw9 w9
  refine WL.v (RV.gtr rfl rfl) rfl ?_
  refine WL.v (RV.assign rfl) rfl ?_
  refine WL.nil ?_
  refine QF.seqNext ?_
  refine WC.condF rfl (rfl) ?_
  refine WC.seq ?_
  refine WC.region ?_
  refine WL.v (RV.fieldAddr 0 Tryz.underlying56 rfl rfl (Tryz.sizeOf3 _) (by decide) rfl) rfl ?_
  refine WL.v (RV.load (by first | exact c0) (Tryz.isAgg3 _) rfl) rfl ?_
  refine WL.v (RV.eql rfl rfl) rfl ?_
  refine WL.v (RV.assign rfl) rfl ?_
  refine WL.nil ?_
  refine QF.seqNext ?_
  refine WC.condF rfl (rfl) ?_
  refine WC.seq ?_
  refine WC.region ?_
  refine WL.v (RV.fieldAddr 0 Tryz.underlying56 rfl rfl (Tryz.sizeOf3 _) (by decide) rfl) rfl ?_
  refine WL.v (RV.load (by first | exact c0) (Tryz.isAgg3 _) rfl) rfl ?_
  refine WL.v (RV.eql rfl rfl) rfl ?_
  refine WL.v (RV.assign rfl) rfl ?_
  refine WL.nil ?_
  refine QF.seqNext ?_
  refine WC.condT rfl (rfl) ?_
  refine WC.seq ?_
  refine WC.region ?_
  refine WL.v (RV.move rfl) rfl ?_
  refine WL.v (RV.fieldAddr 4 Tryz.underlying56 rfl rfl (Tryz.sizeOf21 _) (by decide) rfl) rfl ?_
  refine WL.v (RV.load (by first | exact c4) (Tryz.isAgg21 _) rfl) rfl ?_
  refine WL.v (RV.fieldAddr 1 Tryz.underlying56 rfl rfl (Tryz.sizeOf3 _) (by decide) rfl) rfl ?_
  refine WL.v (RV.load (by first | exact c1) (Tryz.isAgg3 _) rfl) rfl ?_
  refine WL.v (RV.fieldAddr 2 Tryz.underlying56 rfl rfl (Tryz.sizeOf3 _) (by decide) rfl) rfl ?_
  refine WL.v (RV.load (by first | exact c2) (Tryz.isAgg3 _) rfl) rfl ?_
  refine WL.v (RV.fieldAddr 1 Tryz.underlying56 rfl rfl (Tryz.sizeOf3 _) (by decide) rfl) rfl ?_
  refine WL.v (RV.load (by first | exact c1) (Tryz.isAgg3 _) rfl) rfl ?_
  refine WL.v (RV.sub rfl rfl (Fit.i64 (by omega))) rfl ?_
  refine WL.call Tryz.call41 rfl (item_any O w1 eb nb (r, (f : Int), (t : Int) - f) h1) rfl ?_
  rintro v w2 ⟨rfl, hx2, hU2⟩
  have hsz : w1.heap.size ≤ w2.heap.size := hU2.size
  refine WL.buildOne2 elIt (enc := encIt) ((r, (f : Int), (t : Int) - f) : It) rfl rfl rfl (by decide) rfl ?_
  intro w3 h3 hE3
  have hX3 : Upd (fun _ => False) O w2 O w3 := Upd.of_ext (fun h => h) O hE3
  have hz : ¬ (fun k : Nat => k = 1) 0 := by decide
  refine WL.v (RV.assign rfl) rfl ?_
  refine WL.nil ?_
  refine QF.seqNext ?_
  refine WC.ret ?_
  refine QF.blockRet ?_
  refine QF.thenRet ?_
  refine QF.done1 rfl rfl (⟨[(r, (f : Int), (t : Int) - f)], h3, fun a n c e => by cases e; exact Nat.le_trans hE1.size hsz, rfl, hx2.upd hX3 (fun h => h), ((hX1.mono (fun _ h => h.elim) hz).trans hU2).trans (hX3.mono (fun _ h => h.elim) hz)⟩)
end Go.Proofs.YtakigpnccppheaaGreatDoor
