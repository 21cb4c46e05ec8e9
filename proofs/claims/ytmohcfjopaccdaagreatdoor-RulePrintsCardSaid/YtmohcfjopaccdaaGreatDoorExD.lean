/- Package expr, walked: named, one, brackets, atom, often. -/
import Derived.Test.YtmohcfjopaccdaaGreatDoorExC
namespace Go.VL
section
variable {P : Program} {N : Nat} {ops : Array Oper} {Q : Exit → Act → World → Prop} {rest : List Oper} {st : St} {w : World}
variable {t : TypeId} {p : String} {e : Array Edge} {d : Nat} {x y z : Operand}
/-- A slice of one element, which its maker owns. -/
theorem WL.buildOneO {T E : TypeId} {sz bytes : Nat} (he : Elem P T E sz bytes) {α : Type} {enc : α → List Value} {B : Nat} {O : Nat → Nat} (r : Rng B O w) (i : Nat) (hi0 : i ≠ 0) (u : α) {xv : Value} (hx : ev st x = some xv) (hxv : xv.cells.toList = enc u) (hul : (enc u).length = sz) (hs : sz ≤ 16777216) (hd : Nat.blt d N = true)
    (h : ∀ v w' O', RowT enc E sz O' w' i v [u] → Upd (fun k => k = i) O w O' w' → Rng B O' w' → WL P N ops Q rest ((d, v) :: st) w') : WL P N ops Q (⟨some d, .buildSlice T 1 #[(0, x)], t, p, e, none⟩ :: rest) st w := by
  obtain ⟨inf, z, hi, hz, hsz, hby, hzs⟩ := he.parts
  have hcs : xv.cells.size = sz := by rw [← hul, ← hxv]; simp
  have hpos := he.pos
  have u1 := Upd.alloc (S := fun k => k = i) (fun e => hi0 e.symm) r (.cells xv.cells E) i
  refine WL.val (v := .slice (some ⟨w.heap.size, 0, none⟩) 1 1) (w' := w.alloc (.cells xv.cells E)) hd (fun a ha => ?_) (h _ _ (own1 O w.heap.size i) ⟨⟨?_, fun g hg => ?_⟩, fun c hc => by rw [List.mem_singleton.1 hc]; exact hul⟩ u1 (r.upd u1))
  · have := run_buildSlice (P := P) w T E 1 #[(0, xv)] xv.cells inf z he.ht hi hz (by rw [hsz]; omega) (by rw [hsz]; omega) (by
      rw [hsz]
      exact fill_one hcs (by simp))
    simp only [execOp, List.map_toArray, List.map_cons, List.map_nil, ha.ev hx, Sem.run_bind, this, Result.andThen_ok]
    rfl
  · have := World.ownsRow_lit (base := 0) (size := sz) (e := E) w xv.cells 1 (Nat.zero_le _) (by simp [maxLen]) (by omega)
    simpa [hxv] using this
  · simp [Value.ownBlock] at hg; subst hg; exact own1_at _ _ _
end
section
variable {P : Program} {N : Nat} {st : St} {w : World} {fn : Func} {R : Value → World → Prop}
theorem Leave.doneC1 {t : Tmp} {T : TypeId} {q : Addr} {us : List Value} (hr : fn.results = #[.cell t T]) (hv : sget st t = some (.pointer (some q)))
    (hc : ∀ j u, us[j]? = some u → w.cell? (q.add j) = some u) (hT : (isAgg T).run P w = .ok true w) (hn : (sizeOf T).run P w = .ok us.length w) (h : R (.agg us.toArray) w) : Leave P N fn R [] st w :=
  Leave.nil (fun a ha => by have h1 := ha.get _ _ hv; simp [results, hr, Array.getD_eq_getD_getElem?, h1, asAddr, run_loadVar_agg hc hT hn]) h
end
/-- A block that came to be in a call is its caller's. -/
theorem Upd.adopt {S : Nat → Prop} {B D : Nat} {O O' : Nat → Nat} {w w' W : World} (h : Upd S O w O' w') (r : Rng B O' w') (hE : Ext w' W) (hD : w'.heap.size ≤ D) (hl : D < W.heap.size) (i : Nat) : Upd S O w (own1 O' D i) W ∧ Rng B (own1 O' D i) W := by
  refine ⟨⟨hE.os.trans h.os, hE.tape.trans h.tape, hE.output.trans h.output, Nat.le_trans h.size hE.size, fun b hb hn => (hE.block b (Nat.lt_of_lt_of_le hb h.size)).trans (h.blk b hb hn), fun b hb => ?_, fun b hb => ?_, h.z⟩, ⟨Nat.le_trans r.le hE.size, fun b hb => ?_⟩⟩
  · have h1 := h.tag b hb
    have h2 := r.rng b (by rw [h1]; exact hb)
    unfold own1; rw [if_neg (by omega)]; exact h1
  · unfold own1 at hb
    split at hb
    · rename_i e; subst e; exact .inr ⟨by have := h.size; omega, hl⟩
    · rcases h.new b hb with h1 | h1
      · exact .inl h1
      · exact .inr ⟨h1.1, Nat.lt_of_lt_of_le h1.2 hE.size⟩
  · unfold own1 at hb
    split at hb
    · rename_i e; subst e; exact ⟨Nat.le_trans r.le hD, hl⟩
    · exact ⟨(r.rng b hb).1, Nat.lt_of_lt_of_le (r.rng b hb).2 hE.size⟩
theorem BlkO.adopt {D i j b : Nat} {O : Nat → Nat} {w W : World} {cs : Array Value} {E : TypeId} (h : BlkO O w j b cs E) (hE : Ext w W) (hD : w.heap.size ≤ D) : BlkO (own1 O D i) W j b cs E :=
  ⟨(hE.block b (heap_lt h.blk)).trans h.blk, by have := heap_lt h.blk; unfold own1; rw [if_neg (by omega)]; exact h.tag⟩
end Go.VL
namespace Go.Proofs.YtmohcfjopaccdaaGreatDoor
open Go.VL Go.Proofs
set_option maxRecDepth 10000

theorem nv_ok {x : N3} (h : x.2.2.oneCell' = true) : (#[.int .i64 x.1, .int .i64 x.2.1, x.2.2] : Array Value).toList.all Value.oneCell' = true := by
  simp only [List.all_cons, h]; rfl
theorem sl0 (w : World) : Sl encN 3 w (.slice none 0 0) ([] : List N3) := ⟨⟨none, 0, rfl, Nat.le_refl _, by omega, fun h => absurd rfl h⟩, fun i hi => absurd hi (by simp)⟩
theorem backward_ret (w : World) : Ret Tryz.prog 147 [.slice none 0 0] w fun v w' => ∃ b, v = .func (.func 148) #[] #[.pointer (some ⟨b, 0, none⟩)] ∧ w'.cell? ⟨b, 0, none⟩ = some (.slice none 0 0) ∧ Ext w w' := by
  refine Ret.enter Tryz.func147 Tryz.ntmps147 rfl rfl ?_
  refine WC.seq ?_
  refine WC.region ?_
  refine WL.boxO (Rng.start w) 1 (by omega) rfl rfl ?_
  intro b w1 O1 hb hU1 hR1 hE1
  refine WL.v (RV.assign rfl) rfl ?_
  refine WL.nil ?_
  refine QF.seqNext ?_
  refine WC.seq ?_
  refine WC.region ?_
  refine WL.v (RV.mkFunc rfl rfl) rfl ?_
  refine WL.v (RV.assign rfl) rfl ?_
  refine WL.nil ?_
  refine QF.seqNext ?_
  refine WC.ret ?_
  refine QF.done1 rfl rfl (⟨b, rfl, hb.cell 0 rfl, hE1⟩)
theorem backward1_ret (b : Nat) (y : Value) (w : World) (h : w.cell? ⟨b, 0, none⟩ = some (.slice none 0 0)) : Ret Tryz.prog 148 [y, .pointer (some ⟨b, 0, none⟩)] w fun _ w' => Ext w w' := by
  refine Ret.enter Tryz.func148 Tryz.ntmps148 rfl rfl ?_
  refine WC.seq ?_
  refine WC.region ?_
  refine WL.v (RV.load (by first | exact h) (Tryz.isAgg54 _) rfl) rfl ?_
  refine WL.v (RV.len (by first | exact sl0 w) Tryz.underlying54 rfl) rfl ?_
  refine WL.v (RV.sub rfl rfl (Fit.i64 (by simp))) rfl ?_
  refine WL.v (RV.assign rfl) rfl ?_
  refine WL.nil ?_
  refine QF.seqNext ?_
  refine WC.block ?_
  refine WC.loop (fun x : Nat => [(0, y), (1, .pointer (some ⟨b, 0, none⟩)), (3, .int .i64 (-1))]) (fun x : Nat => w) (fun x : Nat => True) (fun x : Nat => 0) 0 (trivial) ⟨rfl, rfl, rfl, trivial⟩ rfl ?_
  rintro k hk
  refine WC.seq ?_
  refine WC.seq ?_
  refine WC.region ?_
  refine WL.v (RV.move rfl) rfl ?_
  refine WL.v (RV.geq rfl rfl) rfl ?_
  refine WL.nil ?_
  refine QF.seqNext ?_
  refine WC.condF rfl (rfl) ?_
  refine WC.exit ?_
  refine QF.thenExit ?_
  refine QF.thenExit ?_
  refine QF.blockHit ?_
  refine QF.end0 rfl (Ext.refl w)
theorem named_ret (op : Int) (hop : 0 ≤ op ∧ op ≤ 20) : Reads 141 [] op namedM (fun r => letterB (r.headD 0) = true) := by
  intro B O j rb l r w hR hj hr hl hpre h
  obtain ⟨T, hT0, hT⟩ := hR.bound
  have hjT : j < T := by rw [← h.tag]; exact hT rb
  have hrl := hr.length_le
  refine Ret.enterM Tryz.func141 Tryz.ntmps141 rfl rfl ?_
  refine WI.seq ?_
  refine WI.region (by first | exact .inl rfl | exact .inr rfl) (fun _ _ h => h) ?_
  refine WL.allocO hR T (by omega) (Tryz.zeroValue48 _) rfl ?_
  intro xb w1 O1 hx1 hU1 hR1 hE1
  have hb1 := h.upd hU1 hj (by omega)
  refine WL.nil ?_
  refine QF.dn ?_
  refine QI.seqNext ?_
  refine WI.seq ?_
  refine WI.region (by first | exact .inl rfl | exact .inr rfl) (fun _ _ h => h) ?_
  refine WL.v (RV.move rfl) rfl ?_
  refine WL.v (RV.nilPtr rfl) rfl ?_
  refine WL.v (RV.fieldAddr 0 Tryz.underlying125 rfl rfl (Tryz.sizeOf123 _) (by decide) rfl) rfl ?_
  refine WL.v (RV.fieldAddr 1 Tryz.underlying123 rfl rfl (Tryz.sizeOf3 _) (by decide) rfl) rfl ?_
  refine WL.v (RV.load (by first | exact hb1.r0 | exact hb1.r1 | exact hb1.r2 | exact hb1.r3 | exact hb1.r4 | exact hb1.r5) (Tryz.isAgg3 _) rfl) rfl ?_
  refine WL.v (RV.assign rfl) rfl ?_
  refine WL.nil ?_
  refine QF.dn ?_
  refine QI.seqNext ?_
  refine WI.seq ?_
  refine WI.region (by first | exact .inl rfl | exact .inr rfl) (fun _ _ h => h) ?_
  refine WL.v (RV.move rfl) rfl ?_
  refine WL.v (RV.nilPtr rfl) rfl ?_
  refine WL.v (RV.fieldAddr 0 Tryz.underlying125 rfl rfl (Tryz.sizeOf123 _) (by decide) rfl) rfl ?_
  refine WL.call Tryz.call146 rfl (name_ret O1 w1 j rb l r op 0 0 hj hr (by omega) hb1) rfl ?_
  rintro v w2 ⟨rfl, hb2, hU2⟩
  have hx2 := hx1.upd hU2 (by omega) (by omega)
  have hR2 := hR1.upd hU2
  have hUt := (hU1.pT hj hT0 (Nat.le_refl _)).trans (hU2.pj hT0)
  refine WL.allocO hR2 (T + 1) (by omega) (Tryz.zeroValue9 _) rfl ?_
  intro sb w3 O3 hs3 hU3 hR3 hE3
  refine WL.storeBlk (j := 0) hs3 rfl (Tryz.sizeOf9 _) rfl rfl rfl rfl ?_
  have hs4 := hs3.set 0 (.string (bs (r.takeWhile letterB)))
  have hU4 : Upd (fun k => k = T + 1) O3 w3 O3 (w3.setCell ⟨sb, 0, none⟩ (.string (bs (r.takeWhile letterB)))) := Upd.set (by omega) hs3.tag rfl
  have hU34 := hU3.trans hU4
  have hx4 := hx2.upd hU34 (by omega) (by omega)
  have hb4 := hb2.upd hU34 hj (by omega)
  have hR4 := hR2.upd hU34
  have hUt4 := hUt.trans (hU34.pT hj hT0 (Nat.le_succ _))
  generalize w3.setCell ⟨sb, 0, none⟩ (.string (bs (r.takeWhile letterB))) = w4 at *
  refine WL.nil ?_
  refine QF.dn ?_
  refine QI.seqNext ?_
  refine WI.seq ?_
  refine WI.seq ?_
  refine WI.region (by first | exact .inl rfl | exact .inr rfl) (fun _ _ h => h) ?_
  refine WL.v (RV.load (by first | exact hs4.cell 0 rfl) (Tryz.isAgg9 _) rfl) rfl ?_
  refine WL.v (RV.eqlS rfl rfl) rfl ?_
  refine WL.nil ?_
  refine QF.dn ?_
  refine QI.seqNext ?_
  by_cases ha : r.takeWhile letterB = [97, 110, 121]
  · have hM : namedM r = .ok (.mk 1 0 []) (r.dropWhile letterB) := by unfold namedM; rw [if_pos ha]
    refine WI.condT rfl ((by rw [ha]; rfl)) ?_
    refine WI.seq ?_
    refine WI.region (by first | exact .inl rfl | exact .inr rfl) (fun _ _ h => h) ?_
    refine WL.v (RV.buildF pl48 (Tryz.zeroValue48 _) rfl (by first | rfl | (simp only [List.all_cons, List.all_nil]; rfl)) rfl rfl) rfl ?_
    refine WL.storeAgg (us := (#[.int .i64 1, .int .i64 0, .slice none 0 0])) hx4 rfl (Tryz.sizeOf48 _) rfl rfl rfl rfl ?_
    have hx5 := BlkO.setRow (us := (#[.int .i64 1, .int .i64 0, .slice none 0 0])) hx4
    have hU5 : Upd (fun k => k = T) O3 w4 O3 (World.setRow w4 xb (#[.int .i64 1, .int .i64 0, .slice none 0 0])) := Upd.setRow (by omega) (BlkO.tag hx4) rfl
    have hb5 := BlkO.upd hb4 hU5 hj (by omega)
    refine WL.nil ?_
    refine QF.dn ?_
    refine QI.seqNext ?_
    refine WI.ret ?_
    refine QI.thenRet ?_
    refine QI.leave (Leave.doneC1 rfl rfl hx5.cellsAdd (Tryz.isAgg48 _) (Tryz.sizeOf48 _) ⟨(1, 0, .slice none 0 0), rfl, (hUt4.trans (hU5.pT hj hT0 (Nat.le_refl _))).priv hT hj, ?_⟩)
    rw [hM]
    exact ⟨hb5.fgt h.tag, Nt.leaf _ _ _ _⟩
  · have hM : namedM r = classM 0 r := by unfold namedM; rw [if_neg ha]
    refine WI.condF rfl ((by simpa using ha)) ?_
    refine WI.skip ?_
    refine QI.seqNext ?_
    refine WI.seq ?_
    refine WI.seq ?_
    refine WI.region (by first | exact .inl rfl | exact .inr rfl) (fun _ _ h => h) ?_
    refine WL.v (RV.move rfl) rfl ?_
    refine WL.v (RV.nilPtr rfl) rfl ?_
    refine WL.v (RV.fieldAddr 2 Tryz.underlying125 rfl rfl (Tryz.sizeOf54 _) (by decide) rfl) rfl ?_
    refine WL.v (RV.load (by first | exact hb4.r0 | exact hb4.r1 | exact hb4.r2 | exact hb4.r3 | exact hb4.r4 | exact hb4.r5) (Tryz.isAgg54 _) rfl) rfl ?_
    refine WL.call Tryz.call147 rfl (backward_ret w4) rfl ?_
    rintro v w5 ⟨b, rfl, hbc, hE5⟩
    have hX5 : Upd (fun _ => False) O3 w4 O3 w5 := Upd.of_ext (fun h => h) O3 hE5
    have hx5 := hx4.upd hX5 (by omega) (fun h => h)
    have hb5 := hb4.upd hX5 hj (fun h => h)
    have hR5 := hR4.upd hX5
    have hUt5 := hUt4.trans (Upd.pE O3 hE5 hj hT0)
    refine WL.nil ?_
    refine QF.dn ?_
    refine QI.seqNext ?_
    refine WI.block ?_
    refine WI.rangeFunc0 rfl Tryz.call148 (fun l W hE => backward1_ret b _ W (hE.cell hbc)) ?_
    rintro D w6 hE6 hD hm
    refine QI.blockNormal ?_
    refine QI.seqNext ?_
    obtain ⟨hUt6, hR6⟩ := hUt5.adopt hR5 hE6 hD (heap_lt hm) (T + 2)
    have hx6 : BlkO (own1 O3 D (T + 2)) w6 T xb _ _ := hx5.adopt hE6 hD
    have hb6 : BlkO (own1 O3 D (T + 2)) w6 j rb _ _ := hb5.adopt hE6 hD
    have hoD : own1 O3 D (T + 2) D = T + 2 := own1_at _ _ _
    generalize own1 O3 D (T + 2) = O6 at *
    refine WI.seq ?_
    refine WI.region (by first | exact .inl rfl | exact .inr rfl) (fun _ _ h => h) ?_
    refine WL.v (RV.move rfl) rfl ?_
    refine WL.v (RV.move rfl) rfl ?_
    refine WL.v (RV.nilPtr rfl) rfl ?_
    refine WL.v (RV.fieldAddr 0 Tryz.underlying125 rfl rfl (Tryz.sizeOf123 _) (by decide) rfl) rfl ?_
    refine WL.v (RV.fieldAddr 1 Tryz.underlying123 rfl rfl (Tryz.sizeOf3 _) (by decide) rfl) rfl ?_
    refine WL.storeBlk (j := 1) hb6 rfl (Tryz.sizeOf3 _) rfl rfl rfl rfl ?_
    have hb7 := hb6.rAt ((l.length : Int) - (r.length : Int))
    have hU7 : Upd (fun k => k = j) O6 w6 O6 (w6.setCell ⟨rb, 1, none⟩ (.int .i64 ((l.length : Int) - (r.length : Int)))) := Upd.set (fun e => hj e.symm) hb6.tag rfl
    have hx7 := hx6.upd hU7 (by omega) (by omega)
    have hR7 := hR6.upd hU7
    have hm7 := (hU7.blk D (heap_lt hm) (by omega)).trans hm
    have hUt7 := hUt6.trans (hU7.pj hT0)
    generalize w6.setCell ⟨rb, 1, none⟩ (.int .i64 ((l.length : Int) - (r.length : Int))) = w7 at *
    refine WL.nil ?_
    refine QF.dn ?_
    refine QI.seqNext ?_
    refine WI.seq ?_
    refine WI.region (by first | exact .inl rfl | exact .inr rfl) (fun _ _ h => h) ?_
    refine WL.v (RV.move rfl) rfl ?_
    refine WL.call Tryz.call142 rfl (class_ret 0 op hop B O6 j rb l r w7 hR7 hj hr hl trivial hb7) rfl ?_
    rintro v w8 ⟨x, rfl, hU8, hP8⟩
    have hx8 := hx7.upd hU8 (by omega) (by omega)
    have hm8 := (hU8.blk D (heap_lt hm7) (by omega)).trans hm7
    have hxo : x.2.2.oneCell' = true := by
      cases hc : classM 0 r with
      | ok t r' => rw [hc] at hP8; exact hP8.2.one
      | bad p e => rw [hc] at hP8; exact hP8.1
    refine WL.storeAgg (us := #[.int .i64 x.1, .int .i64 x.2.1, x.2.2]) hx8 rfl (Tryz.sizeOf48 _) (nv_ok hxo) rfl rfl rfl ?_
    have hx9 := hx8.setRow (us := #[.int .i64 x.1, .int .i64 x.2.1, x.2.2])
    have hU9 : Upd (fun k => k = T) O6 w8 O6 (w8.setRow xb #[.int .i64 x.1, .int .i64 x.2.1, x.2.2]) := Upd.setRow (by omega) hx8.tag rfl
    have hm9 := (hU9.blk D (heap_lt hm8) (by omega)).trans hm8
    have hUm : Upd (fun k => k = T + 2) O6 (w8.setRow xb #[.int .i64 x.1, .int .i64 x.2.1, x.2.2]) O6 ((w8.setRow xb #[.int .i64 x.1, .int .i64 x.2.1, x.2.2]).putObj D (.deferred none)) := Upd.putObj (by omega) hoD _
    have hUe := (hU9.pT hj hT0 (Nat.le_refl _)).trans (hUm.pT hj hT0 (by omega))
    have hx10 := hx9.upd hUm (by omega) (by omega)
    refine WL.nil ?_
    refine QF.dn ?_
    refine QI.seqNext ?_
    refine WI.ret ?_
    refine QI.leave (Leave.mark hm9 (Leave.doneC1 rfl rfl hx10.cellsAdd (Tryz.isAgg48 _) (Tryz.sizeOf48 _) ⟨x, rfl, ((hUt7.trans (hU8.pj hT0)).trans hUe).priv hT hj, ?_⟩))
    rw [hM]
    cases hc : classM 0 r with
    | ok t r' =>
      rw [hc] at hP8
      exact ⟨((hP8.1.upd hU9 hj (by omega)).upd hUm hj (by omega)).fgt h.tag, (hP8.2.upd hUe).low (hUt7.trans (hU8.pj hT0))⟩
    | bad p e =>
      rw [hc] at hP8
      obtain ⟨h1, a, op', h2, h3⟩ := hP8
      exact ⟨h1, a, op', ((h2.upd hU9 hj (by omega)).upd hUm hj (by omega)).fgt h.tag, h3⟩
end Go.Proofs.YtmohcfjopaccdaaGreatDoor
