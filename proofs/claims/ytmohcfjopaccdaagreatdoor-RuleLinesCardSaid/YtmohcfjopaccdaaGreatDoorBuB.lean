/- Package strings, walked: the Builder, Grow; Join. -/
import Derived.Test.YtmohcfjopaccdaaGreatDoorVx
import Derived.Lib.MakeNoZero
import Derived.Laws.CopyRow
import Derived.Test.YtmohcfjopaccdaaGreatDoorGen
import Derived.Test.YtmohcfjopaccdaaGreatDoorProg
import Derived.Test.YtmohcfjopaccdaaGreatDoorRsE
namespace Go.Proofs.YtmohcfjopaccdaaGreatDoor
open Go.VL Go.Proofs
set_option maxRecDepth 4000

/-- A builder in a block of its own. -/
def Bld (O : Nat → Nat) (w : World) (i b j : Nat) (l : List UInt8) : Prop :=
  ∃ p v, BlkO O w i b #[p, v] 177 ∧ (p = .pointer none ∨ p = .pointer (some ⟨b, 0, none⟩)) ∧ RowT encB 5 1 O w j v l ∧ capOk v
theorem Bld.upd {S : Nat → Prop} {O O' : Nat → Nat} {w w' : World} {i b j : Nat} {l : List UInt8} (h : Bld O w i b j l) (u : Upd S O w O' w') (hi : i ≠ 0) (hj : j ≠ 0) (hSi : ¬ S i) (hSj : ¬ S j) : Bld O' w' i b j l := by
  obtain ⟨p, v, h1, h2, h3, h4⟩ := h
  exact ⟨p, v, h1.upd u hi hSi, h2, h3.upd u hj hSj, h4⟩
theorem Bld.drew {O : Nat → Nat} {w : World} {i b j : Nat} {l : List UInt8} (h : Bld O w i b j l) : Bld O w.drew i b j l := by
  obtain ⟨p, v, h1, h2, h3, h4⟩ := h
  exact ⟨p, v, h1.drew, h2, h3.drew, h4⟩

theorem noEscape_run (v : Value) (w : World) : (callFunc 144 #[v]).run Tryz.prog w = .ok (.value v) w := by
  rw [run_callFunc_extern Tryz.func144 (by kernel_rfl) (by kernel_rfl) (by kernel_rfl) (e := Extern.AbiNoEscape.same) (by kernel_rfl), Lib.run_noEscape]; rfl
theorem bldInfo : ∃ j, Tryz.prog.info? 177 = some j ∧ j.size = 2 := by
  have h : (Tryz.prog.info? 177).map (·.size) = some 2 := by kernel_rfl
  obtain ⟨j, h1, h2⟩ := Option.map_eq_some_iff.1 h
  exact ⟨j, h1, h2⟩
theorem copyCheck_ret (O : Nat → Nat) (i b : Nat) (p v : Value) (w : World) (hb : BlkO O w i b #[p, v] 177) (hp : p = .pointer none ∨ p = .pointer (some ⟨b, 0, none⟩)) (hi : i ≠ 0) :
    Ret Tryz.prog 139 [.pointer (some ⟨b, 0, none⟩)] w fun _ w' => BlkO O w' i b #[.pointer (some ⟨b, 0, none⟩), v] 177 ∧ Upd (fun k => k = i) O w O w' := by
  have hz : ¬ (fun k => k = i) 0 := fun e => hi e.symm
  obtain ⟨j, hj1, hj2⟩ := bldInfo
  obtain ⟨q, rfl, hq⟩ : ∃ q, p = .pointer q ∧ (q = none ∨ q = some ⟨b, 0, none⟩) := by rcases hp with rfl | rfl; exact ⟨_, rfl, .inl rfl⟩; exact ⟨_, rfl, .inr rfl⟩
  refine Ret.enter Tryz.func139 Tryz.ntmps139 rfl rfl ?_
  refine WC.seq ?_
  refine WC.region ?_
  refine WL.v (RV.move rfl) rfl ?_
  refine WL.v (RV.nilPtr rfl) rfl ?_
  refine WL.v (RV.fieldAddr 0 Tryz.underlying177 rfl rfl (Tryz.sizeOf175 _) (by decide) rfl) rfl ?_
  refine WL.v (RV.load (by first | exact hb.cell 0 rfl) (Tryz.isAgg175 _) rfl) rfl ?_
  refine WL.v (RV.eqlNilP (q := q) Tryz.underlying175 rfl rfl) rfl ?_
  rcases hq with rfl | rfl
  · skip
    refine WL.nil ?_
    refine QF.seqNext ?_
    refine WC.condT rfl (rfl) ?_
    refine WC.region ?_
    refine WL.v (RV.move rfl) rfl ?_
    refine WL.v (RV.move rfl) rfl ?_
    refine WL.v (RV.convA (run_convert_to_unsafe Tryz.underlying175 Tryz.underlying188 (by rw [hj1]; simp [hj2]) (hb.cell 0 rfl)) rfl) rfl ?_
    refine WL.v (RV.ext (vs := [.pointer (some ⟨b, 0, none⟩)]) (noEscape_run _ _) rfl) rfl ?_
    refine WL.v (RV.convA (Lib.run_from_unsafe (e := 177) (cells := 2) w ⟨b, 0, none⟩ Tryz.underlying188 Tryz.underlying175 hj1 (by simp [World.shape?, hb.blk]) (by kernel_rfl)) rfl) rfl ?_
    refine WL.v (RV.nilPtr rfl) rfl ?_
    refine WL.v (RV.fieldAddr 0 Tryz.underlying177 rfl rfl (Tryz.sizeOf175 _) (by decide) rfl) rfl ?_
    refine WL.storeBlk (j := 0) hb rfl (Tryz.sizeOf175 _) rfl rfl rfl rfl ?_
    refine WL.nil ?_
    exact QF.end0 rfl ⟨hb.set 0 _, Upd.set hz hb.tag rfl⟩
  · skip
    refine WL.nil ?_
    refine QF.seqNext ?_
    refine WC.condF rfl (rfl) ?_
    refine WC.seq ?_
    refine WC.region ?_
    refine WL.v (RV.move rfl) rfl ?_
    refine WL.v (RV.nilPtr rfl) rfl ?_
    refine WL.v (RV.fieldAddr 0 Tryz.underlying177 rfl rfl (Tryz.sizeOf175 _) (by decide) rfl) rfl ?_
    refine WL.v (RV.load (by first | exact hb.cell 0 rfl) (Tryz.isAgg175 _) rfl) rfl ?_
    refine WL.v (RV.move rfl) rfl ?_
    refine WL.v (RV.bin2 (eqGuard_at_pointer ..) rfl rfl (Lib.run_neq_ptr_same w ⟨b, 0, none⟩ Tryz.underlying175 hj1)) rfl ?_
    refine WL.nil ?_
    refine QF.seqNext ?_
    refine WC.condF rfl (rfl) ?_
    refine WC.skip ?_
    exact QF.end0 rfl ⟨hb, Upd.refl hz _ _⟩
theorem elU8 : Elem Tryz.prog 30 5 1 1 := ⟨Tryz.underlying30, by kernel_rfl, by decide⟩
theorem writeString_ret (O : Nat → Nat) (B i b j : Nat) (l s : List UInt8) (w : World) (hR : Rng B O w) (h : Bld O w i b j l) (hi : i ≠ 0) (hj : j ≠ 0) (hij : i ≠ j) (hn : l.length + s.length ≤ 140737488355328) :
    Ret Tryz.prog 133 [.pointer (some ⟨b, 0, none⟩), .string (bs s)] w fun _ w' => ∃ O', Bld O' w' i b j (l ++ s) ∧ Upd (fun k => k = i ∨ k = j) O w O' w' ∧ Rng B O' w' := by
  have hz : ¬ (fun k => k = i ∨ k = j) 0 := by rintro (e | e); exact hi e.symm; exact hj e.symm
  obtain ⟨p, v, hb, hp, hr, hc⟩ := h
  refine Ret.enter Tryz.func133 Tryz.ntmps133 rfl rfl ?_
  refine WC.seq ?_
  refine WC.region ?_
  refine WL.v (RV.assign rfl) rfl ?_
  refine WL.v (RV.assign rfl) rfl ?_
  refine WL.nil ?_
  refine QF.seqNext ?_
  refine WC.seq ?_
  refine WC.region ?_
  refine WL.v (RV.move rfl) rfl ?_
  refine WL.call Tryz.call139 rfl (copyCheck_ret O i b p v w hb hp hi) rfl ?_
  rintro _ w1 ⟨hb1, hU1⟩
  have hr1 := hr.upd hU1 hj (fun e => hij e.symm)
  refine WL.nil ?_
  refine QF.seqNext ?_
  refine WC.seq ?_
  refine WC.region ?_
  refine WL.v (RV.move rfl) rfl ?_
  refine WL.v (RV.move rfl) rfl ?_
  refine WL.v (RV.nilPtr rfl) rfl ?_
  refine WL.v (RV.fieldAddr 1 Tryz.underlying177 rfl rfl (Tryz.sizeOf30 _) (by decide) rfl) rfl ?_
  refine WL.v (RV.load (by first | exact hb1.cell 1 rfl) (Tryz.isAgg30 _) rfl) rfl ?_
  refine WL.v (RV.move rfl) rfl ?_
  refine WL.appendStr elU8 Tryz.underlying9 (hR.upd hU1) hr1 s rfl rfl hn hj rfl ?_
  intro v2 w2 O2 hr2 hU2 hR2 hc2
  have hb2 := hb1.upd hU2 hi hij
  refine WL.v (RV.nilPtr rfl) rfl ?_
  refine WL.v (RV.fieldAddr 1 Tryz.underlying177 rfl rfl (Tryz.sizeOf30 _) (by decide) rfl) rfl ?_
  refine WL.storeBlk (j := 1) hb2 rfl (Tryz.sizeOf30 _) hr2.one rfl rfl rfl ?_
  have hUs : Upd (fun k => k = i) O2 w2 O2 (w2.setCell ⟨b, 1, none⟩ v2) := Upd.set (fun e => hi e.symm) hb2.tag rfl
  refine WL.nil ?_
  refine QF.seqNext ?_
  refine WC.seq ?_
  refine WC.region ?_
  refine WL.v (RV.move rfl) rfl ?_
  refine WL.v (RV.lenS Tryz.underlying9 rfl) rfl ?_
  refine WL.v (RV.assign rfl) rfl ?_
  refine WL.v (RV.assign rfl) rfl ?_
  refine WL.nil ?_
  refine QF.seqNext ?_
  refine WC.ret ?_
  refine QF.done2 rfl rfl rfl (⟨O2, ⟨_, v2, hb2.set 1 v2, .inr rfl, hr2.upd hUs hj (fun e => hij e.symm), hc2 hc⟩, ((hU1.mono (fun _ e => .inl e) hz).trans (hU2.mono (fun _ e => .inr e) hz)).trans (hUs.mono (fun _ e => .inl e) hz), hR2.upd hUs⟩)
theorem bldString_ret (O : Nat → Nat) (i b j : Nat) (l : List UInt8) (w : World) (h : Bld O w i b j l) (hi : i ≠ 0) (hj : j ≠ 0) :
    Ret Tryz.prog 134 [.pointer (some ⟨b, 0, none⟩)] w fun v w' => v = .string (bs l) ∧ ∃ O', Upd (fun k => k = j) O w O' w' := by
  obtain ⟨p, v, hb, hp, hr, hc⟩ := h
  have hbd := hb.drew
  have hrd := hr.drew
  obtain ⟨q, w1, h1, h2, h3⟩ := run_strOf (P := Tryz.prog) (E := 5) (T := 30) (pt := 186) (it := 3) (ty := 186) (ty' := 9) hrd hc hj Tryz.underlying186 (by kernel_rfl)
  have hsl := hr.sl
  refine Ret.enter Tryz.func134 Tryz.ntmps134 rfl rfl ?_
  refine WC.seq ?_
  refine WC.region ?_
  refine WL.v (RV.assign rfl) rfl ?_
  refine WL.nil ?_
  refine QF.seqNext ?_
  refine WC.seq ?_
  refine WC.tail 10 rfl rfl (by kernel_rfl) (by kernel_rfl) ?_
  refine WS.v (RV.move rfl) rfl ?_
  refine WS.v (RV.nilPtr rfl) rfl ?_
  refine WS.v (RV.fieldAddr 1 Tryz.underlying177 rfl rfl (Tryz.sizeOf30 _) (by decide) rfl) rfl ?_
  refine WS.v (RV.load (by first | exact hb.cell 1 rfl) (Tryz.isAgg30 _) rfl) rfl ?_
  refine WS.v (RV.sliceData h1 rfl) rfl ?_
  refine WS.v (RV.move rfl) rfl ?_
  refine WS.v (RV.nilPtr rfl) rfl ?_
  refine WS.v (RV.fieldAddr 1 Tryz.underlying177 rfl rfl (Tryz.sizeOf30 _) (by decide) rfl) rfl ?_
  refine WS.v (RV.load (by first | exact hb.cell 1 rfl) (Tryz.isAgg30 _) rfl) rfl ?_
  refine WS.v (RV.len (by first | exact (hsl).drew) Tryz.underlying30 rfl) rfl ?_
  refine WS.go ?_
  refine WL.unsafeString h2 rfl rfl rfl ?_
  refine WL.v (RV.assign rfl) rfl ?_
  refine WL.nil ?_
  refine QF.seqNext ?_
  refine WC.ret ?_
  refine QF.done1 rfl rfl (⟨rfl, O, ⟨h3.os, h3.tape, h3.output, h3.size, h3.blk, h3.tag, h3.new, h3.z⟩⟩)


section
variable {P : Program} {N : Nat} {ops : Array Oper} {Q : Exit → Act → World → Prop} {rest : List Oper} {st : St} {w : World}
variable {t : TypeId} {p : String} {e : Array Edge} {d : Nat} {x y : Operand}
theorem RV.cap {T E : TypeId} {a : Option Addr} {n c : Nat} (hu : P.underlying T = some (.slice E)) (hx : ev st x = some (.slice a n c)) : RV P N (.call ⟨.builtin .cap, #[x], #[T]⟩) t st w (.int .i64 (c : Int)) :=
  fun q hq dst p e g => by
    simp only [execOp, resolve, List.map_toArray, List.map_cons, List.map_nil, hq.ev hx]
    simp [invoke, Go.builtin, Builtin.cap_, run_underlying hu, goInt]
/-- A copy of nothing. -/
theorem WL.copyNil {dT sT E : TypeId} {a : Addr} {n c : Nat} (hu : P.underlying dT = some (.slice E)) (hs : ((P.info? E).map (·.size)).isSome = true) (hx : ev st x = some (.slice (some a) n c)) (hy : ev st y = some (.slice none 0 0)) (hd : Nat.blt d N = true)
    (h : WL P N ops Q rest ((d, .int .i64 0) :: st) w) : WL P N ops Q (⟨some d, .call ⟨.builtin .copy, #[x, y], #[dT, sT]⟩, t, p, e, none⟩ :: rest) st w := by
  refine WL.val hd (fun q hq => ?_) h
  simp only [execOp, resolve, invoke, builtin, Sem.run_bind, Sem.run_pure, Result.andThen_ok, List.map_toArray, List.map_cons, List.map_nil, hq.ev hx, hq.ev hy, run_copy_nil (P := P) w dT sT t E a n c hu hs]
  rfl
end
theorem makeNoZero_run (n : Nat) (w : World) (hn : n ≤ 1000000000) : ∃ cs : Array Value, (callFunc 145 #[.int .i64 (n : Int)]).run Tryz.prog w = .ok (.value (.slice (some ⟨w.heap.size, 0, none⟩) n cs.size)) (w.drew.drew.alloc (.cells cs 5)) ∧ n ≤ cs.size ∧ cs.size ≤ maxLen := by
  obtain ⟨cs, h1, h2, h3⟩ := Lib.run_makeNoZero (P := Tryz.prog) w #[3] 30 5 Tryz.underlying30 n (by omega)
  refine ⟨cs, ?_, h2, h3 (by unfold maxLen; omega)⟩
  rw [run_callFunc_extern Tryz.func145 (by kernel_rfl) (by kernel_rfl) (by kernel_rfl) (e := Extern.BytealgMakeNoZero.makeNoZero #[3] #[30]) (by kernel_rfl), h1]
  rfl
theorem bgrow_ret (O : Nat → Nat) (B i b j : Nat) (p : Value) (n : Nat) (w : World) (hR : Rng B O w) (hb : BlkO O w i b #[p, .slice none 0 0] 177) (hi : i ≠ 0) (hj : j ≠ 0) (hij : i ≠ j) (hn0 : 0 < n) (hn : n ≤ 1000000000) :
    Ret Tryz.prog 140 [.pointer (some ⟨b, 0, none⟩), .int .i64 (n : Int)] w fun _ w' => ∃ O' v, BlkO O' w' i b #[p, v] 177 ∧ RowT encB 5 1 O' w' j v [] ∧ capOk v ∧ Upd (fun k => k = i ∨ k = j) O w O' w' ∧ Rng B O' w' := by
  have hz : ¬ (fun k => k = i ∨ k = j) 0 := by rintro (e | e); exact hi e.symm; exact hj e.symm
  have hbd := hb.drew
  have hcd : w.drew.cell? ⟨b, 1, none⟩ = some (.slice none 0 0) := hbd.cell 1 rfl
  have hsn : ∀ W, Sl (fun v : Value => [v]) 1 W (.slice none 0 0) ([] : List Value) := fun W => ⟨⟨none, 0, rfl, Nat.le_refl _, by omega, fun h => absurd rfl h⟩, fun i hi => absurd hi (by simp)⟩
  obtain ⟨cs, hrun, hcs, hcm⟩ := makeNoZero_run n w.drew hn
  refine Ret.enter Tryz.func140 Tryz.ntmps140 rfl rfl ?_
  refine WC.seq ?_
  refine WC.draw (fun W => W.cell? ⟨b, 1, none⟩ = some (.slice none 0 0)) 16 rfl (by kernel_rfl) ?_
  refine WH.take 0 rfl (by kernel_rfl) (by kernel_rfl) (by kernel_rfl) hcd (fun w1 hw1 => RV.move rfl) rfl ?_
  refine WH.take 1 rfl (by kernel_rfl) (by kernel_rfl) (by kernel_rfl) hcd (fun w1 hw1 => RV.nilPtr rfl) rfl ?_
  refine WH.take 2 rfl (by kernel_rfl) (by kernel_rfl) (by kernel_rfl) hcd (fun w1 hw1 => RV.fieldAddr 1 Tryz.underlying177 rfl rfl (Tryz.sizeOf30 _) (by decide) rfl) rfl ?_
  refine WH.take 3 rfl (by kernel_rfl) (by kernel_rfl) (by kernel_rfl) hcd (fun w1 hw1 => RV.load (by first | exact hw1) (Tryz.isAgg30 _) rfl) rfl ?_
  refine WH.take 4 rfl (by kernel_rfl) (by kernel_rfl) (by kernel_rfl) hcd (fun w1 hw1 => RV.cap Tryz.underlying30 rfl) rfl ?_
  refine WH.take 5 rfl (by kernel_rfl) (by kernel_rfl) (by kernel_rfl) hcd (fun w1 hw1 => RV.mul rfl rfl (Fit.i64 (by omega))) rfl ?_
  refine WH.take 6 rfl (by kernel_rfl) (by kernel_rfl) (by kernel_rfl) hcd (fun w1 hw1 => RV.move rfl) rfl ?_
  refine WH.take 7 rfl (by kernel_rfl) (by kernel_rfl) (by kernel_rfl) hcd (fun w1 hw1 => RV.add rfl rfl (Fit.i64 (by omega))) rfl ?_
  refine WH.take 9 rfl (by kernel_rfl) (by kernel_rfl) (by kernel_rfl) hcd (fun w1 hw1 => RV.move rfl) rfl ?_
  refine WH.take 10 rfl (by kernel_rfl) (by kernel_rfl) (by kernel_rfl) hcd (fun w1 hw1 => RV.nilPtr rfl) rfl ?_
  refine WH.take 11 rfl (by kernel_rfl) (by kernel_rfl) (by kernel_rfl) hcd (fun w1 hw1 => RV.fieldAddr 1 Tryz.underlying177 rfl rfl (Tryz.sizeOf30 _) (by decide) rfl) rfl ?_
  refine WH.take 12 rfl (by kernel_rfl) (by kernel_rfl) (by kernel_rfl) hcd (fun w1 hw1 => RV.load (by first | exact hw1) (Tryz.isAgg30 _) rfl) rfl ?_
  refine WH.take 13 rfl (by kernel_rfl) (by kernel_rfl) (by kernel_rfl) hcd (fun w1 hw1 => RV.len (by first | exact hsn w1) Tryz.underlying30 rfl) rfl ?_
  have hzj : ¬ (fun k => k = j) 0 := fun e => hj e.symm
  refine WH.one 8 (by kernel_rfl) rfl ?_
  rw [show (2 : Int) * ((0 : Nat) : Int) + (n : Int) = (n : Int) from by omega]
  refine WL.ext (vs := [.int .i64 (n : Int)]) hrun rfl rfl ?_
  have hU1 : Upd (fun k => k = j) O w (own1 O w.heap.size j) (w.drew.drew.drew.alloc (.cells cs 5)) := ((Upd.refl hzj O w).drew.drew.drew).trans (Upd.alloc hzj (hR.drew.drew.drew) (.cells cs 5) j)
  have hR1 := hR.upd hU1
  have hn1 : BlkO (own1 O w.heap.size j) (w.drew.drew.drew.alloc (.cells cs 5)) j w.heap.size cs 5 := BlkO.new O w.drew.drew.drew j cs 5
  have hb1 := hb.upd hU1 hi hij
  have hrow1 : RowT encB 5 1 (own1 O w.heap.size j) (w.drew.drew.drew.alloc (.cells cs 5)) j (.slice (some ⟨w.heap.size, 0, none⟩) 0 cs.size) [] :=
    ⟨⟨⟨by simp, .inr ⟨w.heap.size, cs.size, cs, rfl, Nat.zero_le _, hn1.blk, Nat.zero_le _, hcm, by simp, by simp⟩⟩, fun g hg => by simp [Value.ownBlock] at hg; subst hg; exact hn1.tag⟩, by simp⟩
  have hsl1 : Sl (fun v : Value => [v]) 1 (w.drew.drew.drew.alloc (.cells cs 5)) (.slice (some ⟨w.heap.size, 0, none⟩) n cs.size) (cs.toList.take n) := by
    have hlen : (cs.toList.take n).length = n := by simp; omega
    refine ⟨⟨some ⟨w.heap.size, 0, none⟩, cs.size, by rw [hlen], by omega, by simpa [maxLen] using hcm, fun _ => ⟨_, _, rfl⟩⟩, fun q hq m u hu => ?_⟩
    cases m with
    | zero =>
      simp only [List.getElem?_cons_zero, Option.some.injEq] at hu
      subst hu
      have e : ((adr (.slice (some ⟨w.heap.size, 0, none⟩) n cs.size) 1 q).add 0) = ⟨w.heap.size, q, none⟩ := by simp [adr, Addr.add]
      rw [e]
      refine hn1.cell q ?_
      simp only [List.getElem_take]
      rw [hlen] at hq
      rw [Array.getElem?_eq_getElem (by omega)]; simp
    | succ m => simp at hu
  generalize w.drew.drew.drew.alloc (.cells cs 5) = w1 at *
  have hc1 : w1.cell? ⟨b, 1, none⟩ = some (.slice none 0 0) := hb1.cell 1 rfl
  refine WL.nil ?_
  refine QF.after hc1 ?_
  refine WH.one 14 (by kernel_rfl) rfl ?_
  refine WL.v (RV.sliceHi hsl1 Tryz.underlying30 (Tryz.sizeOf5 _) rfl rfl 0 rfl (Nat.zero_le _)) rfl ?_
  refine WL.nil ?_
  refine QF.after hc1 ?_
  refine WH.one 15 (by kernel_rfl) rfl ?_
  rw [show sliceV (.slice (some ⟨w.heap.size, 0, none⟩) n cs.size) 1 0 0 = .slice (some ⟨w.heap.size, 0, none⟩) 0 cs.size from by
    simp only [sliceV]; rw [if_neg (by omega)]; simp [Addr.add]]
  refine WL.v (RV.assign rfl) rfl ?_
  refine WL.nil ?_
  refine QF.after hc1 ?_
  refine WH.done (by kernel_rfl) ?_
  refine QF.seqNext ?_
  refine WC.seq ?_
  refine WC.region ?_
  refine WL.v (RV.move rfl) rfl ?_
  refine WL.v (RV.move rfl) rfl ?_
  refine WL.v (RV.nilPtr rfl) rfl ?_
  refine WL.v (RV.fieldAddr 1 Tryz.underlying177 rfl rfl (Tryz.sizeOf30 _) (by decide) rfl) rfl ?_
  refine WL.v (RV.load (by first | exact hc1) (Tryz.isAgg30 _) rfl) rfl ?_
  refine WL.copyNil Tryz.underlying30 (by kernel_rfl) rfl rfl rfl ?_
  refine WL.nil ?_
  refine QF.seqNext ?_
  refine WC.region ?_
  refine WL.v (RV.move rfl) rfl ?_
  refine WL.v (RV.move rfl) rfl ?_
  refine WL.v (RV.nilPtr rfl) rfl ?_
  refine WL.v (RV.fieldAddr 1 Tryz.underlying177 rfl rfl (Tryz.sizeOf30 _) (by decide) rfl) rfl ?_
  refine WL.storeBlk (j := 1) hb1 rfl (Tryz.sizeOf30 _) hrow1.one rfl rfl rfl ?_
  have hb2 : BlkO (own1 O w.heap.size j) (w1.setCell ⟨b, 1, none⟩ (.slice (some ⟨w.heap.size, 0, none⟩) 0 cs.size)) i b #[p, .slice (some ⟨w.heap.size, 0, none⟩) 0 cs.size] 177 := hb1.set 1 _
  have hU2 : Upd (fun k => k = i) (own1 O w.heap.size j) w1 (own1 O w.heap.size j) (w1.setCell ⟨b, 1, none⟩ (.slice (some ⟨w.heap.size, 0, none⟩) 0 cs.size)) := Upd.set (fun e => hi e.symm) hb1.tag rfl
  refine WL.nil ?_
  exact QF.end0 rfl ⟨own1 O w.heap.size j, _, hb2, hrow1.upd hU2 hj (fun e => hij e.symm), (fun a m c e => by cases e; omega), (hU1.mono (fun _ e => .inr e) hz).trans (hU2.mono (fun _ e => .inl e) hz), hR1.upd hU2⟩
theorem bGrow_ret (O : Nat → Nat) (B i b j : Nat) (n : Nat) (w : World) (hR : Rng B O w) (hb : BlkO O w i b #[.pointer none, .slice none 0 0] 177) (hi : i ≠ 0) (hj : j ≠ 0) (hij : i ≠ j) (hn : n ≤ 1000000000) :
    Ret Tryz.prog 132 [.pointer (some ⟨b, 0, none⟩), .int .i64 (n : Int)] w fun _ w' => ∃ O', Bld O' w' i b j [] ∧ Upd (fun k => k = i ∨ k = j) O w O' w' ∧ Rng B O' w' := by
  have hz : ¬ (fun k => k = i ∨ k = j) 0 := by rintro (e | e); exact hi e.symm; exact hj e.symm
  refine Ret.enter Tryz.func132 Tryz.ntmps132 rfl rfl ?_
  refine WC.seq ?_
  refine WC.region ?_
  refine WL.v (RV.move rfl) rfl ?_
  refine WL.call Tryz.call139 rfl (copyCheck_ret O i b _ _ w hb (.inl rfl) hi) rfl ?_
  rintro _ w1 ⟨hb1, hU1⟩
  have hUd := (hU1.mono (S' := fun k => k = i ∨ k = j) (fun _ e => .inl e) hz).drew
  have hR1 := (hR.upd hU1).drew
  have hb1d := hb1.drew
  have hc1 : w1.cell? ⟨b, 1, none⟩ = some (.slice none 0 0) := hb1.cell 1 rfl
  have hsn : ∀ W, Sl (fun v : Value => [v]) 1 W (.slice none 0 0) ([] : List Value) := fun W => ⟨⟨none, 0, rfl, Nat.le_refl _, by omega, fun h => absurd rfl h⟩, fun i hi => absurd hi (by simp)⟩
  refine WL.nil ?_
  refine QF.seqNext ?_
  refine WC.seq ?_
  refine WC.seq ?_
  refine WC.region ?_
  refine WL.v (RV.move rfl) rfl ?_
  refine WL.v (RV.lss rfl rfl) rfl ?_
  refine WL.nil ?_
  refine QF.seqNext ?_
  refine WC.condF rfl ((decide_eq_false (by omega))) ?_
  refine WC.skip ?_
  refine QF.seqNext ?_
  refine WC.seq ?_
  refine WC.still (by kernel_rfl) (by kernel_rfl) ?_
  refine WS.v (RV.move rfl) rfl ?_
  refine WS.v (RV.nilPtr rfl) rfl ?_
  refine WS.v (RV.fieldAddr 1 Tryz.underlying177 rfl rfl (Tryz.sizeOf30 _) (by decide) rfl) rfl ?_
  refine WS.v (RV.load (by first | exact hc1) (Tryz.isAgg30 _) rfl) rfl ?_
  refine WS.v (RV.cap Tryz.underlying30 rfl) rfl ?_
  refine WS.v (RV.move rfl) rfl ?_
  refine WS.v (RV.nilPtr rfl) rfl ?_
  refine WS.v (RV.fieldAddr 1 Tryz.underlying177 rfl rfl (Tryz.sizeOf30 _) (by decide) rfl) rfl ?_
  refine WS.v (RV.load (by first | exact hc1) (Tryz.isAgg30 _) rfl) rfl ?_
  refine WS.v (RV.len (by first | exact (hsn w1).drew) Tryz.underlying30 rfl) rfl ?_
  refine WS.v (RV.sub rfl rfl (Fit.i64 (by simp))) rfl ?_
  refine WS.v (RV.move rfl) rfl ?_
  refine WS.v (RV.lss rfl rfl) rfl ?_
  refine WS.nil ?_
  refine QF.seqNext ?_
  generalize w1.drew = w2 at *
  by_cases h0 : n = 0
  · subst h0
    refine WC.condF rfl (rfl) ?_
    refine WC.skip ?_
    exact QF.end0 rfl ⟨O, ⟨_, _, hb1d, .inr rfl, RowT.nil _ _ _ _ _ _, capOk.nil⟩, hUd, hR1⟩
  · skip
    refine WC.condT rfl ((decide_eq_true (by simp; omega))) ?_
    refine WC.region ?_
    refine WL.v (RV.move rfl) rfl ?_
    refine WL.v (RV.move rfl) rfl ?_
    refine WL.call Tryz.call140 rfl (bgrow_ret O B i b j _ n w2 hR1 hb1d hi hj hij (by omega) hn) rfl ?_
    rintro _ w3 ⟨O3, v, hb3, hr3, hc3, hU3, hR3⟩
    refine WL.nil ?_
    exact QF.end0 rfl ⟨O3, ⟨_, v, hb3, .inr rfl, hr3, hc3⟩, hUd.trans hU3, hR3⟩
end Go.Proofs.YtmohcfjopaccdaaGreatDoor
