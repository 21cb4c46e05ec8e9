/- Package strings, walked: the Builder; Contains of one byte. -/
import Derived.Test.YtakigpnccppheaaGreatDoorVx
import Derived.Test.YtakigpnccppheaaGreatDoorGen
import Derived.Test.YtakigpnccppheaaGreatDoorProg
namespace Go.Proofs.YtakigpnccppheaaGreatDoor
open Go.VL Go.Proofs
set_option maxRecDepth 4000

/-- A builder in a block of its own. -/
def Bld (O : Nat → Nat) (w : World) (i b j : Nat) (l : List UInt8) : Prop :=
  ∃ p v, BlkO O w i b #[p, v] 65 ∧ (p = .pointer none ∨ p = .pointer (some ⟨b, 0, none⟩)) ∧ RowT encB 5 1 O w j v l ∧ capOk v
theorem Bld.upd {S : Nat → Prop} {O O' : Nat → Nat} {w w' : World} {i b j : Nat} {l : List UInt8} (h : Bld O w i b j l) (u : Upd S O w O' w') (hi : i ≠ 0) (hj : j ≠ 0) (hSi : ¬ S i) (hSj : ¬ S j) : Bld O' w' i b j l := by
  obtain ⟨p, v, h1, h2, h3, h4⟩ := h
  exact ⟨p, v, h1.upd u hi hSi, h2, h3.upd u hj hSj, h4⟩
theorem Bld.drew {O : Nat → Nat} {w : World} {i b j : Nat} {l : List UInt8} (h : Bld O w i b j l) : Bld O w.drew i b j l := by
  obtain ⟨p, v, h1, h2, h3, h4⟩ := h
  exact ⟨p, v, h1.drew, h2, h3.drew, h4⟩

theorem noEscape_run (v : Value) (w : World) : (callFunc 63 #[v]).run Tryz.prog w = .ok (.value v) w := by
  rw [run_callFunc_extern Tryz.func63 (by kernel_rfl) (by kernel_rfl) (by kernel_rfl) (e := Extern.AbiNoEscape.same) (by kernel_rfl), Lib.run_noEscape]; rfl
theorem bldInfo : ∃ j, Tryz.prog.info? 65 = some j ∧ j.size = 2 := by
  have h : (Tryz.prog.info? 65).map (·.size) = some 2 := by kernel_rfl
  obtain ⟨j, h1, h2⟩ := Option.map_eq_some_iff.1 h
  exact ⟨j, h1, h2⟩
theorem copyCheck_ret (O : Nat → Nat) (i b : Nat) (p v : Value) (w : World) (hb : BlkO O w i b #[p, v] 65) (hp : p = .pointer none ∨ p = .pointer (some ⟨b, 0, none⟩)) (hi : i ≠ 0) :
    Ret Tryz.prog 43 [.pointer (some ⟨b, 0, none⟩)] w fun _ w' => BlkO O w' i b #[.pointer (some ⟨b, 0, none⟩), v] 65 ∧ Upd (fun k => k = i) O w O w' := by
  have hz : ¬ (fun k => k = i) 0 := fun e => hi e.symm
  obtain ⟨j, hj1, hj2⟩ := bldInfo
  obtain ⟨q, rfl, hq⟩ : ∃ q, p = .pointer q ∧ (q = none ∨ q = some ⟨b, 0, none⟩) := by rcases hp with rfl | rfl; exact ⟨_, rfl, .inl rfl⟩; exact ⟨_, rfl, .inr rfl⟩
  refine Ret.enter Tryz.func43 Tryz.ntmps43 rfl rfl ?_
  refine WC.seq ?_
  refine WC.region ?_
  refine WL.v (RV.move rfl) rfl ?_
  refine WL.v (RV.nilPtr rfl) rfl ?_
  refine WL.v (RV.fieldAddr 0 Tryz.underlying65 rfl rfl (Tryz.sizeOf63 _) (by decide) rfl) rfl ?_
  refine WL.v (RV.load (by first | exact hb.cell 0 rfl) (Tryz.isAgg63 _) rfl) rfl ?_
  refine WL.v (RV.eqlNilP (q := q) Tryz.underlying63 rfl rfl) rfl ?_
  rcases hq with rfl | rfl
  · skip
    refine WL.nil ?_
    refine QF.seqNext ?_
    refine WC.condT rfl (rfl) ?_
    refine WC.region ?_
    refine WL.v (RV.move rfl) rfl ?_
    refine WL.v (RV.move rfl) rfl ?_
    refine WL.v (RV.convA (run_convert_to_unsafe Tryz.underlying63 Tryz.underlying135 (by rw [hj1]; simp [hj2]) (hb.cell 0 rfl)) rfl) rfl ?_
    refine WL.v (RV.ext (vs := [.pointer (some ⟨b, 0, none⟩)]) (noEscape_run _ _) rfl) rfl ?_
    refine WL.v (RV.convA (Lib.run_from_unsafe (e := 65) (cells := 2) w ⟨b, 0, none⟩ Tryz.underlying135 Tryz.underlying63 hj1 (by simp [World.shape?, hb.blk]) (by kernel_rfl)) rfl) rfl ?_
    refine WL.v (RV.nilPtr rfl) rfl ?_
    refine WL.v (RV.fieldAddr 0 Tryz.underlying65 rfl rfl (Tryz.sizeOf63 _) (by decide) rfl) rfl ?_
    refine WL.storeBlk (j := 0) hb rfl (Tryz.sizeOf63 _) rfl rfl rfl rfl ?_
    refine WL.nil ?_
    exact QF.end0 rfl ⟨hb.set 0 _, Upd.set hz hb.tag rfl⟩
  · skip
    refine WL.nil ?_
    refine QF.seqNext ?_
    refine WC.condF rfl (rfl) ?_
    refine WC.seq ?_
    refine WC.region ?_
    refine WL.v (RV.move rfl) rfl ?_
    refine WL.v (RV.nilPtr rfl) rfl ?_
    refine WL.v (RV.fieldAddr 0 Tryz.underlying65 rfl rfl (Tryz.sizeOf63 _) (by decide) rfl) rfl ?_
    refine WL.v (RV.load (by first | exact hb.cell 0 rfl) (Tryz.isAgg63 _) rfl) rfl ?_
    refine WL.v (RV.move rfl) rfl ?_
    refine WL.v (RV.bin2 (eqGuard_at_pointer ..) rfl rfl (Lib.run_neq_ptr_same w ⟨b, 0, none⟩ Tryz.underlying63 hj1)) rfl ?_
    refine WL.nil ?_
    refine QF.seqNext ?_
    refine WC.condF rfl (rfl) ?_
    refine WC.skip ?_
    exact QF.end0 rfl ⟨hb, Upd.refl hz _ _⟩
theorem elU8 : Elem Tryz.prog 31 5 1 1 := ⟨Tryz.underlying31, by kernel_rfl, by decide⟩
theorem writeString_ret (O : Nat → Nat) (B i b j : Nat) (l s : List UInt8) (w : World) (hR : Rng B O w) (h : Bld O w i b j l) (hi : i ≠ 0) (hj : j ≠ 0) (hij : i ≠ j) (hn : l.length + s.length ≤ 140737488355328) :
    Ret Tryz.prog 27 [.pointer (some ⟨b, 0, none⟩), .string (bs s)] w fun _ w' => ∃ O', Bld O' w' i b j (l ++ s) ∧ Upd (fun k => k = i ∨ k = j) O w O' w' ∧ Rng B O' w' := by
  have hz : ¬ (fun k => k = i ∨ k = j) 0 := by rintro (e | e); exact hi e.symm; exact hj e.symm
  obtain ⟨p, v, hb, hp, hr, hc⟩ := h
  refine Ret.enter Tryz.func27 Tryz.ntmps27 rfl rfl ?_
  refine WC.seq ?_
  refine WC.region ?_
  refine WL.v (RV.assign rfl) rfl ?_
  refine WL.v (RV.assign rfl) rfl ?_
  refine WL.nil ?_
  refine QF.seqNext ?_
  refine WC.seq ?_
  refine WC.region ?_
  refine WL.v (RV.move rfl) rfl ?_
  refine WL.call Tryz.call43 rfl (copyCheck_ret O i b p v w hb hp hi) rfl ?_
  rintro _ w1 ⟨hb1, hU1⟩
  have hr1 := hr.upd hU1 hj (fun e => hij e.symm)
  refine WL.nil ?_
  refine QF.seqNext ?_
  refine WC.seq ?_
  refine WC.region ?_
  refine WL.v (RV.move rfl) rfl ?_
  refine WL.v (RV.move rfl) rfl ?_
  refine WL.v (RV.nilPtr rfl) rfl ?_
  refine WL.v (RV.fieldAddr 1 Tryz.underlying65 rfl rfl (Tryz.sizeOf31 _) (by decide) rfl) rfl ?_
  refine WL.v (RV.load (by first | exact hb1.cell 1 rfl) (Tryz.isAgg31 _) rfl) rfl ?_
  refine WL.v (RV.move rfl) rfl ?_
  refine WL.appendStr elU8 Tryz.underlying9 (hR.upd hU1) hr1 s rfl rfl hn hj rfl ?_
  intro v2 w2 O2 hr2 hU2 hR2 hc2
  have hb2 := hb1.upd hU2 hi hij
  refine WL.v (RV.nilPtr rfl) rfl ?_
  refine WL.v (RV.fieldAddr 1 Tryz.underlying65 rfl rfl (Tryz.sizeOf31 _) (by decide) rfl) rfl ?_
  refine WL.storeBlk (j := 1) hb2 rfl (Tryz.sizeOf31 _) hr2.one rfl rfl rfl ?_
  have hUs : Upd (fun k => k = i) O2 w2 O2 (w2.setCell ⟨b, 1, none⟩ v2) := Upd.set (fun e => hi e.symm) hb2.tag rfl
  refine WL.nil ?_
  refine QF.seqNext ?_
  refine WC.seq ?_
  refine WC.region ?_
  refine WL.v (RV.move rfl) rfl ?_
  refine WL.v (RV.lenS Tryz.underlying9 rfl) rfl ?_
  refine WL.v (RV.assign rfl) rfl ?_
  refine WL.v (RV.assign rfl) rfl ?_
  refine WL.nil ?_
  refine QF.seqNext ?_
  refine WC.ret ?_
  refine QF.done2 rfl rfl rfl (⟨O2, ⟨_, v2, hb2.set 1 v2, .inr rfl, hr2.upd hUs hj (fun e => hij e.symm), hc2 hc⟩, ((hU1.mono (fun _ e => .inl e) hz).trans (hU2.mono (fun _ e => .inr e) hz)).trans (hUs.mono (fun _ e => .inl e) hz), hR2.upd hUs⟩)
theorem bldString_ret (O : Nat → Nat) (i b j : Nat) (l : List UInt8) (w : World) (h : Bld O w i b j l) (hi : i ≠ 0) (hj : j ≠ 0) :
    Ret Tryz.prog 28 [.pointer (some ⟨b, 0, none⟩)] w fun v w' => v = .string (bs l) ∧ ∃ O', Upd (fun k => k = j) O w O' w' := by
  obtain ⟨p, v, hb, hp, hr, hc⟩ := h
  have hbd := hb.drew
  have hrd := hr.drew
  obtain ⟨q, w1, h1, h2, h3⟩ := run_strOf (P := Tryz.prog) (E := 5) (T := 31) (pt := 111) (it := 3) (ty := 111) (ty' := 9) hrd hc hj Tryz.underlying111 (by kernel_rfl)
  have hsl := hr.sl
  refine Ret.enter Tryz.func28 Tryz.ntmps28 rfl rfl ?_
  refine WC.seq ?_
  refine WC.region ?_
  refine WL.v (RV.assign rfl) rfl ?_
  refine WL.nil ?_
  refine QF.seqNext ?_
  refine WC.seq ?_
  refine WC.tail 10 rfl rfl (by kernel_rfl) (by kernel_rfl) ?_
  refine WS.v (RV.move rfl) rfl ?_
  refine WS.v (RV.nilPtr rfl) rfl ?_
  refine WS.v (RV.fieldAddr 1 Tryz.underlying65 rfl rfl (Tryz.sizeOf31 _) (by decide) rfl) rfl ?_
  refine WS.v (RV.load (by first | exact hb.cell 1 rfl) (Tryz.isAgg31 _) rfl) rfl ?_
  refine WS.v (RV.sliceData h1 rfl) rfl ?_
  refine WS.v (RV.move rfl) rfl ?_
  refine WS.v (RV.nilPtr rfl) rfl ?_
  refine WS.v (RV.fieldAddr 1 Tryz.underlying65 rfl rfl (Tryz.sizeOf31 _) (by decide) rfl) rfl ?_
  refine WS.v (RV.load (by first | exact hb.cell 1 rfl) (Tryz.isAgg31 _) rfl) rfl ?_
  refine WS.v (RV.len (by first | exact (hsl).drew) Tryz.underlying31 rfl) rfl ?_
  refine WS.go ?_
  refine WL.unsafeString h2 rfl rfl rfl ?_
  refine WL.v (RV.assign rfl) rfl ?_
  refine WL.nil ?_
  refine QF.seqNext ?_
  refine WC.ret ?_
  refine QF.done1 rfl rfl (⟨rfl, O, ⟨h3.os, h3.tape, h3.output, h3.size, h3.blk, h3.tag, h3.new, h3.z⟩⟩)

theorem firstIdx_mem (l : List UInt8) (c : UInt8) : decide (0 ≤ firstIdx (bs l) c) = decide (c ∈ l) := by
  have hget : ∀ i, i < l.length → (bs l)[i]! = nth l i := fun i hi => by
    rw [nth_eq hi, getElem!_pos (bs l) i (by rw [bs_size]; exact hi)]
    show l.toArray[i] = l[i]
    simp
  unfold firstIdx
  rw [bs_size]
  cases hf : (List.range l.length).find? fun i => (bs l)[i]! == c with
  | none =>
    have h := List.find?_eq_none.1 hf
    have : c ∉ l := fun hm => by
      obtain ⟨i, hi, rfl⟩ := List.getElem_of_mem hm
      have := h i (by simpa using hi)
      rw [hget i hi, nth_eq hi] at this
      simp at this
    simp [this]
  | some i =>
    have h1 := List.find?_some hf
    have h2 : i < l.length := by have := List.mem_of_find?_eq_some hf; simpa using this
    rw [hget i h2, nth_eq h2] at h1
    have : c ∈ l := by rw [← eq_of_beq h1]; exact List.getElem_mem h2
    simp [this]
theorem firstIdx_one (c : UInt8) : firstIdx (bs [c]) c = 0 := by
  have h : (List.range (bs [c]).size).find? (fun i => (bs [c])[i]! == c) = some 0 := by
    rw [bs_size, List.find?_eq_some_iff_getElem]
    exact ⟨by show (c == c) = true; simp, 0, by simp, rfl, fun j hj => by omega⟩
  unfold firstIdx; rw [h]; rfl
theorem indexByteString_run (l : List UInt8) (c : UInt8) (w : World) : (callFunc 90 #[.string (bs l), .int .u8 (c.toNat : Int)]).run Tryz.prog w = .ok (.value (.int .i64 (firstIdx (bs l) c))) w := by
  rw [run_callFunc_extern Tryz.func90 (by kernel_rfl) (by kernel_rfl) (by kernel_rfl) (e := Extern.BytealgIndexByte.indexByte) (by kernel_rfl), run_indexByte_string]
  simp [Result.andThen]
theorem slIndexByte_ret (l : List UInt8) (c : UInt8) (w : World) : Ret Tryz.prog 73 [.string (bs l), .int .u8 (c.toNat : Int)] w fun v w' => v = .int .i64 (firstIdx (bs l) c) ∧ w = w' := by
  refine Ret.enter Tryz.func73 Tryz.ntmps73 rfl rfl ?_
  refine WC.seq ?_
  refine WC.region ?_
  refine WL.v (RV.assign rfl) rfl ?_
  refine WL.nil ?_
  refine QF.seqNext ?_
  refine WC.seq ?_
  refine WC.region ?_
  refine WL.v (RV.move rfl) rfl ?_
  refine WL.v (RV.move rfl) rfl ?_
  refine WL.v (RV.ext (vs := [.string (bs l), .int .u8 (c.toNat : Int)]) (indexByteString_run l c w) rfl) rfl ?_
  refine WL.v (RV.assign rfl) rfl ?_
  refine WL.nil ?_
  refine QF.seqNext ?_
  refine WC.ret ?_
  refine QF.done1 rfl rfl (⟨rfl, rfl⟩)
theorem slIndex1_ret (l : List UInt8) (c : UInt8) (w : World) : Ret Tryz.prog 49 [.string (bs l), .string (bs [c])] w fun v w' => v = .int .i64 (firstIdx (bs l) c) ∧ w = w' := by
  have h1 : [c].length = 1 := rfl
  have hn0 : nth [c] 0 = c := nth_cons0 c []
  refine Ret.enter Tryz.func49 Tryz.ntmps49 rfl rfl ?_
  refine WC.seq ?_
  refine WC.region ?_
  refine WL.v (RV.assign rfl) rfl ?_
  refine WL.nil ?_
  refine QF.seqNext ?_
  refine WC.seq ?_
  refine WC.region ?_
  refine WL.v (RV.move rfl) rfl ?_
  refine WL.v (RV.lenS Tryz.underlying9 rfl) rfl ?_
  refine WL.v (RV.assign rfl) rfl ?_
  refine WL.nil ?_
  refine QF.seqNext ?_
  refine WC.seq ?_
  refine WC.block ?_
  refine WC.seq ?_
  refine WC.region ?_
  refine WL.v (RV.move rfl) rfl ?_
  refine WL.v (RV.eql rfl rfl) rfl ?_
  refine WL.v (RV.move rfl) rfl ?_
  refine WL.know (d := 19) rfl (b' := false) (rfl) ?_
  refine WL.on rfl ?_
  refine WL.v (RV.move rfl) rfl ?_
  refine WL.on rfl ?_
  refine WL.v (RV.move rfl) rfl ?_
  refine WL.on rfl ?_
  refine WL.v (RV.eqlS rfl rfl) rfl ?_
  refine WL.v (RV.pickF rfl rfl) rfl ?_
  refine WL.v (RV.assign rfl) rfl ?_
  refine WL.nil ?_
  refine QF.seqNext ?_
  refine WC.cond rfl ?_ ?_
  · intro he
    replace he : [c] = l := by simpa using he
    subst he
    refine WC.seq ?_
    refine WC.region ?_
    refine WL.v (RV.assign rfl) rfl ?_
    refine WL.nil ?_
    refine QF.seqNext ?_
    refine WC.ret ?_
    refine QF.blockRet ?_
    refine QF.thenRet ?_
    refine QF.done1 rfl rfl (⟨by rw [firstIdx_one], rfl⟩)
  intro _
  refine WC.seq ?_
  refine WC.region ?_
  refine WL.v (RV.move rfl) rfl ?_
  refine WL.v (RV.eql rfl rfl) rfl ?_
  refine WL.v (RV.assign rfl) rfl ?_
  refine WL.nil ?_
  refine QF.seqNext ?_
  refine WC.condT rfl (rfl) ?_
  refine WC.seq ?_
  refine WC.region ?_
  refine WL.v (RV.move rfl) rfl ?_
  refine WL.v (RV.move rfl) rfl ?_
  refine WL.v (RV.indexS Tryz.underlying9 rfl rfl 0 rfl (by omega)) rfl ?_
  refine WL.call Tryz.call73 rfl (slIndexByte_ret l (nth [c] 0) w) rfl ?_
  rintro v _ ⟨rfl, rfl⟩
  refine WL.v (RV.assign rfl) rfl ?_
  refine WL.nil ?_
  refine QF.seqNext ?_
  refine WC.ret ?_
  refine QF.blockRet ?_
  refine QF.thenRet ?_
  refine QF.done1 rfl rfl (⟨by rw [hn0], rfl⟩)
theorem stIndex1_ret (l : List UInt8) (c : UInt8) (w : World) : Ret Tryz.prog 32 [.string (bs l), .string (bs [c])] w fun v w' => v = .int .i64 (firstIdx (bs l) c) ∧ w = w' := by
  refine Ret.enter Tryz.func32 Tryz.ntmps32 rfl rfl ?_
  refine WC.seq ?_
  refine WC.region ?_
  refine WL.v (RV.assign rfl) rfl ?_
  refine WL.nil ?_
  refine QF.seqNext ?_
  refine WC.seq ?_
  refine WC.region ?_
  refine WL.v (RV.move rfl) rfl ?_
  refine WL.v (RV.move rfl) rfl ?_
  refine WL.call Tryz.call49 rfl (slIndex1_ret l c w) rfl ?_
  rintro v _ ⟨rfl, rfl⟩
  refine WL.v (RV.assign rfl) rfl ?_
  refine WL.nil ?_
  refine QF.seqNext ?_
  refine WC.ret ?_
  refine QF.done1 rfl rfl (⟨rfl, rfl⟩)
theorem contains1_ret (l : List UInt8) (c : UInt8) (w : World) : Ret Tryz.prog 18 [.string (bs l), .string (bs [c])] w fun v w' => v = .bool (decide (c ∈ l)) ∧ w = w' := by
  have h := firstIdx_mem l c
  refine Ret.enter Tryz.func18 Tryz.ntmps18 rfl rfl ?_
  refine WC.seq ?_
  refine WC.region ?_
  refine WL.v (RV.assign rfl) rfl ?_
  refine WL.nil ?_
  refine QF.seqNext ?_
  refine WC.seq ?_
  refine WC.region ?_
  refine WL.v (RV.move rfl) rfl ?_
  refine WL.v (RV.move rfl) rfl ?_
  refine WL.call Tryz.call32 rfl (stIndex1_ret l c w) rfl ?_
  rintro v _ ⟨rfl, rfl⟩
  refine WL.v (RV.geq rfl rfl) rfl ?_
  refine WL.v (RV.assign rfl) rfl ?_
  refine WL.nil ?_
  refine QF.seqNext ?_
  refine WC.ret ?_
  refine QF.done1 rfl rfl (⟨congrArg Value.bool h, rfl⟩)
end Go.Proofs.YtakigpnccppheaaGreatDoor
