/- Packages prop and expr, walked: names; a class; a name that may be any. -/
import Derived.Test.YtmohcfjopaccdaaGreatDoorExB
namespace Go.VL
/-- A loop over a function that hands over nothing. -/
theorem WI.rangeFunc0 {P : Program} {N : Nat} {ds : List Deferred} {Q : Exit → Act → World → Prop} {st : St} {w : World} {g : Operand} {ps : Array Tmp} {asg body : Code}
    {gf : Nat} {lb : List Value} (hg : ev st g = some (.func (.func gf) #[] lb.toArray)) (eg : ∀ args w, (callFunc gf args).run P w = .ok (.enter gf args) w)
    (it : ∀ l W, Ext w W → Ret P gf (.func (.yield l) #[] #[] :: lb) W fun _ W' => Ext W W')
    (hdone : ∀ D W, Ext w W → w.heap.size ≤ D → W.heap[D]? = some (.deferred (some [])) → QI N ({ target := .collected D, args := #[] } :: ds) Q .normal st W) :
    WI none P N ds (.rangeFunc g ps asg body) Q st w := by
  intro a ha
  refine wpIn_rangeFunc ?_
  intro fn hfn
  rw [show (Fr none).round = none from rfl]
  obtain ⟨D, hD⟩ : ∃ D, D = w.heap.size := ⟨_, rfl⟩
  obtain ⟨rec, hrec⟩ : ∃ rec : LoopState → Option Code → Loop, rec = fun st pe => { state := st, pending := pe, fn, tmps := a.tmps, params := ps, assign := asg, body, defers := D } := ⟨_, rfl⟩
  obtain ⟨W1, hW1⟩ : ∃ W1, (w.alloc (.deferred (some []))).alloc (.loop (rec .ready none)) = W1 := ⟨_, rfl⟩
  have hE1 : Ext w W1 := by rw [← hW1]; exact (Ext.alloc w _).trans (Ext.alloc _ _)
  have hL1 : W1.heap[D + 1]? = some (.loop (rec .ready none)) := by
    rw [← hW1, hD]; have := World.alloc_heap_new (w.alloc (.deferred (some []))) (.loop (rec .ready none)); rwa [World.size_alloc] at this
  have hK1 : W1.heap[D]? = some (.deferred (some [])) := by
    rw [← hW1, hD]; exact (RowKit.Below.heap_alloc _ _ _ (by simp)).trans (World.alloc_heap_new w _)
  refine ⟨D + 1, [{ target := .collected D, args := #[] }], W1, { target := .fn (.func gf) lb.toArray, args := #[.func (.yield (D + 1)) #[] #[]] }, W1, gf,
    #[.func (.yield (D + 1)) #[] #[]] ++ lb.toArray, W1, ?_, ?_, fun _ _ => trivial, ?_, fun hh => by simp [Fence.wide] at hh, ?_⟩
  · rw [← hW1, hrec, hD]; exact run_enterLoop_outer _ _ _ _ _
  · simp only [resolve, ha.evD hg ds]
    simp [go_sem]
  · simp [invoke, go_sem, eg]
  · have hJ := it (D + 1) W1 hE1
    unfold Ret at hJ
    rw [show (Value.func (.yield (D + 1)) #[] #[] :: lb).toArray = #[.func (.yield (D + 1)) #[] #[]] ++ lb.toArray from by simp] at hJ
    refine CallsIn.mono (callsIn_wide.2 hJ : CallsIn Fence.wide _ P gf _ W1 _) ?_
    rintro e W2 q
    cases e with
    | returned v =>
      have hE2 : Ext W1 W2 := q
      have hl := (hE2.block _ (heap_lt hL1)).trans hL1
      have hk := (hE2.block _ (heap_lt hK1)).trans hK1
      refine ⟨none, _, by have := run_endLoop (P := P) hl (by rw [hrec]; simp); rw [hrec] at this; exact this, ?_⟩
      have hE3 := hE1.trans hE2
      refine hdone D _ ?_ (by omega) ((World.putObj_heap_other (by omega)).trans hk) a ha
      exact ⟨hE3.os, hE3.tape, hE3.output, by simpa using hE3.size, fun b hb => (World.putObj_heap_other (by omega)).trans (hE3.block b hb)⟩
    | panicked c => exact q.elim
    | outgrown => exact q.elim
end Go.VL
namespace Go.Proofs.YtmohcfjopaccdaaGreatDoor
open Go.VL Go.Proofs
set_option maxRecDepth 10000

def idxB (l : List UInt8) (c : UInt8) : Int := match l.findIdx? (· == c) with | some i => (i : Nat) | none => -1
theorem firstIdx_bs (l : List UInt8) (c : UInt8) : firstIdx (bs l) c = idxB l c := by
  have hget : ∀ i, i < l.length → (bs l)[i]! = nth l i := fun i hi => by
    rw [nth_eq hi, getElem!_pos (bs l) i (by rw [bs_size]; exact hi)]
    show l.toArray[i] = l[i]
    simp
  unfold firstIdx idxB
  rw [bs_size]
  cases hf : l.findIdx? (· == c) with
  | none =>
    have h := List.findIdx?_eq_none_iff.1 hf
    have : (List.range l.length).find? (fun i => (bs l)[i]! == c) = none := by
      rw [List.find?_eq_none]
      intro i hi
      have hi' : i < l.length := by simpa using hi
      rw [hget i hi', nth_eq hi', h _ (List.getElem_mem hi')]; decide
    rw [this]
  | some i =>
    obtain ⟨hi, h1, h2⟩ := List.findIdx?_eq_some_iff_getElem.1 hf
    have : (List.range l.length).find? (fun i => (bs l)[i]! == c) = some i := by
      rw [List.find?_eq_some_iff_getElem]
      refine ⟨by rw [hget i hi, nth_eq hi]; exact h1, i, by simpa using hi, by simp, fun j hj => ?_⟩
      have := h2 j hj
      simp only [List.getElem_range]
      rw [hget j (by omega), nth_eq (by omega)]
      simpa using this
    rw [this]
theorem idxByteStr_run (l : List UInt8) (c : UInt8) (w : World) : (callFunc 53 #[.string (bs l), .int .u8 (c.toNat : Int)]).run Tryz.prog w = .ok (.value (.int .i64 (idxB l c))) w := by
  rw [run_callFunc_extern Tryz.func53 (by kernel_rfl) (by kernel_rfl) (by kernel_rfl) (e := Extern.BytealgIndexByte.indexByte) (by kernel_rfl), run_indexByte_string, firstIdx_bs]
  simp [Result.andThen]
theorem slIdxByte_ret (l : List UInt8) (c : UInt8) (w : World) : Ret Tryz.prog 37 [.string (bs l), .int .u8 (c.toNat : Int)] w fun v w' => v = .int .i64 (idxB l c) ∧ w' = w := by
  refine Ret.enter Tryz.func37 Tryz.ntmps37 rfl rfl ?_
  refine WC.seq ?_
  refine WC.region ?_
  refine WL.v (RV.assign rfl) rfl ?_
  refine WL.nil ?_
  refine QF.seqNext ?_
  refine WC.seq ?_
  refine WC.region ?_
  refine WL.v (RV.move rfl) rfl ?_
  refine WL.v (RV.move rfl) rfl ?_
  refine WL.v (RV.ext (vs := [.string (bs l), .int .u8 (c.toNat : Int)]) (idxByteStr_run l c w) rfl) rfl ?_
  refine WL.v (RV.assign rfl) rfl ?_
  refine WL.nil ?_
  refine QF.seqNext ?_
  refine WC.ret ?_
  refine QF.done1 rfl rfl (⟨rfl, rfl⟩)
theorem indexByte_ret (l : List UInt8) (c : UInt8) (w : World) : Ret Tryz.prog 18 [.string (bs l), .int .u8 (c.toNat : Int)] w fun v w' => v = .int .i64 (idxB l c) ∧ w' = w := by
  refine Ret.enter Tryz.func18 Tryz.ntmps18 rfl rfl ?_
  refine WC.seq ?_
  refine WC.region ?_
  refine WL.v (RV.assign rfl) rfl ?_
  refine WL.nil ?_
  refine QF.seqNext ?_
  refine WC.seq ?_
  refine WC.region ?_
  refine WL.v (RV.move rfl) rfl ?_
  refine WL.v (RV.move rfl) rfl ?_
  refine WL.call Tryz.call37 rfl (slIdxByte_ret l c w) rfl ?_
  rintro v _ ⟨rfl, rfl⟩
  refine WL.v (RV.assign rfl) rfl ?_
  refine WL.nil ?_
  refine QF.seqNext ?_
  refine WC.ret ?_
  refine QF.done1 rfl rfl (⟨rfl, rfl⟩)

/-! The classes' names. -/
@[simp] def encS (x : List UInt8) : List Value := [.string (bs x)]
def idxS (l : List (List UInt8)) (s : List UInt8) : Int := match l.findIdx? (· == s) with | some i => (i : Nat) | none => -1
theorem indexStr_ret (l : List (List UInt8)) (s : List UInt8) (sv : Value) (w : World) (h : Sl encS 1 w sv l) : Ret Tryz.prog 85 [sv, .string (bs s)] w fun v w' => v = .int .i64 (idxS l s) ∧ w' = w := by
  have hl := h.len_le
  refine Ret.enter Tryz.func85 Tryz.ntmps85 rfl rfl ?_
  refine WC.seq ?_
  refine WC.region ?_
  refine WL.v (RV.assign rfl) rfl ?_
  refine WL.nil ?_
  refine QF.seqNext ?_
  refine WC.seq ?_
  refine WC.seq ?_
  refine WC.region ?_
  refine WL.v (RV.move rfl) rfl ?_
  refine WL.v (RV.len (by first | exact h) Tryz.underlying44 rfl) rfl ?_
  refine WL.v (RV.move rfl) rfl ?_
  refine WL.nil ?_
  refine QF.seqNext ?_
  refine WC.block ?_
  refine WC.loop (fun x : Nat => [(0, sv), (1, .string (bs s)), (7, .int .i64 l.length), (8, .int .i64 x)]) (fun x : Nat => w) (fun x : Nat => x ≤ l.length ∧ ∀ i, i < x → (nth l i == s) = false) (fun x : Nat => l.length - x) 0 (⟨Nat.zero_le _, fun i hi => absurd hi (Nat.not_lt_zero i)⟩) ⟨rfl, rfl, rfl, rfl, trivial⟩ rfl ?_
  rintro k ⟨hk, hno⟩
  refine WC.seq ?_
  refine WC.region ?_
  refine WL.v (RV.lss rfl rfl) rfl ?_
  refine WL.nil ?_
  refine QF.seqNext ?_
  refine WC.seq ?_
  refine WC.cond rfl ?_ ?_
  · intro hlt
    replace hlt : k < l.length := by have := of_decide_eq_true hlt; omega
    refine WC.skip ?_
    refine QF.seqNext ?_
    refine WC.seq ?_
    refine WC.block ?_
    refine WC.seq ?_
    refine WC.region ?_
    refine WL.v (RV.move rfl) rfl ?_
    refine WL.v (RV.assign rfl) rfl ?_
    refine WL.nil ?_
    refine QF.seqNext ?_
    refine WC.seq ?_
    refine WC.region ?_
    refine WL.v (RV.move rfl) rfl ?_
    refine WL.v (RV.move rfl) rfl ?_
    refine WL.v (RV.move rfl) rfl ?_
    refine WL.v (RV.indexAddr (by first | exact h) Tryz.underlying44 (Tryz.sizeOf9 _) rfl rfl _ rfl (by omega)) rfl ?_
    refine WL.v (RV.load (by first | exact h.ld (val := fun x => .string (bs x)) hlt) (Tryz.isAgg9 _) rfl) rfl ?_
    refine WL.v (RV.eqlS rfl rfl) rfl ?_
    refine WL.nil ?_
    refine QF.seqNext ?_
    refine WC.cond rfl ?_ ?_
    · intro hy
      replace hy : s = nth l k := by simpa using hy
      have hf : l.findIdx? (· == s) = some k := List.findIdx?_eq_some_iff_getElem.2 ⟨hlt, by rw [← nth_eq hlt, hy]; simp, fun j hj => by rw [← nth_eq (by omega), hno j hj]; decide⟩
      refine WC.seq ?_
      refine WC.region ?_
      refine WL.v (RV.move rfl) rfl ?_
      refine WL.v (RV.assign rfl) rfl ?_
      refine WL.nil ?_
      refine QF.seqNext ?_
      refine WC.ret ?_
      refine QF.blockRet ?_
      refine QF.thenRet ?_
      refine QF.thenRet ?_
      refine QF.blockRet ?_
      refine QF.thenRet ?_
      refine QF.done1 rfl rfl (⟨by unfold idxS; rw [hf], rfl⟩)
    · intro hy
      replace hy : (nth l k == s) = false := by
        rw [Bool.eq_false_iff]; intro e
        rw [eq_of_beq e] at hy; simp at hy
      refine WC.skip ?_
      refine QF.blockNormal ?_
      refine QF.seqNext ?_
      refine WC.region ?_
      refine WL.v (RV.add rfl rfl (Fit.i64 (by omega))) rfl ?_
      refine WL.v (RV.move rfl) rfl ?_
      refine WL.nil ?_
      refine QF.next (k + 1) (⟨hlt, fun i hi => (Nat.lt_succ_iff_lt_or_eq.1 hi).elim (hno i) (fun e => by rw [e]; exact hy)⟩) (by omega) ⟨rfl, rfl, rfl, rfl, trivial⟩ rfl
  · intro hge
    replace hge : l.length ≤ k := by have := of_decide_eq_false hge; omega
    have hf : l.findIdx? (· == s) = none := List.findIdx?_eq_none_iff.2 fun x hx => by
      obtain ⟨j, hj, rfl⟩ := mem_nth hx
      exact hno j (by omega)
    refine WC.exit ?_
    refine QF.thenExit ?_
    refine QF.thenExit ?_
    refine QF.blockHit ?_
    refine QF.seqNext ?_
    refine WC.seq ?_
    refine WC.region ?_
    refine WL.v (RV.assign rfl) rfl ?_
    refine WL.nil ?_
    refine QF.seqNext ?_
    refine WC.ret ?_
    refine QF.done1 rfl rfl (⟨by unfold idxS; rw [hf], rfl⟩)
def namesC : Array Value := (namesL.map fun s => Value.string (bs s)).toArray
theorem names_cells {O : Nat → Nat} {w : World} {j b : Nat} (h : BlkO O w j b namesC 104) : Sl encS 1 w (.slice (some ⟨b, 0, none⟩) 36 36) namesL := by
  refine ⟨⟨_, 36, rfl, Nat.le_refl _, by decide, fun _ => ⟨_, _, rfl⟩⟩, fun i hi j u hu => ?_⟩
  obtain rfl : j = 0 := by
    have := (List.getElem?_eq_some_iff.1 hu).1
    simpa using this
  have hu' : Value.string (bs namesL[i]) = u := by simpa using hu
  have := h.cell i (u := u) (by rw [← hu']; unfold namesC; simp [hi])
  have e : ((adr (.slice (some ⟨b, 0, none⟩) 36 36) 1 i).add 0) = ⟨b, i, none⟩ := by simp [adr, Addr.add]
  exact (congrArg w.cell? e).trans this
theorem names_ret (w : World) : Ret Tryz.prog 64 [] w fun v w' => v = .agg namesC ∧ Ext w w' := by
  refine Ret.enter Tryz.func64 Tryz.ntmps64 rfl rfl ?_
  refine WC.seq ?_
  refine WC.region ?_
  refine WL.allocO (Rng.start w) 1 (by omega) (Tryz.zeroValue104 _) rfl ?_
  intro xb w1 O1 hx1 hU1 hR1 hE1
  refine WL.nil ?_
  refine QF.seqNext ?_
  refine WC.seq ?_
  refine WC.region ?_
  refine WL.v (RV.buildArr (cells := namesC) Tryz.underlying104 (Tryz.sizeOf9 _) (Tryz.zeroValue104 _) rfl (by kernel_rfl)) rfl ?_
  refine WL.storeAgg (us := namesC) hx1 (by kernel_rfl) (Tryz.sizeOf104 _) (by kernel_rfl) rfl rfl rfl ?_
  have hx2 := hx1.setRow (us := namesC)
  have hE2 : Ext w (w1.setRow xb namesC) := (hU1.trans (Upd.setRow (by decide) hx1.tag rfl)).ext
  refine WL.nil ?_
  refine QF.seqNext ?_
  refine WC.ret ?_
  refine QF.doneC1 rfl rfl (hx2.cellsAdd) (Tryz.isAgg104 _) (Tryz.sizeOf104 _) (⟨rfl, hE2⟩)
def numV (s : List UInt8) : Int := match numM s with | some c => (c : Nat) | none => 0
theorem number_ret (s : List UInt8) (w : World) : Ret Tryz.prog 57 [.string (bs s)] w fun v w' => v = .tuple #[.int .i64 (numV s), .bool (numM s).isSome] ∧ Ext w w' := by
  refine Ret.enter Tryz.func57 Tryz.ntmps57 rfl rfl ?_
  refine WC.seq ?_
  refine WC.region ?_
  refine WL.v (RV.assign rfl) rfl ?_
  refine WL.v (RV.assign rfl) rfl ?_
  refine WL.nil ?_
  refine QF.seqNext ?_
  refine WC.seq ?_
  refine WC.region ?_
  refine WL.call Tryz.call64 rfl (names_ret w) rfl ?_
  rintro v w1 ⟨rfl, hE1⟩
  refine WL.allocO (Rng.start w1) 1 (by omega) (Tryz.zeroValue104 _) rfl ?_
  intro xb w2 O2 hx2 hU2 hR2 hE2
  refine WL.storeAgg (us := namesC) hx2 (by kernel_rfl) (Tryz.sizeOf104 _) (by kernel_rfl) rfl rfl rfl ?_
  have hx3 := hx2.setRow (us := namesC)
  have hE3 : Ext w1 (w2.setRow xb namesC) := (hU2.trans (Upd.setRow (by decide) hx2.tag rfl)).ext
  have hs3 := names_cells hx3
  generalize w2.setRow xb namesC = w3 at *
  refine WL.nil ?_
  refine QF.seqNext ?_
  refine WC.seq ?_
  refine WC.region ?_
  refine WL.v (RV.sliceArr Tryz.underlying104 (Tryz.sizeOf9 _) (by decide) rfl) rfl ?_
  refine WL.v (RV.move rfl) rfl ?_
  refine WL.call Tryz.call85 rfl (indexStr_ret namesL s _ w3 hs3) rfl ?_
  rintro v _ ⟨rfl, rfl⟩
  refine WL.v (RV.assign rfl) rfl ?_
  refine WL.nil ?_
  refine QF.seqNext ?_
  refine WC.seq ?_
  refine WC.region ?_
  refine WL.v (RV.move rfl) rfl ?_
  refine WL.v (RV.max2 rfl rfl) rfl ?_
  refine WL.v (RV.move rfl) rfl ?_
  refine WL.v (RV.geq rfl rfl) rfl ?_
  refine WL.v (RV.assign rfl) rfl ?_
  refine WL.v (RV.assign rfl) rfl ?_
  refine WL.nil ?_
  refine QF.seqNext ?_
  refine WC.ret ?_
  have h : idxS namesL s = match numM s with | some c => (c : Nat) | none => -1 := rfl
  refine QF.done2 rfl rfl rfl (⟨?_, hE1.trans hE3⟩)
  rw [h]
  unfold numV
  cases numM s with
  | none => rfl
  | some c => simp
/-! One class. -/
def nv (x : N3) : Value := .agg #[.int .i64 x.1, .int .i64 x.2.1, x.2.2]
def PostE (kv : Value) (O : Nat → Nat) (w : World) (j rb : Nat) (l : List UInt8) (op : Int) (x : N3) : PR → Prop
  | .ok t r => Rdr kv O w j rb l ((l.length : Int) - (r.length : Int)) op 0 0 ∧ Nt O w t x
  | .bad p e => x.2.2.oneCell' = true ∧ ∃ a op', Rdr kv O w j rb l a op' ((l.length : Int) - (p : Int)) e ∧ 0 ≤ a ∧ a ≤ l.length + 20 - op ∧ op ≤ op' ∧ op' ≤ 20
abbrev M3 := List UInt8 × N3
def encM (m : M3) : List Value := [.string (bs m.1), .int .i64 m.2.1, .int .i64 m.2.2.1, m.2.2.2]
abbrev Kn := List (List UInt8 × Nd)
/-- Names that are known, and what they mean. -/
def KnownM (O : Nat → Nat) (w : World) (kv : Value) (kn : Kn) (ms : List M3) : Prop :=
  Sl encM 4 w kv ms ∧ Free O w kv ∧ kn.length = ms.length ∧ ∀ i, i < ms.length → (nth kn i).1 = (nth ms i).1 ∧ Nt O w (nth kn i).2 (nth ms i).2
def Known (O : Nat → Nat) (w : World) (kv : Value) (kn : Kn) : Prop := ∃ ms : List M3, KnownM O w kv kn ms
theorem KnownM.upd {S : Nat → Prop} {O O' : Nat → Nat} {w w' : World} {kv : Value} {kn : Kn} {ms : List M3} (h : KnownM O w kv kn ms) (u : Upd S O w O' w') : KnownM O' w' kv kn ms := by
  obtain ⟨h1, h2, h3, h4⟩ := h
  exact ⟨h1.upd h2 u, h2.upd u, h3, fun i hi => ⟨(h4 i hi).1, (h4 i hi).2.upd u⟩⟩
theorem Known.upd {S : Nat → Prop} {O O' : Nat → Nat} {w w' : World} {kv : Value} {kn : Kn} (h : Known O w kv kn) (u : Upd S O w O' w') : Known O' w' kv kn := by
  obtain ⟨ms, h⟩ := h
  exact ⟨ms, h.upd u⟩
theorem sl0 {α : Type} {enc : α → List Value} {sz : Nat} [Inhabited α] (w : World) : Sl enc sz w (.slice none 0 0) ([] : List α) := ⟨⟨none, 0, rfl, Nat.le_refl _, by omega, fun h => absurd rfl h⟩, fun i hi => absurd hi (by simp)⟩
theorem Known.nil (O : Nat → Nat) (w : World) : Known O w (.slice none 0 0) [] := ⟨[], sl0 w, (fun a n c e => by cases e), rfl, fun i hi => absurd hi (by simp)⟩
variable {kv : Value} {kn : Kn}
theorem nv_ok {x : N3} (h : x.2.2.oneCell' = true) : (#[.int .i64 x.1, .int .i64 x.2.1, x.2.2] : Array Value).toList.all Value.oneCell' = true := by
  simp only [List.all_cons, h]; rfl
theorem elN : Elem Tryz.prog 46 48 3 40 := ⟨Tryz.underlying46, by kernel_rfl, by decide⟩
theorem enc_one {x : N3} (h : x.2.2.oneCell' = true) : ∀ c ∈ encN x, c.oneCell' = true := fun c hc => by
  simp at hc
  rcases hc with rfl | rfl | rfl
  · rfl
  · rfl
  · exact h
def Reads (kv : Value) (kn : Kn) (F : Nat) (ex : List Value) (op : Int) (M : List UInt8 → PR) (Pre : List UInt8 → Prop) : Prop :=
  ∀ (B : Nat) (O : Nat → Nat) (j rb : Nat) (l r : List UInt8) (w : World), Rng B O w → j ≠ 0 → r <:+ l → l.length ≤ 4096 → Pre r → Rdr kv O w j rb l ((l.length : Int) - (r.length : Int)) op 0 0 → Known O w kv kn →
    Ret Tryz.prog F (.pointer (some ⟨rb, 0, none⟩) :: ex) w fun v w' => ∃ x, v = nv x ∧ Upd (fun k => k = j) O w O w' ∧ PostE kv O w' j rb l op x (M r)
theorem class_ret (kind op : Int) (hop : 0 ≤ op ∧ op ≤ 20) : Reads kv kn 142 [.int .i64 kind] op (classM kind) (fun _ => True) := by
  intro B O j rb l r w hR hj hr hl _ h _
  obtain ⟨T, hT0, hT⟩ := hR.bound
  have hjT : j < T := by rw [← h.tag]; exact hT rb
  have hq := (skipB_suf r).trans hr
  have hql := hq.length_le
  refine Ret.enter Tryz.func142 Tryz.ntmps142 rfl rfl ?_
  refine WC.seq ?_
  refine WC.region ?_
  refine WL.allocO hR T (by omega) (Tryz.zeroValue48 _) rfl ?_
  intro xb w1 O1 hx1 hU1 hR1 hE1
  have hb1 := h.upd hU1 hj (by omega)
  refine WL.nil ?_
  refine QF.seqNext ?_
  refine WC.seq ?_
  refine WC.seq ?_
  refine WC.region ?_
  refine WL.v (RV.move rfl) rfl ?_
  refine WL.v (RV.nilPtr rfl) rfl ?_
  refine WL.v (RV.fieldAddr 0 Tryz.underlying125 rfl rfl (Tryz.sizeOf123 _) (by decide) rfl) rfl ?_
  refine WL.call Tryz.call82 rfl (peek_ret O1 w1 j rb l r op 0 0 hj hr (by omega) hb1) rfl ?_
  rintro v w2 ⟨rfl, hb2, hU2⟩
  have hx2 := hx1.upd hU2 (by omega) (by omega)
  have hR2 := hR1.upd hU2
  have hUt := (hU1.pT hj hT0 (Nat.le_refl _)).trans (hU2.pj hT0)
  refine WL.call Tryz.call137 rfl (letter_ret ((skipB r).headD 0) w2) rfl ?_
  rintro v _ ⟨rfl, rfl⟩
  refine WL.v (RV.not rfl) rfl ?_
  refine WL.nil ?_
  refine QF.seqNext ?_
  cases hc : letterB ((skipB r).headD 0) with
  | false =>
    have hM : classM kind r = .bad (skipB r).length 4 := by unfold classM; rw [if_neg (by rw [hc]; decide)]
    refine WC.condT rfl (rfl) ?_
    refine WC.seq ?_
    refine WC.region ?_
    refine WL.v (RV.move rfl) rfl ?_
    refine WL.v (RV.move rfl) rfl ?_
    refine WL.v (RV.nilPtr rfl) rfl ?_
    refine WL.v (RV.fieldAddr 0 Tryz.underlying125 rfl rfl (Tryz.sizeOf123 _) (by decide) rfl) rfl ?_
    refine WL.v (RV.fieldAddr 1 Tryz.underlying123 rfl rfl (Tryz.sizeOf3 _) (by decide) rfl) rfl ?_
    refine WL.v (RV.load (by first | exact hb2.r0 | exact hb2.r1 | exact hb2.r2 | exact hb2.r3 | exact hb2.r4 | exact hb2.r5) (Tryz.isAgg3 _) rfl) rfl ?_
    refine WL.call Tryz.call83 rfl (fail_ret _ O1 _ j rb l _ _ 0 ((l.length : Int) - ((skipB r).length : Int)) 4 hj hR2 hb2) rfl ?_
    rintro v wf ⟨rfl, hbf, hUf⟩
    have hxf := hx2.upd hUf (by omega) (by omega)
    refine WL.storeAgg (us := #[.int .i64 0, .int .i64 0, .slice none 0 0]) hxf rfl (Tryz.sizeOf48 _) rfl rfl rfl rfl ?_
    have hxg := hxf.setRow (us := #[.int .i64 0, .int .i64 0, .slice none 0 0])
    have hUg : Upd (fun k => k = T) O1 wf O1 (wf.setRow xb #[.int .i64 0, .int .i64 0, .slice none 0 0]) := Upd.setRow (by omega) hxf.tag rfl
    have hbg := hbf.upd hUg hj (by omega)
    refine WL.nil ?_
    refine QF.seqNext ?_
    refine WC.ret ?_
    refine QF.thenRet ?_
    refine QF.doneC1 rfl rfl (hxg.cellsAdd) (Tryz.isAgg48 _) (Tryz.sizeOf48 _) (⟨(0, 0, .slice none 0 0), rfl, ((hUt.trans (hUf.pj hT0)).trans (hUg.pT hj hT0 (Nat.le_refl _))).priv hT hj, ?_⟩)
    rw [hM]
    exact ⟨rfl, _, op, hbg.fgt h.tag, by omega, by omega, by omega, by omega⟩
  | true =>
    refine WC.condF rfl (rfl) ?_
    refine WC.skip ?_
    refine QF.seqNext ?_
    refine WC.seq ?_
    refine WC.region ?_
    refine WL.v (RV.move rfl) rfl ?_
    refine WL.v (RV.nilPtr rfl) rfl ?_
    refine WL.v (RV.fieldAddr 0 Tryz.underlying125 rfl rfl (Tryz.sizeOf123 _) (by decide) rfl) rfl ?_
    refine WL.v (RV.fieldAddr 1 Tryz.underlying123 rfl rfl (Tryz.sizeOf3 _) (by decide) rfl) rfl ?_
    refine WL.v (RV.load (by first | exact hb2.r0 | exact hb2.r1 | exact hb2.r2 | exact hb2.r3 | exact hb2.r4 | exact hb2.r5) (Tryz.isAgg3 _) rfl) rfl ?_
    refine WL.v (RV.assign rfl) rfl ?_
    refine WL.nil ?_
    refine QF.seqNext ?_
    refine WC.seq ?_
    refine WC.region ?_
    refine WL.v (RV.move rfl) rfl ?_
    refine WL.v (RV.nilPtr rfl) rfl ?_
    refine WL.v (RV.fieldAddr 0 Tryz.underlying125 rfl rfl (Tryz.sizeOf123 _) (by decide) rfl) rfl ?_
    refine WL.call Tryz.call146 rfl (name_ret O1 _ j rb l (skipB r) op 0 0 hj hq (by omega) hb2) rfl ?_
    rintro v w3 ⟨rfl, hb3, hU3⟩
    have hx3 := hx2.upd hU3 (by omega) (by omega)
    have hR3 := hR2.upd hU3
    refine WL.call Tryz.call57 rfl (number_ret ((skipB r).takeWhile letterB) w3) rfl ?_
    rintro v w4 ⟨rfl, hE4⟩
    have hX4 : Upd (fun _ => False) O1 w3 O1 w4 := Upd.of_ext (fun h => h) O1 hE4
    have hb4 := hb3.upd hX4 hj (fun h => h)
    have hx4 := hx3.upd hX4 (by omega) (fun h => h)
    have hR4 := hR3.upd hX4
    have hUt4 := (hUt.trans (hU3.pj hT0)).trans (Upd.pE O1 hE4 hj hT0)
    refine WL.v (RV.move rfl) rfl ?_
    refine WL.v (RV.extract rfl rfl) rfl ?_
    refine WL.v (RV.extract rfl rfl) rfl ?_
    refine WL.v (RV.assign rfl) rfl ?_
    refine WL.v (RV.assign rfl) rfl ?_
    refine WL.nil ?_
    refine QF.seqNext ?_
    refine WC.seq ?_
    refine WC.seq ?_
    refine WC.region ?_
    refine WL.v (RV.move rfl) rfl ?_
    refine WL.v (RV.not rfl) rfl ?_
    refine WL.nil ?_
    refine QF.seqNext ?_
    cases hn : numM ((skipB r).takeWhile letterB) with
    | none =>
      have hM : classM kind r = .bad (skipB r).length 5 := by unfold classM; rw [if_pos hc, hn]
      refine WC.condT rfl (rfl) ?_
      refine WC.seq ?_
      refine WC.region ?_
      refine WL.v (RV.move rfl) rfl ?_
      refine WL.v (RV.move rfl) rfl ?_
      refine WL.call Tryz.call83 rfl (fail_ret _ O1 _ j rb l _ _ 0 ((l.length : Int) - ((skipB r).length : Int)) 5 hj hR4 hb4) rfl ?_
      rintro v wf ⟨rfl, hbf, hUf⟩
      have hxf := hx4.upd hUf (by omega) (by omega)
      refine WL.storeAgg (us := #[.int .i64 0, .int .i64 0, .slice none 0 0]) hxf rfl (Tryz.sizeOf48 _) rfl rfl rfl rfl ?_
      have hxg := hxf.setRow (us := #[.int .i64 0, .int .i64 0, .slice none 0 0])
      have hUg : Upd (fun k => k = T) O1 wf O1 (wf.setRow xb #[.int .i64 0, .int .i64 0, .slice none 0 0]) := Upd.setRow (by omega) hxf.tag rfl
      have hbg := hbf.upd hUg hj (by omega)
      refine WL.nil ?_
      refine QF.seqNext ?_
      refine WC.ret ?_
      refine QF.thenRet ?_
      refine QF.doneC1 rfl rfl (hxg.cellsAdd) (Tryz.isAgg48 _) (Tryz.sizeOf48 _) (⟨(0, 0, .slice none 0 0), rfl, ((hUt4.trans (hUf.pj hT0)).trans (hUg.pT hj hT0 (Nat.le_refl _))).priv hT hj, ?_⟩)
      rw [hM]
      exact ⟨rfl, _, op, hbg.fgt h.tag, by have := (List.dropWhile_suffix (l := skipB r) letterB).length_le; omega, by omega, by omega, by omega⟩
    | some c =>
      have hM : classM kind r = .ok (.mk kind (c : Nat) []) ((skipB r).dropWhile letterB) := by unfold classM; rw [if_pos hc, hn]
      have hv : numV ((skipB r).takeWhile letterB) = (c : Nat) := by unfold numV; rw [hn]
      rw [hv]
      refine WC.condF rfl (rfl) ?_
      refine WC.skip ?_
      refine QF.seqNext ?_
      refine WC.seq ?_
      refine WC.region ?_
      refine WL.v (RV.move rfl) rfl ?_
      refine WL.v (RV.move rfl) rfl ?_
      refine WL.v (RV.buildF pl48 (Tryz.zeroValue48 _) rfl (by first | rfl | (simp only [List.all_cons, List.all_nil]; rfl)) rfl rfl) rfl ?_
      refine WL.storeAgg (us := #[.int .i64 kind, .int .i64 (c : Nat), .slice none 0 0]) hx4 rfl (Tryz.sizeOf48 _) rfl rfl rfl rfl ?_
      have hx5 := hx4.setRow (us := #[.int .i64 kind, .int .i64 (c : Nat), .slice none 0 0])
      have hU5 : Upd (fun k => k = T) O1 w4 O1 (w4.setRow xb #[.int .i64 kind, .int .i64 (c : Nat), .slice none 0 0]) := Upd.setRow (by omega) hx4.tag rfl
      have hb5 := hb4.upd hU5 hj (by omega)
      refine WL.nil ?_
      refine QF.seqNext ?_
      refine WC.ret ?_
      refine QF.doneC1 rfl rfl (hx5.cellsAdd) (Tryz.isAgg48 _) (Tryz.sizeOf48 _) (⟨(kind, (c : Nat), .slice none 0 0), rfl, (hUt4.trans (hU5.pT hj hT0 (Nat.le_refl _))).priv hT hj, ?_⟩)
      rw [hM]
      exact ⟨hb5.fgt h.tag, Nt.leaf _ _ _ _⟩
end Go.Proofs.YtmohcfjopaccdaaGreatDoor
