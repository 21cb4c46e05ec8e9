/- Package rule, walked: where a line's reader stands. -/
import Derived.Test.YtmohcfjopaccdaaGreatDoorExK
import Derived.Test.YtmohcfjopaccdaaGreatDoorVi
namespace Go.VL
/-- What the reader of a rule text holds. -/
structure LS where
  l : List UInt8
  pos : Int
  to : Int
  bg : Int
  bad : Int
  e : Int
  ig : Value
  kp : Value
  ru : Value
  mc : Value
  i : Bool
  k : Bool
def LS.cells (s : LS) : Array Value := #[.string (bs s.l), .int .i64 s.pos, .int .i64 s.to, .int .i64 s.bg, .int .i64 s.bad, .int .i64 s.e, s.ig, s.kp, s.ru, s.mc, .bool s.i, .bool s.k]
theorem BlkO.q0 {O : Nat → Nat} {w : World} {j rb : Nat} {s : LS} {E : TypeId} (h : BlkO O w j rb s.cells E) : w.cell? ⟨rb, 0, none⟩ = some (.string (bs s.l)) := h.cell 0 rfl
theorem BlkO.q1 {O : Nat → Nat} {w : World} {j rb : Nat} {s : LS} {E : TypeId} (h : BlkO O w j rb s.cells E) : w.cell? ⟨rb, 1, none⟩ = some (.int .i64 s.pos) := h.cell 1 rfl
theorem BlkO.q2 {O : Nat → Nat} {w : World} {j rb : Nat} {s : LS} {E : TypeId} (h : BlkO O w j rb s.cells E) : w.cell? ⟨rb, 2, none⟩ = some (.int .i64 s.to) := h.cell 2 rfl
theorem BlkO.q3 {O : Nat → Nat} {w : World} {j rb : Nat} {s : LS} {E : TypeId} (h : BlkO O w j rb s.cells E) : w.cell? ⟨rb, 3, none⟩ = some (.int .i64 s.bg) := h.cell 3 rfl
theorem BlkO.q4 {O : Nat → Nat} {w : World} {j rb : Nat} {s : LS} {E : TypeId} (h : BlkO O w j rb s.cells E) : w.cell? ⟨rb, 4, none⟩ = some (.int .i64 s.bad) := h.cell 4 rfl
theorem BlkO.q5 {O : Nat → Nat} {w : World} {j rb : Nat} {s : LS} {E : TypeId} (h : BlkO O w j rb s.cells E) : w.cell? ⟨rb, 5, none⟩ = some (.int .i64 s.e) := h.cell 5 rfl
theorem BlkO.q6 {O : Nat → Nat} {w : World} {j rb : Nat} {s : LS} {E : TypeId} (h : BlkO O w j rb s.cells E) : w.cell? ⟨rb, 6, none⟩ = some (s.ig) := h.cell 6 rfl
theorem BlkO.q7 {O : Nat → Nat} {w : World} {j rb : Nat} {s : LS} {E : TypeId} (h : BlkO O w j rb s.cells E) : w.cell? ⟨rb, 7, none⟩ = some (s.kp) := h.cell 7 rfl
theorem BlkO.q8 {O : Nat → Nat} {w : World} {j rb : Nat} {s : LS} {E : TypeId} (h : BlkO O w j rb s.cells E) : w.cell? ⟨rb, 8, none⟩ = some (s.ru) := h.cell 8 rfl
theorem BlkO.q9 {O : Nat → Nat} {w : World} {j rb : Nat} {s : LS} {E : TypeId} (h : BlkO O w j rb s.cells E) : w.cell? ⟨rb, 9, none⟩ = some (s.mc) := h.cell 9 rfl
theorem BlkO.q10 {O : Nat → Nat} {w : World} {j rb : Nat} {s : LS} {E : TypeId} (h : BlkO O w j rb s.cells E) : w.cell? ⟨rb, 10, none⟩ = some (.bool s.i) := h.cell 10 rfl
theorem BlkO.q11 {O : Nat → Nat} {w : World} {j rb : Nat} {s : LS} {E : TypeId} (h : BlkO O w j rb s.cells E) : w.cell? ⟨rb, 11, none⟩ = some (.bool s.k) := h.cell 11 rfl
theorem BlkO.s_pos {O : Nat → Nat} {w : World} {j rb : Nat} {s : LS} {E : TypeId} (h : BlkO O w j rb s.cells E) (a' : Int) : BlkO O (w.setCell ⟨rb, 1, none⟩ (.int .i64 a')) j rb ({s with pos := a'} : LS).cells E := h.set 1 _
theorem BlkO.s_to {O : Nat → Nat} {w : World} {j rb : Nat} {s : LS} {E : TypeId} (h : BlkO O w j rb s.cells E) (a' : Int) : BlkO O (w.setCell ⟨rb, 2, none⟩ (.int .i64 a')) j rb ({s with to := a'} : LS).cells E := h.set 2 _
theorem BlkO.s_bg {O : Nat → Nat} {w : World} {j rb : Nat} {s : LS} {E : TypeId} (h : BlkO O w j rb s.cells E) (a' : Int) : BlkO O (w.setCell ⟨rb, 3, none⟩ (.int .i64 a')) j rb ({s with bg := a'} : LS).cells E := h.set 3 _
theorem BlkO.s_bad {O : Nat → Nat} {w : World} {j rb : Nat} {s : LS} {E : TypeId} (h : BlkO O w j rb s.cells E) (a' : Int) : BlkO O (w.setCell ⟨rb, 4, none⟩ (.int .i64 a')) j rb ({s with bad := a'} : LS).cells E := h.set 4 _
theorem BlkO.s_e {O : Nat → Nat} {w : World} {j rb : Nat} {s : LS} {E : TypeId} (h : BlkO O w j rb s.cells E) (a' : Int) : BlkO O (w.setCell ⟨rb, 5, none⟩ (.int .i64 a')) j rb ({s with e := a'} : LS).cells E := h.set 5 _
theorem BlkO.s_ru {O : Nat → Nat} {w : World} {j rb : Nat} {s : LS} {E : TypeId} (h : BlkO O w j rb s.cells E) (a' : Value) : BlkO O (w.setCell ⟨rb, 8, none⟩ a') j rb ({s with ru := a'} : LS).cells E := h.set 8 _
end Go.VL
namespace Go.Proofs.YtmohcfjopaccdaaGreatDoor
open Go.VL Go.Proofs
set_option maxRecDepth 10000

abbrev Rd6 (O : Nat → Nat) (w : World) (j rb : Nat) (s : LS) : Prop := BlkO O w j rb s.cells 56
theorem take_get {l : List UInt8} {m i : Nat} {c : UInt8} (h : (l.take m)[i]? = some c) : l[i]? = some c := by
  rw [List.getElem?_take] at h
  split at h
  · exact h
  · cases h
theorem rblanks_ret (O : Nat → Nat) (w : World) (j rb : Nat) (s : LS) (m : Nat) (r : List UInt8) (hj : j ≠ 0) (hm : m ≤ s.l.length) (hl : s.l.length ≤ 100000) (hto : s.to = (m : Int)) (hr : r <:+ s.l.take m) (hp : s.pos = (m : Int) - (r.length : Int)) (h : Rd6 O w j rb s) :
    Ret Tryz.prog 38 [.pointer (some ⟨rb, 0, none⟩)] w fun v w' => v = .bool (decide (0 < (skipB r).length)) ∧ Rd6 O w' j rb {s with pos := (m : Int) - ((skipB r).length : Int)} ∧ Upd (fun k => k = j) O w O w' := by
  have hz : ¬ (fun k : Nat => k = j) 0 := fun e => hj e.symm
  have hlm : (s.l.take m).length = m := by simp; omega
  have h0 : Rd6 O w j rb {s with pos := (m : Int) - (r.length : Int)} := by rw [← hp]; exact h
  refine Ret.enter Tryz.func38 Tryz.ntmps38 rfl rfl ?_
  refine WC.seq ?_
  refine WC.region ?_
  refine WL.v (RV.assign rfl) rfl ?_
  refine WL.nil ?_
  refine QF.seqNext ?_
  refine WC.seq ?_
  refine WC.block ?_
  refine WC.loop (fun x : List UInt8 × World => [(0, .pointer (some ⟨rb, 0, none⟩))]) (fun x : List UInt8 × World => x.2) (fun x : List UInt8 × World => x.1 <:+ s.l.take m ∧ skipB x.1 = skipB r ∧ Rd6 O x.2 j rb {s with pos := (m : Int) - (x.1.length : Int)} ∧ Upd (fun k => k = j) O w O x.2) (fun x : List UInt8 × World => x.1.length) (r, w) (⟨hr, rfl, h0, Upd.refl hz _ _⟩) ⟨rfl, trivial⟩ rfl ?_
  rintro ⟨r1, w1⟩ ⟨hr1, hs1, hb1, hU1⟩
  dsimp only at hr1 hs1 hb1 hU1 ⊢
  have hb2 := hb1.drew
  have hrl := hr1.length_le
  refine WC.seq ?_
  refine WC.seq ?_
  refine WC.still (by kernel_rfl) (by kernel_rfl) ?_
  refine WS.v (RV.move rfl) rfl ?_
  refine WS.v (RV.nilPtr rfl) rfl ?_
  refine WS.v (RV.fieldAddr 1 Tryz.underlying53 rfl rfl (Tryz.sizeOf3 _) (by decide) rfl) rfl ?_
  refine WS.v (RV.load (by first | exact hb2.q0 | exact hb2.q1 | exact hb2.q2 | exact hb2.q3 | exact hb2.q4 | exact hb2.q5 | exact hb2.q6 | exact hb2.q7 | exact hb2.q8 | exact hb2.q9 | exact hb2.q10 | exact hb2.q11) (Tryz.isAgg3 _) rfl) rfl ?_
  refine WS.v (RV.move rfl) rfl ?_
  refine WS.v (RV.nilPtr rfl) rfl ?_
  refine WS.v (RV.fieldAddr 2 Tryz.underlying53 rfl rfl (Tryz.sizeOf3 _) (by decide) rfl) rfl ?_
  refine WS.v (RV.load (by first | exact hb2.q0 | exact hb2.q1 | exact hb2.q2 | exact hb2.q3 | exact hb2.q4 | exact hb2.q5 | exact hb2.q6 | exact hb2.q7 | exact hb2.q8 | exact hb2.q9 | exact hb2.q10 | exact hb2.q11) (Tryz.isAgg3 _) rfl) rfl ?_
  refine WS.v (RV.lss rfl rfl) rfl ?_
  refine WS.v (RV.move rfl) rfl ?_
  cases r1 with
  | nil =>
    refine WS.know (d := 12) rfl (b' := false) (decide_eq_false (by simp [hto])) ?_
    have hb3 := hb2.drew
    refine WS.off rfl rfl rfl ?_
    refine WS.off rfl rfl rfl ?_
    refine WS.off rfl rfl rfl ?_
    refine WS.off rfl rfl rfl ?_
    refine WS.off rfl rfl rfl ?_
    refine WS.off rfl rfl rfl ?_
    refine WS.off rfl rfl rfl ?_
    refine WS.off rfl rfl rfl ?_
    refine WS.off rfl rfl rfl ?_
    refine WS.off rfl rfl rfl ?_
    refine WS.v (RV.pickF rfl rfl) rfl ?_
    refine WS.nil ?_
    refine QF.seqNext ?_
    refine WC.condF rfl rfl ?_
    refine WC.exit ?_
    refine QF.thenExit ?_
    refine QF.thenExit ?_
    refine QF.blockHit ?_
    refine QF.seqNext ?_
    refine WC.seq ?_
    refine WC.still (by kernel_rfl) (by kernel_rfl) ?_
    refine WS.v (RV.move rfl) rfl ?_
    refine WS.v (RV.nilPtr rfl) rfl ?_
    refine WS.v (RV.fieldAddr 1 Tryz.underlying53 rfl rfl (Tryz.sizeOf3 _) (by decide) rfl) rfl ?_
    refine WS.v (RV.load (by first | exact hb3.q0 | exact hb3.q1 | exact hb3.q2 | exact hb3.q3 | exact hb3.q4 | exact hb3.q5 | exact hb3.q6 | exact hb3.q7 | exact hb3.q8 | exact hb3.q9 | exact hb3.q10 | exact hb3.q11) (Tryz.isAgg3 _) rfl) rfl ?_
    refine WS.v (RV.move rfl) rfl ?_
    refine WS.v (RV.nilPtr rfl) rfl ?_
    refine WS.v (RV.fieldAddr 2 Tryz.underlying53 rfl rfl (Tryz.sizeOf3 _) (by decide) rfl) rfl ?_
    refine WS.v (RV.load (by first | exact hb3.q0 | exact hb3.q1 | exact hb3.q2 | exact hb3.q3 | exact hb3.q4 | exact hb3.q5 | exact hb3.q6 | exact hb3.q7 | exact hb3.q8 | exact hb3.q9 | exact hb3.q10 | exact hb3.q11) (Tryz.isAgg3 _) rfl) rfl ?_
    refine WS.v (RV.lss rfl rfl) rfl ?_
    refine WS.v (RV.assign rfl) rfl ?_
    refine WS.nil ?_
    refine QF.seqNext ?_
    refine WC.ret ?_
    refine QF.done1 rfl rfl (⟨by rw [← hs1]; simp [hto, skipB], by rw [← hs1]; exact hb3, hU1.drew.drew⟩)
  | cons b r2 =>
    simp only [List.length_cons] at hrl hb2
    refine WS.know (d := 12) rfl (b' := true) (decide_eq_true (by simp only [List.length_cons, hto]; omega)) ?_
    refine WS.on rfl ?_
    refine WS.v (RV.move rfl) rfl ?_
    refine WS.on rfl ?_
    refine WS.v (RV.nilPtr rfl) rfl ?_
    refine WS.on rfl ?_
    refine WS.v (RV.fieldAddr 0 Tryz.underlying53 rfl rfl (Tryz.sizeOf9 _) (by decide) rfl) rfl ?_
    refine WS.on rfl ?_
    refine WS.v (RV.load (by first | exact hb2.q0 | exact hb2.q1 | exact hb2.q2 | exact hb2.q3 | exact hb2.q4 | exact hb2.q5 | exact hb2.q6 | exact hb2.q7 | exact hb2.q8 | exact hb2.q9 | exact hb2.q10 | exact hb2.q11) (Tryz.isAgg9 _) rfl) rfl ?_
    refine WS.on rfl ?_
    refine WS.v (RV.move rfl) rfl ?_
    refine WS.on rfl ?_
    refine WS.v (RV.nilPtr rfl) rfl ?_
    refine WS.on rfl ?_
    refine WS.v (RV.fieldAddr 1 Tryz.underlying53 rfl rfl (Tryz.sizeOf3 _) (by decide) rfl) rfl ?_
    refine WS.on rfl ?_
    refine WS.v (RV.load (by first | exact hb2.q0 | exact hb2.q1 | exact hb2.q2 | exact hb2.q3 | exact hb2.q4 | exact hb2.q5 | exact hb2.q6 | exact hb2.q7 | exact hb2.q8 | exact hb2.q9 | exact hb2.q10 | exact hb2.q11) (Tryz.isAgg3 _) rfl) rfl ?_
    refine WS.on rfl ?_
    refine WS.v (RV.indexS1 (c := b) Tryz.underlying9 rfl rfl (m - (r2.length + 1)) (by dsimp only; omega) (take_get (by have := suf_get hr1; rwa [hlm] at this))) rfl ?_
    refine WS.on rfl ?_
    refine WS.v (RV.eql rfl rfl) rfl ?_
    refine WS.v (RV.pickT rfl rfl) rfl ?_
    refine WS.nil ?_
    refine QF.seqNext ?_
    refine WC.cond rfl ?_ ?_
    · intro hb
      replace hb : b = 32 := by rw [show (32 : Int) = ((32 : Nat) : Int) from rfl, byteEq b 32 (by decide)] at hb; simpa using hb
      subst hb
      refine WC.skip ?_
      refine QF.seqNext ?_
      refine WC.block ?_
      refine WC.region ?_
      refine WL.v (RV.move rfl) rfl ?_
      refine WL.v (RV.nilPtr rfl) rfl ?_
      refine WL.v (RV.fieldAddr 1 Tryz.underlying53 rfl rfl (Tryz.sizeOf3 _) (by decide) rfl) rfl ?_
      refine WL.v (RV.load (by first | exact hb2.q0 | exact hb2.q1 | exact hb2.q2 | exact hb2.q3 | exact hb2.q4 | exact hb2.q5 | exact hb2.q6 | exact hb2.q7 | exact hb2.q8 | exact hb2.q9 | exact hb2.q10 | exact hb2.q11) (Tryz.isAgg3 _) rfl) rfl ?_
      refine WL.v (RV.add rfl rfl (Fit.i64 (by dsimp only; omega))) rfl ?_
      refine WL.v (RV.nilPtr rfl) rfl ?_
      refine WL.v (RV.fieldAddr 1 Tryz.underlying53 rfl rfl (Tryz.sizeOf3 _) (by decide) rfl) rfl ?_
      refine WL.storeBlk (j := 1) hb2 rfl (Tryz.sizeOf3 _) rfl rfl rfl rfl ?_
      rw [show ((m : Int) - ((r2.length + 1 : Nat) : Int)) + 1 = (m : Int) - (r2.length : Int) from by omega]
      have hb3 := hb2.s_pos ((m : Int) - (r2.length : Int))
      have hU3 : Upd (fun k => k = j) O w1.drew O (w1.drew.setCell ⟨rb, 1, none⟩ (.int .i64 ((m : Int) - (r2.length : Int)))) := Upd.set hz hb2.tag rfl
      refine WL.nil ?_
      refine QF.blockNormal ?_
      refine QF.next ((r2, w1.drew.setCell ⟨rb, 1, none⟩ (.int .i64 ((m : Int) - (r2.length : Int))))) (⟨(List.suffix_cons _ _).trans hr1, by rw [← hs1]; simp [skipB], hb3, hU1.drew.trans hU3⟩) (by dsimp only; simp) ⟨rfl, trivial⟩ rfl
    · intro hb
      replace hb : b ≠ 32 := by rw [show (32 : Int) = ((32 : Nat) : Int) from rfl, byteEq b 32 (by decide)] at hb; simpa using hb
      have hsk : skipB (b :: r2) = b :: r2 := by simp [skipB, hb]
      have hb3 := hb2.drew
      refine WC.exit ?_
      refine QF.thenExit ?_
      refine QF.thenExit ?_
      refine QF.blockHit ?_
      refine QF.seqNext ?_
      refine WC.seq ?_
      refine WC.still (by kernel_rfl) (by kernel_rfl) ?_
      refine WS.v (RV.move rfl) rfl ?_
      refine WS.v (RV.nilPtr rfl) rfl ?_
      refine WS.v (RV.fieldAddr 1 Tryz.underlying53 rfl rfl (Tryz.sizeOf3 _) (by decide) rfl) rfl ?_
      refine WS.v (RV.load (by first | exact hb3.q0 | exact hb3.q1 | exact hb3.q2 | exact hb3.q3 | exact hb3.q4 | exact hb3.q5 | exact hb3.q6 | exact hb3.q7 | exact hb3.q8 | exact hb3.q9 | exact hb3.q10 | exact hb3.q11) (Tryz.isAgg3 _) rfl) rfl ?_
      refine WS.v (RV.move rfl) rfl ?_
      refine WS.v (RV.nilPtr rfl) rfl ?_
      refine WS.v (RV.fieldAddr 2 Tryz.underlying53 rfl rfl (Tryz.sizeOf3 _) (by decide) rfl) rfl ?_
      refine WS.v (RV.load (by first | exact hb3.q0 | exact hb3.q1 | exact hb3.q2 | exact hb3.q3 | exact hb3.q4 | exact hb3.q5 | exact hb3.q6 | exact hb3.q7 | exact hb3.q8 | exact hb3.q9 | exact hb3.q10 | exact hb3.q11) (Tryz.isAgg3 _) rfl) rfl ?_
      refine WS.v (RV.lss rfl rfl) rfl ?_
      refine WS.v (RV.assign rfl) rfl ?_
      refine WS.nil ?_
      refine QF.seqNext ?_
      refine WC.ret ?_
      refine QF.done1 rfl rfl (⟨by rw [← hs1, hsk]; simp [hto]; omega, by rw [← hs1, hsk]; exact hb3, hU1.drew.drew⟩)
theorem rfail_ret (O : Nat → Nat) (w : World) (j rb : Nat) (s : LS) (p e : Int) (hj : j ≠ 0) (he : s.e = 0) (h : Rd6 O w j rb s) :
    Ret Tryz.prog 54 [.pointer (some ⟨rb, 0, none⟩), .int .i64 p, .int .i64 e] w fun _ w' => Rd6 O w' j rb {s with bad := p, e := e} ∧ Upd (fun k => k = j) O w O w' := by
  refine Ret.enter Tryz.func54 Tryz.ntmps54 rfl rfl ?_
  refine WC.seq ?_
  refine WC.region ?_
  refine WL.v (RV.move rfl) rfl ?_
  refine WL.v (RV.nilPtr rfl) rfl ?_
  refine WL.v (RV.fieldAddr 5 Tryz.underlying53 rfl rfl (Tryz.sizeOf27 _) (by decide) rfl) rfl ?_
  refine WL.v (RV.load (by first | exact h.q0 | exact h.q1 | exact h.q2 | exact h.q3 | exact h.q4 | exact h.q5 | exact h.q6 | exact h.q7 | exact h.q8 | exact h.q9 | exact h.q10 | exact h.q11) (Tryz.isAgg27 _) rfl) rfl ?_
  refine WL.v (RV.eql rfl rfl) rfl ?_
  refine WL.nil ?_
  refine QF.seqNext ?_
  refine WC.condT rfl ((by rw [he]; rfl)) ?_
  refine WC.region ?_
  refine WL.v (RV.move rfl) rfl ?_
  refine WL.v (RV.move rfl) rfl ?_
  refine WL.v (RV.move rfl) rfl ?_
  refine WL.v (RV.move rfl) rfl ?_
  refine WL.v (RV.nilPtr rfl) rfl ?_
  refine WL.v (RV.fieldAddr 4 Tryz.underlying53 rfl rfl (Tryz.sizeOf3 _) (by decide) rfl) rfl ?_
  refine WL.storeBlk (j := 4) h rfl (Tryz.sizeOf3 _) rfl rfl rfl rfl ?_
  have hb2 := h.s_bad p
  have hU2 : Upd (fun k => k = j) O w O (w.setCell ⟨rb, 4, none⟩ (.int .i64 p)) := Upd.set (fun e => hj e.symm) h.tag rfl
  refine WL.v (RV.nilPtr rfl) rfl ?_
  refine WL.v (RV.fieldAddr 5 Tryz.underlying53 rfl rfl (Tryz.sizeOf27 _) (by decide) rfl) rfl ?_
  refine WL.storeBlk (j := 5) hb2 rfl (Tryz.sizeOf27 _) rfl rfl rfl rfl ?_
  have hb3 := hb2.s_e e
  have hU3 : Upd (fun k => k = j) O (w.setCell ⟨rb, 4, none⟩ (.int .i64 p)) O ((w.setCell ⟨rb, 4, none⟩ (.int .i64 p)).setCell ⟨rb, 5, none⟩ (.int .i64 e)) := Upd.set (fun e => hj e.symm) hb2.tag rfl
  refine WL.nil ?_
  refine QF.end0 rfl (⟨hb3, hU2.trans hU3⟩)
theorem rname_ret (O : Nat → Nat) (w : World) (j rb : Nat) (s : LS) (m : Nat) (r : List UInt8) (hj : j ≠ 0) (hm : m ≤ s.l.length) (hl : s.l.length ≤ 100000) (hto : s.to = (m : Int)) (hr : r <:+ s.l.take m) (hp : s.pos = (m : Int) - (r.length : Int)) (h : Rd6 O w j rb s) :
    Ret Tryz.prog 39 [.pointer (some ⟨rb, 0, none⟩)] w fun v w' => v = .string (bs (r.takeWhile letterB)) ∧ Rd6 O w' j rb {s with pos := (m : Int) - ((r.dropWhile letterB).length : Int)} ∧ Upd (fun k => k = j) O w O w' := by
  have hz : ¬ (fun k : Nat => k = j) 0 := fun e => hj e.symm
  have hlm : (s.l.take m).length = m := by simp; omega
  have h0 : Rd6 O w j rb {s with pos := (m : Int) - (r.length : Int)} := by rw [← hp]; exact h
  have hrl0 := hr.length_le
  rw [hlm] at hrl0
  refine Ret.enter Tryz.func39 Tryz.ntmps39 rfl rfl ?_
  refine WC.seq ?_
  refine WC.region ?_
  refine WL.v (RV.assign rfl) rfl ?_
  refine WL.nil ?_
  refine QF.seqNext ?_
  refine WC.seq ?_
  refine WC.region ?_
  refine WL.v (RV.move rfl) rfl ?_
  refine WL.v (RV.nilPtr rfl) rfl ?_
  refine WL.v (RV.fieldAddr 1 Tryz.underlying53 rfl rfl (Tryz.sizeOf3 _) (by decide) rfl) rfl ?_
  refine WL.v (RV.load (by first | exact h0.q0 | exact h0.q1 | exact h0.q2 | exact h0.q3 | exact h0.q4 | exact h0.q5 | exact h0.q6 | exact h0.q7 | exact h0.q8 | exact h0.q9 | exact h0.q10 | exact h0.q11) (Tryz.isAgg3 _) rfl) rfl ?_
  refine WL.v (RV.assign rfl) rfl ?_
  refine WL.nil ?_
  refine QF.seqNext ?_
  refine WC.seq ?_
  refine WC.block ?_
  refine WC.loop (fun x : List UInt8 × World => [(0, .pointer (some ⟨rb, 0, none⟩)), (3, .int .i64 ((m : Int) - (r.length : Int)))]) (fun x : List UInt8 × World => x.2) (fun x : List UInt8 × World => x.1 <:+ s.l.take m ∧ x.1.dropWhile letterB = r.dropWhile letterB ∧ Rd6 O x.2 j rb {s with pos := (m : Int) - (x.1.length : Int)} ∧ Upd (fun k => k = j) O w O x.2) (fun x : List UInt8 × World => x.1.length) (r, w) (⟨hr, rfl, h0, Upd.refl hz _ _⟩) ⟨rfl, rfl, trivial⟩ rfl ?_
  rintro ⟨r1, w1⟩ ⟨hr1, hs1, hb1, hU1⟩
  dsimp only at hr1 hs1 hb1 hU1 ⊢
  have hb2 := hb1.drew
  have hrl := hr1.length_le
  rw [hlm] at hrl
  have hend : r1 = r.dropWhile letterB → (s.l.take (m - r1.length)).drop (m - r.length) = r.takeWhile letterB := fun e => by
    have := suf_mid (l := s.l.take m) (a := r.takeWhile letterB) (b := r.dropWhile letterB) (by rw [List.takeWhile_append_dropWhile]; exact hr)
    rw [List.takeWhile_append_dropWhile, ← e, hlm, List.take_take, Nat.min_eq_left (by omega)] at this
    exact this
  have hle : r1.length ≤ r.length ∨ r1 ≠ r.dropWhile letterB := by
    by_cases e : r1 = r.dropWhile letterB
    · left; rw [e]; exact (List.dropWhile_suffix _).length_le
    · right; exact e
  refine WC.seq ?_
  refine WC.seq ?_
  refine WC.still (by kernel_rfl) (by kernel_rfl) ?_
  refine WS.v (RV.move rfl) rfl ?_
  refine WS.v (RV.nilPtr rfl) rfl ?_
  refine WS.v (RV.fieldAddr 1 Tryz.underlying53 rfl rfl (Tryz.sizeOf3 _) (by decide) rfl) rfl ?_
  refine WS.v (RV.load (by first | exact hb2.q0 | exact hb2.q1 | exact hb2.q2 | exact hb2.q3 | exact hb2.q4 | exact hb2.q5 | exact hb2.q6 | exact hb2.q7 | exact hb2.q8 | exact hb2.q9 | exact hb2.q10 | exact hb2.q11) (Tryz.isAgg3 _) rfl) rfl ?_
  refine WS.v (RV.move rfl) rfl ?_
  refine WS.v (RV.nilPtr rfl) rfl ?_
  refine WS.v (RV.fieldAddr 2 Tryz.underlying53 rfl rfl (Tryz.sizeOf3 _) (by decide) rfl) rfl ?_
  refine WS.v (RV.load (by first | exact hb2.q0 | exact hb2.q1 | exact hb2.q2 | exact hb2.q3 | exact hb2.q4 | exact hb2.q5 | exact hb2.q6 | exact hb2.q7 | exact hb2.q8 | exact hb2.q9 | exact hb2.q10 | exact hb2.q11) (Tryz.isAgg3 _) rfl) rfl ?_
  refine WS.v (RV.lss rfl rfl) rfl ?_
  refine WS.v (RV.move rfl) rfl ?_
  cases r1 with
  | nil =>
    refine WS.know (d := 17) rfl (b' := false) (decide_eq_false (by simp [hto])) ?_
    have hb3 := hb2.drew
    have hd : [] = r.dropWhile letterB := by rw [← hs1]; rfl
    have h1 := hend hd
    refine WS.off rfl rfl rfl ?_
    refine WS.off rfl rfl rfl ?_
    refine WS.off rfl rfl rfl ?_
    refine WS.off rfl rfl rfl ?_
    refine WS.off rfl rfl rfl ?_
    refine WS.off rfl rfl rfl ?_
    refine WS.off rfl rfl rfl ?_
    refine WS.off rfl rfl rfl ?_
    refine WS.off rfl rfl rfl ?_
    refine WS.off rfl rfl rfl ?_
    refine WS.off rfl rfl rfl ?_
    refine WS.offU rfl rfl ?_
    refine WS.offU rfl rfl ?_
    refine WS.offU rfl rfl ?_
    refine WS.offU rfl rfl ?_
    refine WS.offU rfl rfl ?_
    refine WS.offU rfl rfl ?_
    refine WS.offU rfl rfl ?_
    refine WS.offU rfl rfl ?_
    refine WS.offU rfl rfl ?_
    refine WS.offU rfl rfl ?_
    refine WS.off rfl rfl rfl ?_
    refine WS.off rfl rfl rfl ?_
    refine WS.offU rfl rfl ?_
    refine WS.offU rfl rfl ?_
    refine WS.offU rfl rfl ?_
    refine WS.offU rfl rfl ?_
    refine WS.offU rfl rfl ?_
    refine WS.offU rfl rfl ?_
    refine WS.offU rfl rfl ?_
    refine WS.offU rfl rfl ?_
    refine WS.offU rfl rfl ?_
    refine WS.offU rfl rfl ?_
    refine WS.offU rfl rfl ?_
    refine WS.offU rfl rfl ?_
    refine WS.offU rfl rfl ?_
    refine WS.offU rfl rfl ?_
    refine WS.offU rfl rfl ?_
    refine WS.offU rfl rfl ?_
    refine WS.offU rfl rfl ?_
    refine WS.offU rfl rfl ?_
    refine WS.offU rfl rfl ?_
    refine WS.offU rfl rfl ?_
    refine WS.offU rfl rfl ?_
    refine WS.offU rfl rfl ?_
    refine WS.off rfl rfl rfl ?_
    refine WS.v (RV.pickF rfl rfl) rfl ?_
    refine WS.nil ?_
    refine QF.seqNext ?_
    refine WC.condF rfl rfl ?_
    refine WC.exit ?_
    refine QF.thenExit ?_
    refine QF.thenExit ?_
    refine QF.blockHit ?_
    refine QF.seqNext ?_
    refine WC.seq ?_
    refine WC.still (by kernel_rfl) (by kernel_rfl) ?_
    refine WS.v (RV.move rfl) rfl ?_
    refine WS.v (RV.nilPtr rfl) rfl ?_
    refine WS.v (RV.fieldAddr 0 Tryz.underlying53 rfl rfl (Tryz.sizeOf9 _) (by decide) rfl) rfl ?_
    refine WS.v (RV.load (by first | exact hb3.q0 | exact hb3.q1 | exact hb3.q2 | exact hb3.q3 | exact hb3.q4 | exact hb3.q5 | exact hb3.q6 | exact hb3.q7 | exact hb3.q8 | exact hb3.q9 | exact hb3.q10 | exact hb3.q11) (Tryz.isAgg9 _) rfl) rfl ?_
    refine WS.v (RV.move rfl) rfl ?_
    refine WS.v (RV.move rfl) rfl ?_
    refine WS.v (RV.nilPtr rfl) rfl ?_
    refine WS.v (RV.fieldAddr 1 Tryz.underlying53 rfl rfl (Tryz.sizeOf3 _) (by decide) rfl) rfl ?_
    refine WS.v (RV.load (by first | exact hb3.q0 | exact hb3.q1 | exact hb3.q2 | exact hb3.q3 | exact hb3.q4 | exact hb3.q5 | exact hb3.q6 | exact hb3.q7 | exact hb3.q8 | exact hb3.q9 | exact hb3.q10 | exact hb3.q11) (Tryz.isAgg3 _) rfl) rfl ?_
    refine WS.v (RV.sliceS Tryz.underlying9 rfl rfl rfl (m - r.length) (m - 0) (by omega) (by simp) (by omega) (by omega)) rfl ?_
    refine WS.v (RV.assign rfl) rfl ?_
    refine WS.nil ?_
    refine QF.seqNext ?_
    refine WC.ret ?_
    simp only [List.length_nil] at h1
    refine QF.done1 rfl rfl (⟨by rw [h1], by rw [← hd]; exact hb3, hU1.drew.drew⟩)
  | cons b r2 =>
    simp only [List.length_cons] at hrl hb2
    refine WS.know (d := 17) rfl (b' := true) (decide_eq_true (by simp only [List.length_cons, hto]; omega)) ?_
    have hget : s.l[m - (r2.length + 1)]? = some b := take_get (by have := suf_get hr1; rwa [hlm] at this)
    refine WS.on rfl ?_
    refine WS.v (RV.move rfl) rfl ?_
    refine WS.on rfl ?_
    refine WS.v (RV.nilPtr rfl) rfl ?_
    refine WS.on rfl ?_
    refine WS.v (RV.fieldAddr 0 Tryz.underlying53 rfl rfl (Tryz.sizeOf9 _) (by decide) rfl) rfl ?_
    refine WS.on rfl ?_
    refine WS.v (RV.load (by first | exact hb2.q0 | exact hb2.q1 | exact hb2.q2 | exact hb2.q3 | exact hb2.q4 | exact hb2.q5 | exact hb2.q6 | exact hb2.q7 | exact hb2.q8 | exact hb2.q9 | exact hb2.q10 | exact hb2.q11) (Tryz.isAgg9 _) rfl) rfl ?_
    refine WS.on rfl ?_
    refine WS.v (RV.move rfl) rfl ?_
    refine WS.on rfl ?_
    refine WS.v (RV.nilPtr rfl) rfl ?_
    refine WS.on rfl ?_
    refine WS.v (RV.fieldAddr 1 Tryz.underlying53 rfl rfl (Tryz.sizeOf3 _) (by decide) rfl) rfl ?_
    refine WS.on rfl ?_
    refine WS.v (RV.load (by first | exact hb2.q0 | exact hb2.q1 | exact hb2.q2 | exact hb2.q3 | exact hb2.q4 | exact hb2.q5 | exact hb2.q6 | exact hb2.q7 | exact hb2.q8 | exact hb2.q9 | exact hb2.q10 | exact hb2.q11) (Tryz.isAgg3 _) rfl) rfl ?_
    refine WS.on rfl ?_
    refine WS.v (RV.indexS1 (c := b) Tryz.underlying9 rfl rfl (m - (r2.length + 1)) (by dsimp only; omega) hget) rfl ?_
    refine WS.on rfl ?_
    refine WS.v (RV.geq rfl rfl) rfl ?_
    refine WS.on rfl ?_
    refine WS.v (RV.move rfl) rfl ?_
    by_cases k1 : 65 ≤ b.toNat
    · skip
      refine WS.know (d := 28) rfl (b' := true) (decide_eq_true (by omega)) ?_
      refine WS.on rfl ?_
      refine WS.v (RV.move rfl) rfl ?_
      refine WS.on rfl ?_
      refine WS.v (RV.nilPtr rfl) rfl ?_
      refine WS.on rfl ?_
      refine WS.v (RV.fieldAddr 0 Tryz.underlying53 rfl rfl (Tryz.sizeOf9 _) (by decide) rfl) rfl ?_
      refine WS.on rfl ?_
      refine WS.v (RV.load (by first | exact hb2.q0 | exact hb2.q1 | exact hb2.q2 | exact hb2.q3 | exact hb2.q4 | exact hb2.q5 | exact hb2.q6 | exact hb2.q7 | exact hb2.q8 | exact hb2.q9 | exact hb2.q10 | exact hb2.q11) (Tryz.isAgg9 _) rfl) rfl ?_
      refine WS.on rfl ?_
      refine WS.v (RV.move rfl) rfl ?_
      refine WS.on rfl ?_
      refine WS.v (RV.nilPtr rfl) rfl ?_
      refine WS.on rfl ?_
      refine WS.v (RV.fieldAddr 1 Tryz.underlying53 rfl rfl (Tryz.sizeOf3 _) (by decide) rfl) rfl ?_
      refine WS.on rfl ?_
      refine WS.v (RV.load (by first | exact hb2.q0 | exact hb2.q1 | exact hb2.q2 | exact hb2.q3 | exact hb2.q4 | exact hb2.q5 | exact hb2.q6 | exact hb2.q7 | exact hb2.q8 | exact hb2.q9 | exact hb2.q10 | exact hb2.q11) (Tryz.isAgg3 _) rfl) rfl ?_
      refine WS.on rfl ?_
      refine WS.v (RV.indexS1 (c := b) Tryz.underlying9 rfl rfl (m - (r2.length + 1)) (by dsimp only; omega) hget) rfl ?_
      refine WS.on rfl ?_
      refine WS.v (RV.leq rfl rfl) rfl ?_
      refine WS.on rfl ?_
      refine WS.v (RV.pickT rfl rfl) rfl ?_
      refine WS.on rfl ?_
      refine WS.v (RV.move rfl) rfl ?_
      by_cases k2 : b.toNat ≤ 90
      · skip
        refine WS.know (d := 40) rfl (b' := true) (decide_eq_true (by omega)) ?_
        have hbl : letterB b = true := by simp [letterB, k1, k2]
        refine WS.off rfl rfl rfl ?_
        refine WS.off rfl rfl rfl ?_
        refine WS.off rfl rfl rfl ?_
        refine WS.off rfl rfl rfl ?_
        refine WS.off rfl rfl rfl ?_
        refine WS.off rfl rfl rfl ?_
        refine WS.off rfl rfl rfl ?_
        refine WS.off rfl rfl rfl ?_
        refine WS.off rfl rfl rfl ?_
        refine WS.off rfl rfl rfl ?_
        refine WS.off rfl rfl rfl ?_
        refine WS.offU rfl rfl ?_
        refine WS.offU rfl rfl ?_
        refine WS.offU rfl rfl ?_
        refine WS.offU rfl rfl ?_
        refine WS.offU rfl rfl ?_
        refine WS.offU rfl rfl ?_
        refine WS.offU rfl rfl ?_
        refine WS.offU rfl rfl ?_
        refine WS.offU rfl rfl ?_
        refine WS.offU rfl rfl ?_
        refine WS.off rfl rfl rfl ?_
        refine WS.on rfl ?_
        refine WS.v (RV.pickT rfl rfl) rfl ?_
        refine WS.v (RV.pickT rfl rfl) rfl ?_
        refine WS.nil ?_
        refine QF.seqNext ?_
        refine WC.condT rfl rfl ?_
        refine WC.skip ?_
        refine QF.seqNext ?_
        refine WC.block ?_
        refine WC.region ?_
        refine WL.v (RV.move rfl) rfl ?_
        refine WL.v (RV.nilPtr rfl) rfl ?_
        refine WL.v (RV.fieldAddr 1 Tryz.underlying53 rfl rfl (Tryz.sizeOf3 _) (by decide) rfl) rfl ?_
        refine WL.v (RV.load (by first | exact hb2.q0 | exact hb2.q1 | exact hb2.q2 | exact hb2.q3 | exact hb2.q4 | exact hb2.q5 | exact hb2.q6 | exact hb2.q7 | exact hb2.q8 | exact hb2.q9 | exact hb2.q10 | exact hb2.q11) (Tryz.isAgg3 _) rfl) rfl ?_
        refine WL.v (RV.add rfl rfl (Fit.i64 (by dsimp only; omega))) rfl ?_
        refine WL.v (RV.nilPtr rfl) rfl ?_
        refine WL.v (RV.fieldAddr 1 Tryz.underlying53 rfl rfl (Tryz.sizeOf3 _) (by decide) rfl) rfl ?_
        refine WL.storeBlk (j := 1) hb2 rfl (Tryz.sizeOf3 _) rfl rfl rfl rfl ?_
        rw [show ((m : Int) - ((r2.length + 1 : Nat) : Int)) + 1 = (m : Int) - (r2.length : Int) from by omega]
        have hb3 := hb2.s_pos ((m : Int) - (r2.length : Int))
        have hU3 : Upd (fun k => k = j) O w1.drew O (w1.drew.setCell ⟨rb, 1, none⟩ (.int .i64 ((m : Int) - (r2.length : Int)))) := Upd.set hz hb2.tag rfl
        refine WL.nil ?_
        refine QF.blockNormal ?_
        refine QF.next ((r2, w1.drew.setCell ⟨rb, 1, none⟩ (.int .i64 ((m : Int) - (r2.length : Int))))) (⟨(List.suffix_cons _ _).trans hr1, by rw [← hs1, List.dropWhile_cons_of_pos hbl], hb3, hU1.drew.trans hU3⟩) (by dsimp only; simp) ⟨rfl, rfl, trivial⟩ rfl
      · skip
        refine WS.know (d := 40) rfl (b' := false) (decide_eq_false (by omega)) ?_
        refine WS.on rfl ?_
        refine WS.v (RV.move rfl) rfl ?_
        refine WS.on rfl ?_
        refine WS.v (RV.nilPtr rfl) rfl ?_
        refine WS.on rfl ?_
        refine WS.v (RV.fieldAddr 0 Tryz.underlying53 rfl rfl (Tryz.sizeOf9 _) (by decide) rfl) rfl ?_
        refine WS.on rfl ?_
        refine WS.v (RV.load (by first | exact hb2.q0 | exact hb2.q1 | exact hb2.q2 | exact hb2.q3 | exact hb2.q4 | exact hb2.q5 | exact hb2.q6 | exact hb2.q7 | exact hb2.q8 | exact hb2.q9 | exact hb2.q10 | exact hb2.q11) (Tryz.isAgg9 _) rfl) rfl ?_
        refine WS.on rfl ?_
        refine WS.v (RV.move rfl) rfl ?_
        refine WS.on rfl ?_
        refine WS.v (RV.nilPtr rfl) rfl ?_
        refine WS.on rfl ?_
        refine WS.v (RV.fieldAddr 1 Tryz.underlying53 rfl rfl (Tryz.sizeOf3 _) (by decide) rfl) rfl ?_
        refine WS.on rfl ?_
        refine WS.v (RV.load (by first | exact hb2.q0 | exact hb2.q1 | exact hb2.q2 | exact hb2.q3 | exact hb2.q4 | exact hb2.q5 | exact hb2.q6 | exact hb2.q7 | exact hb2.q8 | exact hb2.q9 | exact hb2.q10 | exact hb2.q11) (Tryz.isAgg3 _) rfl) rfl ?_
        refine WS.on rfl ?_
        refine WS.v (RV.indexS1 (c := b) Tryz.underlying9 rfl rfl (m - (r2.length + 1)) (by dsimp only; omega) hget) rfl ?_
        refine WS.on rfl ?_
        refine WS.v (RV.geq rfl rfl) rfl ?_
        refine WS.on rfl ?_
        refine WS.v (RV.move rfl) rfl ?_
        by_cases k3 : 97 ≤ b.toNat
        · skip
          refine WS.know (d := 51) rfl (b' := true) (decide_eq_true (by omega)) ?_
          refine WS.on rfl ?_
          refine WS.v (RV.move rfl) rfl ?_
          refine WS.on rfl ?_
          refine WS.v (RV.nilPtr rfl) rfl ?_
          refine WS.on rfl ?_
          refine WS.v (RV.fieldAddr 0 Tryz.underlying53 rfl rfl (Tryz.sizeOf9 _) (by decide) rfl) rfl ?_
          refine WS.on rfl ?_
          refine WS.v (RV.load (by first | exact hb2.q0 | exact hb2.q1 | exact hb2.q2 | exact hb2.q3 | exact hb2.q4 | exact hb2.q5 | exact hb2.q6 | exact hb2.q7 | exact hb2.q8 | exact hb2.q9 | exact hb2.q10 | exact hb2.q11) (Tryz.isAgg9 _) rfl) rfl ?_
          refine WS.on rfl ?_
          refine WS.v (RV.move rfl) rfl ?_
          refine WS.on rfl ?_
          refine WS.v (RV.nilPtr rfl) rfl ?_
          refine WS.on rfl ?_
          refine WS.v (RV.fieldAddr 1 Tryz.underlying53 rfl rfl (Tryz.sizeOf3 _) (by decide) rfl) rfl ?_
          refine WS.on rfl ?_
          refine WS.v (RV.load (by first | exact hb2.q0 | exact hb2.q1 | exact hb2.q2 | exact hb2.q3 | exact hb2.q4 | exact hb2.q5 | exact hb2.q6 | exact hb2.q7 | exact hb2.q8 | exact hb2.q9 | exact hb2.q10 | exact hb2.q11) (Tryz.isAgg3 _) rfl) rfl ?_
          refine WS.on rfl ?_
          refine WS.v (RV.indexS1 (c := b) Tryz.underlying9 rfl rfl (m - (r2.length + 1)) (by dsimp only; omega) hget) rfl ?_
          refine WS.on rfl ?_
          refine WS.v (RV.leq rfl rfl) rfl ?_
          refine WS.on rfl ?_
          refine WS.v (RV.pickT rfl rfl) rfl ?_
          refine WS.on rfl ?_
          refine WS.v (RV.pickF rfl rfl) rfl ?_
          refine WS.v (RV.pickT rfl rfl) rfl ?_
          refine WS.nil ?_
          refine QF.seqNext ?_
          by_cases k4 : b.toNat ≤ 122
          · skip
            refine WC.condT rfl (decide_eq_true (by omega)) ?_
            have hbl : letterB b = true := by simp [letterB, k3, k4]
            refine WC.skip ?_
            refine QF.seqNext ?_
            refine WC.block ?_
            refine WC.region ?_
            refine WL.v (RV.move rfl) rfl ?_
            refine WL.v (RV.nilPtr rfl) rfl ?_
            refine WL.v (RV.fieldAddr 1 Tryz.underlying53 rfl rfl (Tryz.sizeOf3 _) (by decide) rfl) rfl ?_
            refine WL.v (RV.load (by first | exact hb2.q0 | exact hb2.q1 | exact hb2.q2 | exact hb2.q3 | exact hb2.q4 | exact hb2.q5 | exact hb2.q6 | exact hb2.q7 | exact hb2.q8 | exact hb2.q9 | exact hb2.q10 | exact hb2.q11) (Tryz.isAgg3 _) rfl) rfl ?_
            refine WL.v (RV.add rfl rfl (Fit.i64 (by dsimp only; omega))) rfl ?_
            refine WL.v (RV.nilPtr rfl) rfl ?_
            refine WL.v (RV.fieldAddr 1 Tryz.underlying53 rfl rfl (Tryz.sizeOf3 _) (by decide) rfl) rfl ?_
            refine WL.storeBlk (j := 1) hb2 rfl (Tryz.sizeOf3 _) rfl rfl rfl rfl ?_
            rw [show ((m : Int) - ((r2.length + 1 : Nat) : Int)) + 1 = (m : Int) - (r2.length : Int) from by omega]
            have hb3 := hb2.s_pos ((m : Int) - (r2.length : Int))
            have hU3 : Upd (fun k => k = j) O w1.drew O (w1.drew.setCell ⟨rb, 1, none⟩ (.int .i64 ((m : Int) - (r2.length : Int)))) := Upd.set hz hb2.tag rfl
            refine WL.nil ?_
            refine QF.blockNormal ?_
            refine QF.next ((r2, w1.drew.setCell ⟨rb, 1, none⟩ (.int .i64 ((m : Int) - (r2.length : Int))))) (⟨(List.suffix_cons _ _).trans hr1, by rw [← hs1, List.dropWhile_cons_of_pos hbl], hb3, hU1.drew.trans hU3⟩) (by dsimp only; simp) ⟨rfl, rfl, trivial⟩ rfl
          · skip
            refine WC.condF rfl (decide_eq_false (by omega)) ?_
            have hbl : letterB b = false := by simp [letterB, k2, k4]
            have hsk : (b :: r2).dropWhile letterB = b :: r2 := List.dropWhile_cons_of_neg (by rw [hbl]; decide)
            have hd : b :: r2 = r.dropWhile letterB := by rw [← hs1, hsk]
            have h1 := hend hd
            have h2 := hle.resolve_right (fun e => e hd)
            simp only [List.length_cons] at h1 h2
            have hb3 := hb2.drew
            refine WC.exit ?_
            refine QF.thenExit ?_
            refine QF.thenExit ?_
            refine QF.blockHit ?_
            refine QF.seqNext ?_
            refine WC.seq ?_
            refine WC.still (by kernel_rfl) (by kernel_rfl) ?_
            refine WS.v (RV.move rfl) rfl ?_
            refine WS.v (RV.nilPtr rfl) rfl ?_
            refine WS.v (RV.fieldAddr 0 Tryz.underlying53 rfl rfl (Tryz.sizeOf9 _) (by decide) rfl) rfl ?_
            refine WS.v (RV.load (by first | exact hb3.q0 | exact hb3.q1 | exact hb3.q2 | exact hb3.q3 | exact hb3.q4 | exact hb3.q5 | exact hb3.q6 | exact hb3.q7 | exact hb3.q8 | exact hb3.q9 | exact hb3.q10 | exact hb3.q11) (Tryz.isAgg9 _) rfl) rfl ?_
            refine WS.v (RV.move rfl) rfl ?_
            refine WS.v (RV.move rfl) rfl ?_
            refine WS.v (RV.nilPtr rfl) rfl ?_
            refine WS.v (RV.fieldAddr 1 Tryz.underlying53 rfl rfl (Tryz.sizeOf3 _) (by decide) rfl) rfl ?_
            refine WS.v (RV.load (by first | exact hb3.q0 | exact hb3.q1 | exact hb3.q2 | exact hb3.q3 | exact hb3.q4 | exact hb3.q5 | exact hb3.q6 | exact hb3.q7 | exact hb3.q8 | exact hb3.q9 | exact hb3.q10 | exact hb3.q11) (Tryz.isAgg3 _) rfl) rfl ?_
            refine WS.v (RV.sliceS Tryz.underlying9 rfl rfl rfl (m - r.length) (m - (r2.length + 1)) (by omega) (by dsimp only; omega) (by omega) (by dsimp only; omega)) rfl ?_
            refine WS.v (RV.assign rfl) rfl ?_
            refine WS.nil ?_
            refine QF.seqNext ?_
            refine WC.ret ?_
            refine QF.done1 rfl rfl (⟨by rw [h1], by rw [← hd]; exact hb3, hU1.drew.drew⟩)
        · skip
          refine WS.know (d := 51) rfl (b' := false) (decide_eq_false (by omega)) ?_
          have hbl : letterB b = false := by simp [letterB, k2, k3]
          have hsk : (b :: r2).dropWhile letterB = b :: r2 := List.dropWhile_cons_of_neg (by rw [hbl]; decide)
          have hd : b :: r2 = r.dropWhile letterB := by rw [← hs1, hsk]
          have h1 := hend hd
          have h2 := hle.resolve_right (fun e => e hd)
          simp only [List.length_cons] at h1 h2
          have hb3 := hb2.drew
          refine WS.off rfl rfl rfl ?_
          refine WS.off rfl rfl rfl ?_
          refine WS.off rfl rfl rfl ?_
          refine WS.off rfl rfl rfl ?_
          refine WS.off rfl rfl rfl ?_
          refine WS.off rfl rfl rfl ?_
          refine WS.off rfl rfl rfl ?_
          refine WS.off rfl rfl rfl ?_
          refine WS.off rfl rfl rfl ?_
          refine WS.off rfl rfl rfl ?_
          refine WS.on rfl ?_
          refine WS.v (RV.pickF rfl rfl) rfl ?_
          refine WS.on rfl ?_
          refine WS.v (RV.pickF rfl rfl) rfl ?_
          refine WS.v (RV.pickT rfl rfl) rfl ?_
          refine WS.nil ?_
          refine QF.seqNext ?_
          refine WC.condF rfl rfl ?_
          refine WC.exit ?_
          refine QF.thenExit ?_
          refine QF.thenExit ?_
          refine QF.blockHit ?_
          refine QF.seqNext ?_
          refine WC.seq ?_
          refine WC.still (by kernel_rfl) (by kernel_rfl) ?_
          refine WS.v (RV.move rfl) rfl ?_
          refine WS.v (RV.nilPtr rfl) rfl ?_
          refine WS.v (RV.fieldAddr 0 Tryz.underlying53 rfl rfl (Tryz.sizeOf9 _) (by decide) rfl) rfl ?_
          refine WS.v (RV.load (by first | exact hb3.q0 | exact hb3.q1 | exact hb3.q2 | exact hb3.q3 | exact hb3.q4 | exact hb3.q5 | exact hb3.q6 | exact hb3.q7 | exact hb3.q8 | exact hb3.q9 | exact hb3.q10 | exact hb3.q11) (Tryz.isAgg9 _) rfl) rfl ?_
          refine WS.v (RV.move rfl) rfl ?_
          refine WS.v (RV.move rfl) rfl ?_
          refine WS.v (RV.nilPtr rfl) rfl ?_
          refine WS.v (RV.fieldAddr 1 Tryz.underlying53 rfl rfl (Tryz.sizeOf3 _) (by decide) rfl) rfl ?_
          refine WS.v (RV.load (by first | exact hb3.q0 | exact hb3.q1 | exact hb3.q2 | exact hb3.q3 | exact hb3.q4 | exact hb3.q5 | exact hb3.q6 | exact hb3.q7 | exact hb3.q8 | exact hb3.q9 | exact hb3.q10 | exact hb3.q11) (Tryz.isAgg3 _) rfl) rfl ?_
          refine WS.v (RV.sliceS Tryz.underlying9 rfl rfl rfl (m - r.length) (m - (r2.length + 1)) (by omega) (by dsimp only; omega) (by omega) (by dsimp only; omega)) rfl ?_
          refine WS.v (RV.assign rfl) rfl ?_
          refine WS.nil ?_
          refine QF.seqNext ?_
          refine WC.ret ?_
          refine QF.done1 rfl rfl (⟨by rw [h1], by rw [← hd]; exact hb3, hU1.drew.drew⟩)
    · skip
      have k3 : ¬ 97 ≤ b.toNat := by omega
      refine WS.know (d := 28) rfl (b' := false) (decide_eq_false (by omega)) ?_
      refine WS.off rfl rfl rfl ?_
      refine WS.off rfl rfl rfl ?_
      refine WS.off rfl rfl rfl ?_
      refine WS.off rfl rfl rfl ?_
      refine WS.off rfl rfl rfl ?_
      refine WS.off rfl rfl rfl ?_
      refine WS.off rfl rfl rfl ?_
      refine WS.off rfl rfl rfl ?_
      refine WS.off rfl rfl rfl ?_
      refine WS.off rfl rfl rfl ?_
      refine WS.on rfl ?_
      refine WS.v (RV.pickF rfl rfl) rfl ?_
      refine WS.on rfl ?_
      refine WS.v (RV.move rfl) rfl ?_
      refine WS.on rfl ?_
      refine WS.v (RV.move rfl) rfl ?_
      refine WS.on rfl ?_
      refine WS.v (RV.nilPtr rfl) rfl ?_
      refine WS.on rfl ?_
      refine WS.v (RV.fieldAddr 0 Tryz.underlying53 rfl rfl (Tryz.sizeOf9 _) (by decide) rfl) rfl ?_
      refine WS.on rfl ?_
      refine WS.v (RV.load (by first | exact hb2.q0 | exact hb2.q1 | exact hb2.q2 | exact hb2.q3 | exact hb2.q4 | exact hb2.q5 | exact hb2.q6 | exact hb2.q7 | exact hb2.q8 | exact hb2.q9 | exact hb2.q10 | exact hb2.q11) (Tryz.isAgg9 _) rfl) rfl ?_
      refine WS.on rfl ?_
      refine WS.v (RV.move rfl) rfl ?_
      refine WS.on rfl ?_
      refine WS.v (RV.nilPtr rfl) rfl ?_
      refine WS.on rfl ?_
      refine WS.v (RV.fieldAddr 1 Tryz.underlying53 rfl rfl (Tryz.sizeOf3 _) (by decide) rfl) rfl ?_
      refine WS.on rfl ?_
      refine WS.v (RV.load (by first | exact hb2.q0 | exact hb2.q1 | exact hb2.q2 | exact hb2.q3 | exact hb2.q4 | exact hb2.q5 | exact hb2.q6 | exact hb2.q7 | exact hb2.q8 | exact hb2.q9 | exact hb2.q10 | exact hb2.q11) (Tryz.isAgg3 _) rfl) rfl ?_
      refine WS.on rfl ?_
      refine WS.v (RV.indexS1 (c := b) Tryz.underlying9 rfl rfl (m - (r2.length + 1)) (by dsimp only; omega) hget) rfl ?_
      refine WS.on rfl ?_
      refine WS.v (RV.geq rfl rfl) rfl ?_
      refine WS.on rfl ?_
      refine WS.v (RV.move rfl) rfl ?_
      refine WS.know (d := 51) rfl (b' := false) (decide_eq_false (by omega)) ?_
      have hbl : letterB b = false := by simp [letterB, k1, k3]
      have hsk : (b :: r2).dropWhile letterB = b :: r2 := List.dropWhile_cons_of_neg (by rw [hbl]; decide)
      have hd : b :: r2 = r.dropWhile letterB := by rw [← hs1, hsk]
      have h1 := hend hd
      have h2 := hle.resolve_right (fun e => e hd)
      simp only [List.length_cons] at h1 h2
      have hb3 := hb2.drew
      refine WS.off rfl rfl rfl ?_
      refine WS.off rfl rfl rfl ?_
      refine WS.off rfl rfl rfl ?_
      refine WS.off rfl rfl rfl ?_
      refine WS.off rfl rfl rfl ?_
      refine WS.off rfl rfl rfl ?_
      refine WS.off rfl rfl rfl ?_
      refine WS.off rfl rfl rfl ?_
      refine WS.off rfl rfl rfl ?_
      refine WS.off rfl rfl rfl ?_
      refine WS.on rfl ?_
      refine WS.v (RV.pickF rfl rfl) rfl ?_
      refine WS.on rfl ?_
      refine WS.v (RV.pickF rfl rfl) rfl ?_
      refine WS.v (RV.pickT rfl rfl) rfl ?_
      refine WS.nil ?_
      refine QF.seqNext ?_
      refine WC.condF rfl rfl ?_
      refine WC.exit ?_
      refine QF.thenExit ?_
      refine QF.thenExit ?_
      refine QF.blockHit ?_
      refine QF.seqNext ?_
      refine WC.seq ?_
      refine WC.still (by kernel_rfl) (by kernel_rfl) ?_
      refine WS.v (RV.move rfl) rfl ?_
      refine WS.v (RV.nilPtr rfl) rfl ?_
      refine WS.v (RV.fieldAddr 0 Tryz.underlying53 rfl rfl (Tryz.sizeOf9 _) (by decide) rfl) rfl ?_
      refine WS.v (RV.load (by first | exact hb3.q0 | exact hb3.q1 | exact hb3.q2 | exact hb3.q3 | exact hb3.q4 | exact hb3.q5 | exact hb3.q6 | exact hb3.q7 | exact hb3.q8 | exact hb3.q9 | exact hb3.q10 | exact hb3.q11) (Tryz.isAgg9 _) rfl) rfl ?_
      refine WS.v (RV.move rfl) rfl ?_
      refine WS.v (RV.move rfl) rfl ?_
      refine WS.v (RV.nilPtr rfl) rfl ?_
      refine WS.v (RV.fieldAddr 1 Tryz.underlying53 rfl rfl (Tryz.sizeOf3 _) (by decide) rfl) rfl ?_
      refine WS.v (RV.load (by first | exact hb3.q0 | exact hb3.q1 | exact hb3.q2 | exact hb3.q3 | exact hb3.q4 | exact hb3.q5 | exact hb3.q6 | exact hb3.q7 | exact hb3.q8 | exact hb3.q9 | exact hb3.q10 | exact hb3.q11) (Tryz.isAgg3 _) rfl) rfl ?_
      refine WS.v (RV.sliceS Tryz.underlying9 rfl rfl rfl (m - r.length) (m - (r2.length + 1)) (by omega) (by dsimp only; omega) (by omega) (by dsimp only; omega)) rfl ?_
      refine WS.v (RV.assign rfl) rfl ?_
      refine WS.nil ?_
      refine QF.seqNext ?_
      refine WC.ret ?_
      refine QF.done1 rfl rfl (⟨by rw [h1], by rw [← hd]; exact hb3, hU1.drew.drew⟩)
end Go.Proofs.YtmohcfjopaccdaaGreatDoor
