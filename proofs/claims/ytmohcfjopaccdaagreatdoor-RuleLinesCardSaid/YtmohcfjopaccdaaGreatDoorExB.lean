/- Package expr, walked: where a reader stands. -/
import Derived.Test.YtmohcfjopaccdaaGreatDoorChecked
import Derived.Test.YtmohcfjopaccdaaGreatDoorVb
import Derived.Test.YtmohcfjopaccdaaGreatDoorExA
namespace Go.VL
theorem Upd.priv {j T : Nat} {O O' : Nat → Nat} {w w' : World} (h : Upd (fun k => k = j ∨ T ≤ k) O w O' w') (hT : ∀ b, O b < T) (hj : j ≠ 0) : Upd (fun k => k = j) O w O w' :=
  h.fgt (fun b hb => hb.resolve_right (by have := hT b; omega)) (fun e => hj e.symm)
/-- Steps of the caller's owner, and of a call's own. -/
theorem Upd.pj {j T : Nat} {O O' : Nat → Nat} {w w' : World} (h : Upd (fun k => k = j) O w O' w') (hT : 0 < T) : Upd (fun k => k = j ∨ T ≤ k) O w O' w' :=
  h.mono (fun _ h => .inl h) (fun e => by rcases e with e | e; exact h.z e; omega)
theorem Upd.pT {j T U : Nat} {O O' : Nat → Nat} {w w' : World} (h : Upd (fun k => k = U) O w O' w') (hj : j ≠ 0) (hT : 0 < T) (hU : T ≤ U) : Upd (fun k => k = j ∨ T ≤ k) O w O' w' :=
  h.mono (fun _ h => .inr (by rw [h]; exact hU)) (fun e => by rcases e with e | e; exact hj e.symm; omega)
theorem Upd.pE {j T : Nat} {w w' : World} (O : Nat → Nat) (h : Ext w w') (hj : j ≠ 0) (hT : 0 < T) : Upd (fun k => k = j ∨ T ≤ k) O w O w' :=
  Upd.of_ext (fun e => by rcases e with e | e; exact hj e.symm; omega) O h
def rdr (kv : Value) (l : List UInt8) (a op bad e : Int) : Array Value := #[.string (bs l), .int .i64 a, kv, .int .i64 op, .int .i64 bad, .int .i64 e]
variable {kv : Value}
theorem BlkO.rAt {O : Nat → Nat} {w : World} {j rb : Nat} {l : List UInt8} {a op bad e : Int} {E : TypeId} (h : BlkO O w j rb (rdr kv l a op bad e) E) (a' : Int) : BlkO O (w.setCell ⟨rb, 1, none⟩ (.int .i64 a')) j rb (rdr kv l a' op bad e) E := h.set 1 _
theorem BlkO.rOp {O : Nat → Nat} {w : World} {j rb : Nat} {l : List UInt8} {a op bad e : Int} {E : TypeId} (h : BlkO O w j rb (rdr kv l a op bad e) E) (a' : Int) : BlkO O (w.setCell ⟨rb, 3, none⟩ (.int .i64 a')) j rb (rdr kv l a a' bad e) E := h.set 3 _
theorem BlkO.rBad {O : Nat → Nat} {w : World} {j rb : Nat} {l : List UInt8} {a op bad e : Int} {E : TypeId} (h : BlkO O w j rb (rdr kv l a op bad e) E) (a' : Int) : BlkO O (w.setCell ⟨rb, 4, none⟩ (.int .i64 a')) j rb (rdr kv l a op a' e) E := h.set 4 _
theorem BlkO.rE {O : Nat → Nat} {w : World} {j rb : Nat} {l : List UInt8} {a op bad e : Int} {E : TypeId} (h : BlkO O w j rb (rdr kv l a op bad e) E) (a' : Int) : BlkO O (w.setCell ⟨rb, 5, none⟩ (.int .i64 a')) j rb (rdr kv l a op bad a') E := h.set 5 _
theorem BlkO.r0 {O : Nat → Nat} {w : World} {j rb : Nat} {l : List UInt8} {a op bad e : Int} {E : TypeId} (h : BlkO O w j rb (rdr kv l a op bad e) E) : w.cell? ⟨rb, 0, none⟩ = some (.string (bs l)) := h.cell 0 rfl
theorem BlkO.r1 {O : Nat → Nat} {w : World} {j rb : Nat} {l : List UInt8} {a op bad e : Int} {E : TypeId} (h : BlkO O w j rb (rdr kv l a op bad e) E) : w.cell? ⟨rb, 1, none⟩ = some (.int .i64 a) := h.cell 1 rfl
theorem BlkO.r2 {O : Nat → Nat} {w : World} {j rb : Nat} {l : List UInt8} {a op bad e : Int} {E : TypeId} (h : BlkO O w j rb (rdr kv l a op bad e) E) : w.cell? ⟨rb, 2, none⟩ = some kv := h.cell 2 rfl
theorem BlkO.r3 {O : Nat → Nat} {w : World} {j rb : Nat} {l : List UInt8} {a op bad e : Int} {E : TypeId} (h : BlkO O w j rb (rdr kv l a op bad e) E) : w.cell? ⟨rb, 3, none⟩ = some (.int .i64 op) := h.cell 3 rfl
theorem BlkO.r4 {O : Nat → Nat} {w : World} {j rb : Nat} {l : List UInt8} {a op bad e : Int} {E : TypeId} (h : BlkO O w j rb (rdr kv l a op bad e) E) : w.cell? ⟨rb, 4, none⟩ = some (.int .i64 bad) := h.cell 4 rfl
theorem BlkO.r5 {O : Nat → Nat} {w : World} {j rb : Nat} {l : List UInt8} {a op bad e : Int} {E : TypeId} (h : BlkO O w j rb (rdr kv l a op bad e) E) : w.cell? ⟨rb, 5, none⟩ = some (.int .i64 e) := h.cell 5 rfl
end Go.VL
namespace Go.Proofs.YtmohcfjopaccdaaGreatDoor
open Go.VL Go.Proofs
set_option maxRecDepth 10000

/-- A reader in its block. -/
abbrev Rdr (kv : Value) (O : Nat → Nat) (w : World) (j rb : Nat) (l : List UInt8) (a op bad e : Int) : Prop := BlkO O w j rb (rdr kv l a op bad e) 125
variable {kv : Value}
theorem suf_get {l r : List UInt8} {b : UInt8} (h : (b :: r) <:+ l) : l[l.length - (r.length + 1)]? = some b := by
  obtain ⟨p, rfl⟩ := h
  rw [List.getElem?_append_right (by simp)]; simp
theorem suf_mid {l a b : List UInt8} (h : (a ++ b) <:+ l) : (l.take (l.length - b.length)).drop (l.length - (a ++ b).length) = a := by
  obtain ⟨p, rfl⟩ := h
  rw [← List.append_assoc, List.take_left' (by simp; omega), List.drop_left' (by simp)]
theorem byteEq (b : UInt8) (k : Nat) (hk : k < 256) : ((b.toNat : Int) == (k : Int)) = decide (b = UInt8.ofNat k) := by
  by_cases h : b = UInt8.ofNat k
  · subst h; simp; omega
  · have : b.toNat ≠ k := fun e => h (by rw [← e]; simp)
    simp [h]; omega
theorem letter_ret (c : UInt8) (w : World) : Ret Tryz.prog 137 [.int .u8 (c.toNat : Int)] w fun v w' => v = .bool (letterB c) ∧ w' = w := by
  refine Ret.enter Tryz.func137 Tryz.ntmps137 rfl rfl ?_
  refine WC.seq ?_
  refine WC.region ?_
  refine WL.v (RV.assign rfl) rfl ?_
  refine WL.nil ?_
  refine QF.seqNext ?_
  refine WC.seq ?_
  refine WC.region ?_
  refine WL.v (RV.move rfl) rfl ?_
  refine WL.v (RV.geq rfl rfl) rfl ?_
  refine WL.v (RV.move rfl) rfl ?_
  by_cases h1 : 65 ≤ c.toNat
  · skip
    refine WL.know (d := 5) rfl (b' := true) (decide_eq_true (by omega)) ?_
    refine WL.on rfl ?_
    refine WL.v (RV.move rfl) rfl ?_
    refine WL.on rfl ?_
    refine WL.v (RV.leq rfl rfl) rfl ?_
    refine WL.v (RV.pickT rfl rfl) rfl ?_
    refine WL.v (RV.move rfl) rfl ?_
    by_cases h2 : c.toNat ≤ 90
    · skip
      refine WL.know (d := 9) rfl (b' := true) (decide_eq_true (by omega)) ?_
      refine WL.off rfl rfl rfl ?_
      refine WL.off rfl rfl rfl ?_
      refine WL.off rfl rfl rfl ?_
      refine WL.offU rfl rfl ?_
      refine WL.offU rfl rfl ?_
      refine WL.off rfl rfl rfl ?_
      refine WL.v (RV.pickT rfl rfl) rfl ?_
      refine WL.v (RV.assign rfl) rfl ?_
      refine WL.nil ?_
      refine QF.seqNext ?_
      refine WC.ret ?_
      refine QF.done1 rfl rfl (⟨by simp [letterB, h1, h2], rfl⟩)
    · skip
      refine WL.know (d := 9) rfl (b' := false) (decide_eq_false (by omega)) ?_
      refine WL.on rfl ?_
      refine WL.v (RV.move rfl) rfl ?_
      refine WL.on rfl ?_
      refine WL.v (RV.geq rfl rfl) rfl ?_
      refine WL.on rfl ?_
      refine WL.v (RV.move rfl) rfl ?_
      by_cases h3 : 97 ≤ c.toNat
      · skip
        refine WL.know (d := 12) rfl (b' := true) (decide_eq_true (by omega)) ?_
        refine WL.on rfl ?_
        refine WL.v (RV.move rfl) rfl ?_
        refine WL.on rfl ?_
        refine WL.v (RV.leq rfl rfl) rfl ?_
        refine WL.on rfl ?_
        refine WL.v (RV.pickT rfl rfl) rfl ?_
        refine WL.v (RV.pickF rfl rfl) rfl ?_
        refine WL.v (RV.assign rfl) rfl ?_
        refine WL.nil ?_
        refine QF.seqNext ?_
        refine WC.ret ?_
        have e : decide ((c.toNat : Int) ≤ 122) = decide (c.toNat ≤ 122) := decide_eq_decide.2 (by omega)
        refine QF.done1 rfl rfl (⟨by rw [e]; simp [letterB, h1, h2, h3], rfl⟩)
      · skip
        refine WL.know (d := 12) rfl (b' := false) (decide_eq_false (by omega)) ?_
        refine WL.off rfl rfl rfl ?_
        refine WL.off rfl rfl rfl ?_
        refine WL.on rfl ?_
        refine WL.v (RV.pickF rfl rfl) rfl ?_
        refine WL.v (RV.pickF rfl rfl) rfl ?_
        refine WL.v (RV.assign rfl) rfl ?_
        refine WL.nil ?_
        refine QF.seqNext ?_
        refine WC.ret ?_
        refine QF.done1 rfl rfl (⟨by simp [letterB, h1, h2, h3], rfl⟩)
  · skip
    refine WL.know (d := 5) rfl (b' := false) (decide_eq_false (by omega)) ?_
    refine WL.off rfl rfl rfl ?_
    refine WL.off rfl rfl rfl ?_
    refine WL.v (RV.pickF rfl rfl) rfl ?_
    refine WL.v (RV.move rfl) rfl ?_
    refine WL.on rfl ?_
    refine WL.v (RV.move rfl) rfl ?_
    refine WL.on rfl ?_
    refine WL.v (RV.geq rfl rfl) rfl ?_
    refine WL.on rfl ?_
    refine WL.v (RV.move rfl) rfl ?_
    refine WL.know (d := 12) rfl (b' := false) (decide_eq_false (by omega)) ?_
    refine WL.off rfl rfl rfl ?_
    refine WL.off rfl rfl rfl ?_
    refine WL.on rfl ?_
    refine WL.v (RV.pickF rfl rfl) rfl ?_
    refine WL.v (RV.pickF rfl rfl) rfl ?_
    refine WL.v (RV.assign rfl) rfl ?_
    refine WL.nil ?_
    refine QF.seqNext ?_
    refine WC.ret ?_
    have h3 : ¬ 97 ≤ c.toNat := by omega
    refine QF.done1 rfl rfl (⟨by simp [letterB, h1, h3], rfl⟩)
theorem blanks_ret (O : Nat → Nat) (w : World) (j rb : Nat) (l r : List UInt8) (op bad e : Int) (hj : j ≠ 0) (hr : r <:+ l) (hl : l.length ≤ 100000) (h : Rdr kv O w j rb l ((l.length : Int) - (r.length : Int)) op bad e) :
    Ret Tryz.prog 103 [.pointer (some ⟨rb, 0, none⟩)] w fun _ w' => Rdr kv O w' j rb l ((l.length : Int) - ((skipB r).length : Int)) op bad e ∧ Upd (fun k => k = j) O w O w' := by
  have hz : ¬ (fun k : Nat => k = j) 0 := fun e => hj e.symm
  refine Ret.enter Tryz.func103 Tryz.ntmps103 rfl rfl ?_
  refine WC.block ?_
  refine WC.loop (fun x : List UInt8 × World => [(0, .pointer (some ⟨rb, 0, none⟩))]) (fun x : List UInt8 × World => x.2) (fun x : List UInt8 × World => x.1 <:+ l ∧ skipB x.1 = skipB r ∧ Rdr kv O x.2 j rb l ((l.length : Int) - (x.1.length : Int)) op bad e ∧ Upd (fun k => k = j) O w O x.2) (fun x : List UInt8 × World => x.1.length) (r, w) (⟨hr, rfl, h, Upd.refl hz _ _⟩) ⟨rfl, trivial⟩ rfl ?_
  rintro ⟨r1, w1⟩ ⟨hr1, hs1, hb1, hU1⟩
  dsimp only at hr1 hs1 hb1 hU1 ⊢
  have hb2 := hb1.drew
  have hrl := hr1.length_le
  refine WC.seq ?_
  refine WC.seq ?_
  refine WC.still (by kernel_rfl) (by kernel_rfl) ?_
  refine WS.v (RV.move rfl) rfl ?_
  refine WS.v (RV.nilPtr rfl) rfl ?_
  refine WS.v (RV.fieldAddr 1 Tryz.underlying123 rfl rfl (Tryz.sizeOf3 _) (by decide) rfl) rfl ?_
  refine WS.v (RV.load (by first | exact hb2.r0 | exact hb2.r1 | exact hb2.r2 | exact hb2.r3 | exact hb2.r4 | exact hb2.r5) (Tryz.isAgg3 _) rfl) rfl ?_
  refine WS.v (RV.move rfl) rfl ?_
  refine WS.v (RV.nilPtr rfl) rfl ?_
  refine WS.v (RV.fieldAddr 0 Tryz.underlying123 rfl rfl (Tryz.sizeOf9 _) (by decide) rfl) rfl ?_
  refine WS.v (RV.load (by first | exact hb2.r0 | exact hb2.r1 | exact hb2.r2 | exact hb2.r3 | exact hb2.r4 | exact hb2.r5) (Tryz.isAgg9 _) rfl) rfl ?_
  refine WS.v (RV.lenS Tryz.underlying9 rfl) rfl ?_
  refine WS.v (RV.lss rfl rfl) rfl ?_
  refine WS.v (RV.move rfl) rfl ?_
  cases r1 with
  | nil =>
    refine WS.know (d := 12) rfl (b' := false) (decide_eq_false (by simp)) ?_
    refine WS.off rfl rfl rfl ?_
    refine WS.off rfl rfl rfl ?_
    refine WS.off rfl rfl rfl ?_
    refine WS.off rfl rfl rfl ?_
    refine WS.off rfl rfl rfl ?_
    refine WS.off rfl rfl rfl ?_
    refine WS.off rfl rfl rfl ?_
    refine WS.off rfl rfl rfl ?_
    refine WS.off rfl rfl rfl ?_
    refine WS.off rfl rfl rfl ?_
    refine WS.v (RV.pickF rfl rfl) rfl ?_
    refine WS.nil ?_
    refine QF.seqNext ?_
    refine WC.condF rfl rfl ?_
    refine WC.exit ?_
    refine QF.thenExit ?_
    refine QF.thenExit ?_
    refine QF.blockHit ?_
    refine QF.end0 rfl (⟨by rw [← hs1]; exact hb2, hU1.drew⟩)
  | cons b r2 =>
    simp only [List.length_cons] at hrl hb2
    refine WS.know (d := 12) rfl (b' := true) (decide_eq_true (by simp only [List.length_cons]; omega)) ?_
    refine WS.on rfl ?_
    refine WS.v (RV.move rfl) rfl ?_
    refine WS.on rfl ?_
    refine WS.v (RV.nilPtr rfl) rfl ?_
    refine WS.on rfl ?_
    refine WS.v (RV.fieldAddr 0 Tryz.underlying123 rfl rfl (Tryz.sizeOf9 _) (by decide) rfl) rfl ?_
    refine WS.on rfl ?_
    refine WS.v (RV.load (by first | exact hb2.r0 | exact hb2.r1 | exact hb2.r2 | exact hb2.r3 | exact hb2.r4 | exact hb2.r5) (Tryz.isAgg9 _) rfl) rfl ?_
    refine WS.on rfl ?_
    refine WS.v (RV.move rfl) rfl ?_
    refine WS.on rfl ?_
    refine WS.v (RV.nilPtr rfl) rfl ?_
    refine WS.on rfl ?_
    refine WS.v (RV.fieldAddr 1 Tryz.underlying123 rfl rfl (Tryz.sizeOf3 _) (by decide) rfl) rfl ?_
    refine WS.on rfl ?_
    refine WS.v (RV.load (by first | exact hb2.r0 | exact hb2.r1 | exact hb2.r2 | exact hb2.r3 | exact hb2.r4 | exact hb2.r5) (Tryz.isAgg3 _) rfl) rfl ?_
    refine WS.on rfl ?_
    refine WS.v (RV.indexS1 (c := b) Tryz.underlying9 rfl rfl (l.length - (r2.length + 1)) (by omega) (suf_get hr1)) rfl ?_
    refine WS.on rfl ?_
    refine WS.v (RV.eql rfl rfl) rfl ?_
    refine WS.v (RV.pickT rfl rfl) rfl ?_
    refine WS.nil ?_
    refine QF.seqNext ?_
    refine WC.cond rfl ?_ ?_
    · intro hb
      replace hb : b = 32 := by rw [show (32 : Int) = ((32 : Nat) : Int) from rfl, byteEq b 32 (by decide)] at hb; simpa using hb
      subst hb
      refine WC.skip ?_
      refine QF.seqNext ?_
      refine WC.block ?_
      refine WC.region ?_
      refine WL.v (RV.move rfl) rfl ?_
      refine WL.v (RV.nilPtr rfl) rfl ?_
      refine WL.v (RV.fieldAddr 1 Tryz.underlying123 rfl rfl (Tryz.sizeOf3 _) (by decide) rfl) rfl ?_
      refine WL.v (RV.load (by first | exact hb2.r0 | exact hb2.r1 | exact hb2.r2 | exact hb2.r3 | exact hb2.r4 | exact hb2.r5) (Tryz.isAgg3 _) rfl) rfl ?_
      refine WL.v (RV.add rfl rfl (Fit.i64 (by omega))) rfl ?_
      refine WL.v (RV.nilPtr rfl) rfl ?_
      refine WL.v (RV.fieldAddr 1 Tryz.underlying123 rfl rfl (Tryz.sizeOf3 _) (by decide) rfl) rfl ?_
      refine WL.storeBlk (j := 1) hb2 rfl (Tryz.sizeOf3 _) rfl rfl rfl rfl ?_
      rw [show ((l.length : Int) - ((r2.length + 1 : Nat) : Int)) + 1 = (l.length : Int) - (r2.length : Int) from by omega]
      have hb3 := hb2.rAt ((l.length : Int) - (r2.length : Int))
      have hU3 : Upd (fun k => k = j) O w1.drew O (w1.drew.setCell ⟨rb, 1, none⟩ (.int .i64 ((l.length : Int) - (r2.length : Int)))) := Upd.set hz hb2.tag rfl
      refine WL.nil ?_
      refine QF.blockNormal ?_
      refine QF.next ((r2, w1.drew.setCell ⟨rb, 1, none⟩ (.int .i64 ((l.length : Int) - (r2.length : Int))))) (⟨(List.suffix_cons _ _).trans hr1, by rw [← hs1]; simp [skipB], hb3, hU1.drew.trans hU3⟩) (by dsimp only; simp) ⟨rfl, trivial⟩ rfl
    · intro hb
      replace hb : b ≠ 32 := by rw [show (32 : Int) = ((32 : Nat) : Int) from rfl, byteEq b 32 (by decide)] at hb; simpa using hb
      have hsk : skipB (b :: r2) = b :: r2 := by simp [skipB, hb]
      refine WC.exit ?_
      refine QF.thenExit ?_
      refine QF.thenExit ?_
      refine QF.blockHit ?_
      refine QF.end0 rfl (⟨by rw [← hs1, hsk]; exact hb2, hU1.drew⟩)
theorem head_get {l r : List UInt8} (hr : r <:+ l) (h : r ≠ []) : l[l.length - r.length]? = some (r.headD 0) := by
  cases r with
  | nil => exact absurd rfl h
  | cons b r => exact suf_get hr
theorem peek_ret (O : Nat → Nat) (w : World) (j rb : Nat) (l r : List UInt8) (op bad e : Int) (hj : j ≠ 0) (hr : r <:+ l) (hl : l.length ≤ 100000) (h : Rdr kv O w j rb l ((l.length : Int) - (r.length : Int)) op bad e) :
    Ret Tryz.prog 82 [.pointer (some ⟨rb, 0, none⟩)] w fun v w' => v = .int .u8 (((skipB r).headD 0).toNat : Int) ∧ Rdr kv O w' j rb l ((l.length : Int) - ((skipB r).length : Int)) op bad e ∧ Upd (fun k => k = j) O w O w' := by
  refine Ret.enter Tryz.func82 Tryz.ntmps82 rfl rfl ?_
  refine WC.seq ?_
  refine WC.region ?_
  refine WL.v (RV.assign rfl) rfl ?_
  refine WL.nil ?_
  refine QF.seqNext ?_
  refine WC.seq ?_
  refine WC.region ?_
  refine WL.v (RV.move rfl) rfl ?_
  refine WL.call Tryz.call103 rfl (blanks_ret O w j rb l r op bad e hj hr hl h) rfl ?_
  rintro v w1 ⟨hb1, hU1⟩
  have hs := (skipB_suf r).trans hr
  have hsl := hs.length_le
  generalize skipB r = q at *
  have hb2 := hb1.drew
  refine WL.nil ?_
  refine QF.seqNext ?_
  refine WC.seq ?_
  refine WC.seq ?_
  refine WC.still (by kernel_rfl) (by kernel_rfl) ?_
  refine WS.v (RV.move rfl) rfl ?_
  refine WS.v (RV.nilPtr rfl) rfl ?_
  refine WS.v (RV.fieldAddr 1 Tryz.underlying123 rfl rfl (Tryz.sizeOf3 _) (by decide) rfl) rfl ?_
  refine WS.v (RV.load (by first | exact hb2.r0 | exact hb2.r1 | exact hb2.r2 | exact hb2.r3 | exact hb2.r4 | exact hb2.r5) (Tryz.isAgg3 _) rfl) rfl ?_
  refine WS.v (RV.move rfl) rfl ?_
  refine WS.v (RV.nilPtr rfl) rfl ?_
  refine WS.v (RV.fieldAddr 0 Tryz.underlying123 rfl rfl (Tryz.sizeOf9 _) (by decide) rfl) rfl ?_
  refine WS.v (RV.load (by first | exact hb2.r0 | exact hb2.r1 | exact hb2.r2 | exact hb2.r3 | exact hb2.r4 | exact hb2.r5) (Tryz.isAgg9 _) rfl) rfl ?_
  refine WS.v (RV.lenS Tryz.underlying9 rfl) rfl ?_
  refine WS.v (RV.eql rfl rfl) rfl ?_
  refine WS.nil ?_
  refine QF.seqNext ?_
  refine WC.cond rfl ?_ ?_
  · intro he
    replace he : q = [] := List.eq_nil_of_length_eq_zero (by have : (l.length : Int) - (q.length : Int) = l.length := by simpa using he
                                                             omega)
    subst he
    refine WC.seq ?_
    refine WC.region ?_
    refine WL.v (RV.assign rfl) rfl ?_
    refine WL.nil ?_
    refine QF.seqNext ?_
    refine WC.ret ?_
    refine QF.thenRet ?_
    refine QF.done1 rfl rfl (⟨rfl, hb2, hU1.drew⟩)
  · intro he
    replace he : q ≠ [] := fun e => by subst e; simp at he
    have hb3 := hb2.drew
    refine WC.skip ?_
    refine QF.seqNext ?_
    refine WC.seq ?_
    refine WC.still (by kernel_rfl) (by kernel_rfl) ?_
    refine WS.v (RV.move rfl) rfl ?_
    refine WS.v (RV.nilPtr rfl) rfl ?_
    refine WS.v (RV.fieldAddr 0 Tryz.underlying123 rfl rfl (Tryz.sizeOf9 _) (by decide) rfl) rfl ?_
    refine WS.v (RV.load (by first | exact hb3.r0 | exact hb3.r1 | exact hb3.r2 | exact hb3.r3 | exact hb3.r4 | exact hb3.r5) (Tryz.isAgg9 _) rfl) rfl ?_
    refine WS.v (RV.move rfl) rfl ?_
    refine WS.v (RV.nilPtr rfl) rfl ?_
    refine WS.v (RV.fieldAddr 1 Tryz.underlying123 rfl rfl (Tryz.sizeOf3 _) (by decide) rfl) rfl ?_
    refine WS.v (RV.load (by first | exact hb3.r0 | exact hb3.r1 | exact hb3.r2 | exact hb3.r3 | exact hb3.r4 | exact hb3.r5) (Tryz.isAgg3 _) rfl) rfl ?_
    refine WS.v (RV.indexS1 (c := q.headD 0) Tryz.underlying9 rfl rfl (l.length - q.length) (by omega) (head_get hs he)) rfl ?_
    refine WS.v (RV.assign rfl) rfl ?_
    refine WS.nil ?_
    refine QF.seqNext ?_
    refine WC.ret ?_
    refine QF.done1 rfl rfl (⟨rfl, hb3, hU1.drew.drew⟩)
theorem name_ret (O : Nat → Nat) (w : World) (j rb : Nat) (l r : List UInt8) (op bad e : Int) (hj : j ≠ 0) (hr : r <:+ l) (hl : l.length ≤ 100000) (h : Rdr kv O w j rb l ((l.length : Int) - (r.length : Int)) op bad e) :
    Ret Tryz.prog 146 [.pointer (some ⟨rb, 0, none⟩)] w fun v w' => v = .string (bs (r.takeWhile letterB)) ∧ Rdr kv O w' j rb l ((l.length : Int) - ((r.dropWhile letterB).length : Int)) op bad e ∧ Upd (fun k => k = j) O w O w' := by
  have hz : ¬ (fun k : Nat => k = j) 0 := fun e => hj e.symm
  refine Ret.enter Tryz.func146 Tryz.ntmps146 rfl rfl ?_
  refine WC.seq ?_
  refine WC.region ?_
  refine WL.v (RV.assign rfl) rfl ?_
  refine WL.nil ?_
  refine QF.seqNext ?_
  refine WC.seq ?_
  refine WC.region ?_
  refine WL.v (RV.move rfl) rfl ?_
  refine WL.v (RV.nilPtr rfl) rfl ?_
  refine WL.v (RV.fieldAddr 1 Tryz.underlying123 rfl rfl (Tryz.sizeOf3 _) (by decide) rfl) rfl ?_
  refine WL.v (RV.load (by first | exact h.r0 | exact h.r1 | exact h.r2 | exact h.r3 | exact h.r4 | exact h.r5) (Tryz.isAgg3 _) rfl) rfl ?_
  refine WL.v (RV.assign rfl) rfl ?_
  refine WL.nil ?_
  refine QF.seqNext ?_
  refine WC.seq ?_
  refine WC.block ?_
  refine WC.loop (fun x : List UInt8 × World => [(0, .pointer (some ⟨rb, 0, none⟩)), (3, .int .i64 ((l.length : Int) - (r.length : Int)))]) (fun x : List UInt8 × World => x.2) (fun x : List UInt8 × World => x.1 <:+ l ∧ x.1.dropWhile letterB = r.dropWhile letterB ∧ Rdr kv O x.2 j rb l ((l.length : Int) - (x.1.length : Int)) op bad e ∧ Upd (fun k => k = j) O w O x.2) (fun x : List UInt8 × World => x.1.length) (r, w) (⟨hr, rfl, h, Upd.refl hz _ _⟩) ⟨rfl, rfl, trivial⟩ rfl ?_
  rintro ⟨r1, w1⟩ ⟨hr1, hs1, hb1, hU1⟩
  dsimp only at hr1 hs1 hb1 hU1 ⊢
  have hb2 := hb1.drew
  have hrl := hr1.length_le
  have hrl0 := hr.length_le
  have hend : r1 = r.dropWhile letterB → (l.take (l.length - r1.length)).drop (l.length - r.length) = r.takeWhile letterB := fun e => by
    have := suf_mid (l := l) (a := r.takeWhile letterB) (b := r.dropWhile letterB) (by rw [List.takeWhile_append_dropWhile]; exact hr)
    rw [List.takeWhile_append_dropWhile, ← e] at this
    exact this
  have hle : r1.length ≤ r.length ∨ r1 ≠ r.dropWhile letterB := by
    by_cases e : r1 = r.dropWhile letterB
    · left; rw [e]; exact (List.dropWhile_suffix _).length_le
    · right; exact e
  refine WC.seq ?_
  refine WC.seq ?_
  refine WC.still (by kernel_rfl) (by kernel_rfl) ?_
  refine WS.v (RV.move rfl) rfl ?_
  refine WS.v (RV.nilPtr rfl) rfl ?_
  refine WS.v (RV.fieldAddr 1 Tryz.underlying123 rfl rfl (Tryz.sizeOf3 _) (by decide) rfl) rfl ?_
  refine WS.v (RV.load (by first | exact hb2.r0 | exact hb2.r1 | exact hb2.r2 | exact hb2.r3 | exact hb2.r4 | exact hb2.r5) (Tryz.isAgg3 _) rfl) rfl ?_
  refine WS.v (RV.move rfl) rfl ?_
  refine WS.v (RV.nilPtr rfl) rfl ?_
  refine WS.v (RV.fieldAddr 0 Tryz.underlying123 rfl rfl (Tryz.sizeOf9 _) (by decide) rfl) rfl ?_
  refine WS.v (RV.load (by first | exact hb2.r0 | exact hb2.r1 | exact hb2.r2 | exact hb2.r3 | exact hb2.r4 | exact hb2.r5) (Tryz.isAgg9 _) rfl) rfl ?_
  refine WS.v (RV.lenS Tryz.underlying9 rfl) rfl ?_
  refine WS.v (RV.lss rfl rfl) rfl ?_
  refine WS.v (RV.move rfl) rfl ?_
  cases r1 with
  | nil =>
    have hb3 := hb2.drew
    have hd : [] = r.dropWhile letterB := by rw [← hs1]; rfl
    have h1 := hend hd
    refine WS.know (d := 18) rfl (b' := false) (decide_eq_false (by simp)) ?_
    refine WS.off rfl rfl rfl ?_
    refine WS.off rfl rfl rfl ?_
    refine WS.off rfl rfl rfl ?_
    refine WS.off rfl rfl rfl ?_
    refine WS.off rfl rfl rfl ?_
    refine WS.off rfl rfl rfl ?_
    refine WS.off rfl rfl rfl ?_
    refine WS.off rfl rfl rfl ?_
    refine WS.off rfl rfl rfl ?_
    refine WS.off rfl rfl rfl ?_
    refine WS.v (RV.pickF rfl rfl) rfl ?_
    refine WS.nil ?_
    refine QF.seqNext ?_
    refine WC.condF rfl rfl ?_
    refine WC.exit ?_
    refine QF.thenExit ?_
    refine QF.thenExit ?_
    refine QF.blockHit ?_
    refine QF.seqNext ?_
    refine WC.seq ?_
    refine WC.still (by kernel_rfl) (by kernel_rfl) ?_
    refine WS.v (RV.move rfl) rfl ?_
    refine WS.v (RV.nilPtr rfl) rfl ?_
    refine WS.v (RV.fieldAddr 0 Tryz.underlying123 rfl rfl (Tryz.sizeOf9 _) (by decide) rfl) rfl ?_
    refine WS.v (RV.load (by first | exact hb3.r0 | exact hb3.r1 | exact hb3.r2 | exact hb3.r3 | exact hb3.r4 | exact hb3.r5) (Tryz.isAgg9 _) rfl) rfl ?_
    refine WS.v (RV.move rfl) rfl ?_
    refine WS.v (RV.move rfl) rfl ?_
    refine WS.v (RV.nilPtr rfl) rfl ?_
    refine WS.v (RV.fieldAddr 1 Tryz.underlying123 rfl rfl (Tryz.sizeOf3 _) (by decide) rfl) rfl ?_
    refine WS.v (RV.load (by first | exact hb3.r0 | exact hb3.r1 | exact hb3.r2 | exact hb3.r3 | exact hb3.r4 | exact hb3.r5) (Tryz.isAgg3 _) rfl) rfl ?_
    refine WS.v (RV.sliceS Tryz.underlying9 rfl rfl rfl (l.length - r.length) (l.length - 0) (by omega) (by simp) (by omega) (by omega)) rfl ?_
    refine WS.v (RV.assign rfl) rfl ?_
    refine WS.nil ?_
    refine QF.seqNext ?_
    refine WC.ret ?_
    simp only [List.length_nil] at h1
    refine QF.done1 rfl rfl (⟨by rw [h1], by rw [← hd]; exact hb3, hU1.drew.drew⟩)
  | cons b r2 =>
    simp only [List.length_cons] at hrl hb2
    refine WS.know (d := 18) rfl (b' := true) (decide_eq_true (by simp only [List.length_cons]; omega)) ?_
    refine WS.on rfl ?_
    refine WS.v (RV.move rfl) rfl ?_
    refine WS.on rfl ?_
    refine WS.v (RV.nilPtr rfl) rfl ?_
    refine WS.on rfl ?_
    refine WS.v (RV.fieldAddr 0 Tryz.underlying123 rfl rfl (Tryz.sizeOf9 _) (by decide) rfl) rfl ?_
    refine WS.on rfl ?_
    refine WS.v (RV.load (by first | exact hb2.r0 | exact hb2.r1 | exact hb2.r2 | exact hb2.r3 | exact hb2.r4 | exact hb2.r5) (Tryz.isAgg9 _) rfl) rfl ?_
    refine WS.on rfl ?_
    refine WS.v (RV.move rfl) rfl ?_
    refine WS.on rfl ?_
    refine WS.v (RV.nilPtr rfl) rfl ?_
    refine WS.on rfl ?_
    refine WS.v (RV.fieldAddr 1 Tryz.underlying123 rfl rfl (Tryz.sizeOf3 _) (by decide) rfl) rfl ?_
    refine WS.on rfl ?_
    refine WS.v (RV.load (by first | exact hb2.r0 | exact hb2.r1 | exact hb2.r2 | exact hb2.r3 | exact hb2.r4 | exact hb2.r5) (Tryz.isAgg3 _) rfl) rfl ?_
    refine WS.on rfl ?_
    refine WS.v (RV.indexS1 (c := b) Tryz.underlying9 rfl rfl (l.length - (r2.length + 1)) (by omega) (suf_get hr1)) rfl ?_
    refine WS.on rfl ?_
    refine WS.call Tryz.call137 rfl (letter_ret b w1.drew) rfl ?_
    refine WS.v (RV.pickT rfl rfl) rfl ?_
    refine WS.nil ?_
    refine QF.seqNext ?_
    refine WC.cond rfl ?_ ?_
    · intro hb
      replace hb : letterB b = true := hb
      refine WC.skip ?_
      refine QF.seqNext ?_
      refine WC.block ?_
      refine WC.region ?_
      refine WL.v (RV.move rfl) rfl ?_
      refine WL.v (RV.nilPtr rfl) rfl ?_
      refine WL.v (RV.fieldAddr 1 Tryz.underlying123 rfl rfl (Tryz.sizeOf3 _) (by decide) rfl) rfl ?_
      refine WL.v (RV.load (by first | exact hb2.r0 | exact hb2.r1 | exact hb2.r2 | exact hb2.r3 | exact hb2.r4 | exact hb2.r5) (Tryz.isAgg3 _) rfl) rfl ?_
      refine WL.v (RV.add rfl rfl (Fit.i64 (by omega))) rfl ?_
      refine WL.v (RV.nilPtr rfl) rfl ?_
      refine WL.v (RV.fieldAddr 1 Tryz.underlying123 rfl rfl (Tryz.sizeOf3 _) (by decide) rfl) rfl ?_
      refine WL.storeBlk (j := 1) hb2 rfl (Tryz.sizeOf3 _) rfl rfl rfl rfl ?_
      rw [show ((l.length : Int) - ((r2.length + 1 : Nat) : Int)) + 1 = (l.length : Int) - (r2.length : Int) from by omega]
      have hb3 := hb2.rAt ((l.length : Int) - (r2.length : Int))
      have hU3 : Upd (fun k => k = j) O w1.drew O (w1.drew.setCell ⟨rb, 1, none⟩ (.int .i64 ((l.length : Int) - (r2.length : Int)))) := Upd.set hz hb2.tag rfl
      refine WL.nil ?_
      refine QF.blockNormal ?_
      refine QF.next ((r2, w1.drew.setCell ⟨rb, 1, none⟩ (.int .i64 ((l.length : Int) - (r2.length : Int))))) (⟨(List.suffix_cons _ _).trans hr1, by rw [← hs1, List.dropWhile_cons_of_pos hb], hb3, hU1.drew.trans hU3⟩) (by dsimp only; simp) ⟨rfl, rfl, trivial⟩ rfl
    · intro hb
      replace hb : letterB b = false := hb
      have hsk : (b :: r2).dropWhile letterB = b :: r2 := List.dropWhile_cons_of_neg (by rw [hb]; decide)
      have hd : b :: r2 = r.dropWhile letterB := by rw [← hs1, hsk]
      have h1 := hend hd
      have h2 := hle.resolve_right (fun e => e hd)
      simp only [List.length_cons] at h1 h2
      have hb3 := hb2.drew
      refine WC.exit ?_
      refine QF.thenExit ?_
      refine QF.thenExit ?_
      refine QF.blockHit ?_
      refine QF.seqNext ?_
      refine WC.seq ?_
      refine WC.still (by kernel_rfl) (by kernel_rfl) ?_
      refine WS.v (RV.move rfl) rfl ?_
      refine WS.v (RV.nilPtr rfl) rfl ?_
      refine WS.v (RV.fieldAddr 0 Tryz.underlying123 rfl rfl (Tryz.sizeOf9 _) (by decide) rfl) rfl ?_
      refine WS.v (RV.load (by first | exact hb3.r0 | exact hb3.r1 | exact hb3.r2 | exact hb3.r3 | exact hb3.r4 | exact hb3.r5) (Tryz.isAgg9 _) rfl) rfl ?_
      refine WS.v (RV.move rfl) rfl ?_
      refine WS.v (RV.move rfl) rfl ?_
      refine WS.v (RV.nilPtr rfl) rfl ?_
      refine WS.v (RV.fieldAddr 1 Tryz.underlying123 rfl rfl (Tryz.sizeOf3 _) (by decide) rfl) rfl ?_
      refine WS.v (RV.load (by first | exact hb3.r0 | exact hb3.r1 | exact hb3.r2 | exact hb3.r3 | exact hb3.r4 | exact hb3.r5) (Tryz.isAgg3 _) rfl) rfl ?_
      refine WS.v (RV.sliceS Tryz.underlying9 rfl rfl rfl (l.length - r.length) (l.length - (r2.length + 1)) (by omega) (by omega) (by omega) (by omega)) rfl ?_
      refine WS.v (RV.assign rfl) rfl ?_
      refine WS.nil ?_
      refine QF.seqNext ?_
      refine WC.ret ?_
      refine QF.done1 rfl rfl (⟨by rw [h1], by rw [← hd]; exact hb3, hU1.drew.drew⟩)
theorem pl48 : Places Tryz.prog 48 #[(0, 1), (1, 1), (2, 1)] := ⟨_, Tryz.underlying48, fun w => by kernel_rfl⟩
theorem fail_ret (B : Nat) (O : Nat → Nat) (w : World) (j rb : Nat) (l : List UInt8) (a op bad p e : Int) (hj : j ≠ 0) (hR : Rng B O w) (h : Rdr kv O w j rb l a op bad 0) :
    Ret Tryz.prog 83 [.pointer (some ⟨rb, 0, none⟩), .int .i64 p, .int .i64 e] w fun v w' => v = .agg #[.int .i64 0, .int .i64 0, .slice none 0 0] ∧ Rdr kv O w' j rb l a op p e ∧ Upd (fun k => k = j) O w O w' := by
  obtain ⟨T, hT0, hT⟩ := hR.bound
  have hjT : j < T := by rw [← h.tag]; exact hT rb
  refine Ret.enter Tryz.func83 Tryz.ntmps83 rfl rfl ?_
  refine WC.seq ?_
  refine WC.region ?_
  refine WL.allocO hR T (by omega) (Tryz.zeroValue48 _) rfl ?_
  intro xb w1 O1 hx1 hU1 hR1 hE1
  have hb1 := h.upd hU1 hj (by omega)
  refine WL.nil ?_
  refine QF.seqNext ?_
  refine WC.seq ?_
  refine WC.seq ?_
  refine WC.region ?_
  refine WL.v (RV.move rfl) rfl ?_
  refine WL.v (RV.nilPtr rfl) rfl ?_
  refine WL.v (RV.fieldAddr 5 Tryz.underlying125 rfl rfl (Tryz.sizeOf27 _) (by decide) rfl) rfl ?_
  refine WL.v (RV.load (by first | exact hb1.r0 | exact hb1.r1 | exact hb1.r2 | exact hb1.r3 | exact hb1.r4 | exact hb1.r5) (Tryz.isAgg27 _) rfl) rfl ?_
  refine WL.v (RV.eql rfl rfl) rfl ?_
  refine WL.nil ?_
  refine QF.seqNext ?_
  refine WC.condT rfl (rfl) ?_
  refine WC.region ?_
  refine WL.v (RV.move rfl) rfl ?_
  refine WL.v (RV.move rfl) rfl ?_
  refine WL.v (RV.move rfl) rfl ?_
  refine WL.v (RV.move rfl) rfl ?_
  refine WL.v (RV.nilPtr rfl) rfl ?_
  refine WL.v (RV.fieldAddr 4 Tryz.underlying125 rfl rfl (Tryz.sizeOf3 _) (by decide) rfl) rfl ?_
  refine WL.storeBlk (j := 4) hb1 rfl (Tryz.sizeOf3 _) rfl rfl rfl rfl ?_
  have hb2 := hb1.rBad p
  have hU2 : Upd (fun k => k = j) O1 w1 O1 (w1.setCell ⟨rb, 4, none⟩ (.int .i64 p)) := Upd.set (fun e => hj e.symm) hb1.tag rfl
  refine WL.v (RV.nilPtr rfl) rfl ?_
  refine WL.v (RV.fieldAddr 5 Tryz.underlying125 rfl rfl (Tryz.sizeOf27 _) (by decide) rfl) rfl ?_
  refine WL.storeBlk (j := 5) hb2 rfl (Tryz.sizeOf27 _) rfl rfl rfl rfl ?_
  have hb3 := hb2.rE e
  have hU3 : Upd (fun k => k = j) O1 (w1.setCell ⟨rb, 4, none⟩ (.int .i64 p)) O1 ((w1.setCell ⟨rb, 4, none⟩ (.int .i64 p)).setCell ⟨rb, 5, none⟩ (.int .i64 e)) := Upd.set (fun e => hj e.symm) hb2.tag rfl
  have hU23 := hU2.trans hU3
  have hx3 := hx1.upd hU23 (by omega) (by omega)
  generalize (w1.setCell ⟨rb, 4, none⟩ (.int .i64 p)).setCell ⟨rb, 5, none⟩ (.int .i64 e) = w3 at *
  refine WL.nil ?_
  refine QF.seqNext ?_
  refine WC.seq ?_
  refine WC.region ?_
  refine WL.v (RV.buildF pl48 (Tryz.zeroValue48 _) rfl (by first | rfl | (simp only [List.all_cons, List.all_nil]; rfl)) rfl rfl) rfl ?_
  refine WL.storeAgg (us := #[.int .i64 0, .int .i64 0, .slice none 0 0]) hx3 rfl (Tryz.sizeOf48 _) rfl rfl rfl rfl ?_
  have hx4 := hx3.setRow (us := #[.int .i64 0, .int .i64 0, .slice none 0 0])
  have hU4 : Upd (fun k => k = T) O1 w3 O1 (w3.setRow xb #[.int .i64 0, .int .i64 0, .slice none 0 0]) := Upd.setRow (by omega) hx3.tag rfl
  have hb4 := hb3.upd hU4 hj (by omega)
  have hUt := ((hU1.pT hj hT0 (Nat.le_refl _)).trans (hU23.pj hT0)).trans (hU4.pT hj hT0 (Nat.le_refl _))
  refine WL.nil ?_
  refine QF.seqNext ?_
  refine WC.ret ?_
  refine QF.doneC1 rfl rfl (hx4.cellsAdd) (Tryz.isAgg48 _) (Tryz.sizeOf48 _) (⟨rfl, hb4.fgt h.tag, hUt.priv hT hj⟩)
end Go.Proofs.YtmohcfjopaccdaaGreatDoor
