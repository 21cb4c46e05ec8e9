/- Packages strings, ansi, entity, walked: where no escape begins; a reference that stands for a sign that is escaped. -/
import Derived.Test.YtakigpnccppheaaGreatDoorTokA
namespace Go.Proofs.YtakigpnccppheaaGreatDoor
open Go.VL Go.Proofs
set_option maxRecDepth 10000

def hasP (l p : List UInt8) : Bool := decide (p.length ≤ l.length) && (l.take p.length == p)
theorem slHasPrefix_ret (l p : List UInt8) (w : World) (hp : p.length ≤ 1000000) : Ret Tryz.prog 142 [.string (bs l), .string (bs p)] w fun v w' => v = .bool (hasP l p) ∧ w = w' := by
  refine Ret.enter Tryz.func142 Tryz.ntmps142 rfl rfl ?_
  refine WC.seq ?_
  refine WC.region ?_
  refine WL.v (RV.assign rfl) rfl ?_
  refine WL.nil ?_
  refine QF.seqNext ?_
  refine WC.seq ?_
  refine WC.region ?_
  refine WL.v (RV.move rfl) rfl ?_
  refine WL.v (RV.lenS Tryz.underlying9 rfl) rfl ?_
  refine WL.v (RV.move rfl) rfl ?_
  refine WL.v (RV.lenS Tryz.underlying9 rfl) rfl ?_
  refine WL.v (RV.geq rfl rfl) rfl ?_
  refine WL.v (RV.move rfl) rfl ?_
  cases hc : decide (p.length ≤ l.length) with
  | false =>
    replace hc := of_decide_eq_false hc
    refine WL.know (d := 10) rfl (b' := false) (decide_eq_false (by omega)) ?_
    refine WL.off rfl rfl rfl ?_
    refine WL.off rfl rfl rfl ?_
    refine WL.off rfl rfl rfl ?_
    refine WL.off rfl rfl rfl ?_
    refine WL.off rfl rfl rfl ?_
    refine WL.off rfl rfl rfl ?_
    refine WL.v (RV.pickF rfl rfl) rfl ?_
    refine WL.v (RV.assign rfl) rfl ?_
    refine WL.nil ?_
    refine QF.seqNext ?_
    refine WC.ret ?_
    refine QF.done1 rfl rfl (⟨by simp [hasP, hc], rfl⟩)
  | true =>
    replace hc := of_decide_eq_true hc
    refine WL.know (d := 10) rfl (b' := true) (decide_eq_true (by omega)) ?_
    refine WL.on rfl ?_
    refine WL.v (RV.move rfl) rfl ?_
    refine WL.on rfl ?_
    refine WL.v (RV.move rfl) rfl ?_
    refine WL.on rfl ?_
    refine WL.v (RV.lenS Tryz.underlying9 rfl) rfl ?_
    refine WL.on rfl ?_
    refine WL.v (RV.sliceShi Tryz.underlying9 rfl rfl p.length rfl hc) rfl ?_
    refine WL.on rfl ?_
    refine WL.v (RV.move rfl) rfl ?_
    refine WL.on rfl ?_
    refine WL.v (RV.eqlS rfl rfl) rfl ?_
    refine WL.v (RV.pickT rfl rfl) rfl ?_
    refine WL.v (RV.assign rfl) rfl ?_
    refine WL.nil ?_
    refine QF.seqNext ?_
    refine WC.ret ?_
    refine QF.done1 rfl rfl (⟨by simp [hasP, hc], rfl⟩)
theorem hasPrefix_ret (l p : List UInt8) (w : World) (hp : p.length ≤ 1000000) : Ret Tryz.prog 116 [.string (bs l), .string (bs p)] w fun v w' => v = .bool (hasP l p) ∧ w = w' := by
  refine Ret.enter Tryz.func116 Tryz.ntmps116 rfl rfl ?_
  refine WC.seq ?_
  refine WC.region ?_
  refine WL.v (RV.assign rfl) rfl ?_
  refine WL.nil ?_
  refine QF.seqNext ?_
  refine WC.seq ?_
  refine WC.region ?_
  refine WL.v (RV.move rfl) rfl ?_
  refine WL.v (RV.move rfl) rfl ?_
  refine WL.call Tryz.call142 rfl (slHasPrefix_ret l p w hp) rfl ?_
  rintro v _ ⟨rfl, rfl⟩
  refine WL.v (RV.assign rfl) rfl ?_
  refine WL.nil ?_
  refine QF.seqNext ?_
  refine WC.ret ?_
  refine QF.done1 rfl rfl (⟨rfl, rfl⟩)

theorem ansiBegins_ret (b : List UInt8) (bv : Value) (i : Nat) (w : World) (h : Bytes w bv b) (hi : i < b.length) (hne : nth b i ≠ 27) : Ret Tryz.prog 100 [bv, .int .i64 i] w fun v w' => v = .bool false ∧ w = w' := by
  have hm := h.len_le
  refine Ret.enter Tryz.func100 Tryz.ntmps100 rfl rfl ?_
  refine WC.seq ?_
  refine WC.region ?_
  refine WL.v (RV.assign rfl) rfl ?_
  refine WL.nil ?_
  refine QF.seqNext ?_
  refine WC.seq ?_
  refine WC.region ?_
  refine WL.v (RV.move rfl) rfl ?_
  refine WL.v (RV.geq rfl rfl) rfl ?_
  refine WL.v (RV.move rfl) rfl ?_
  refine WL.know (d := 7) rfl (b' := true) (decide_eq_true (by omega)) ?_
  refine WL.on rfl ?_
  refine WL.v (RV.move rfl) rfl ?_
  refine WL.on rfl ?_
  refine WL.v (RV.move rfl) rfl ?_
  refine WL.on rfl ?_
  refine WL.v (RV.len (by first | exact h) Tryz.underlying31 rfl) rfl ?_
  refine WL.on rfl ?_
  refine WL.v (RV.lss rfl rfl) rfl ?_
  refine WL.v (RV.pickT rfl rfl) rfl ?_
  refine WL.v (RV.move rfl) rfl ?_
  refine WL.know (d := 13) rfl (b' := true) (decide_eq_true (by omega)) ?_
  refine WL.on rfl ?_
  refine WL.v (RV.move rfl) rfl ?_
  refine WL.on rfl ?_
  refine WL.v (RV.move rfl) rfl ?_
  refine WL.on rfl ?_
  refine WL.v (RV.indexAddr (by first | exact h) Tryz.underlying31 (Tryz.sizeOf5 _) rfl rfl _ rfl (by omega)) rfl ?_
  refine WL.on rfl ?_
  refine WL.v (RV.load (by first | exact h.ld (i := i) hi) (Tryz.isAgg5 _) rfl) rfl ?_
  refine WL.on rfl ?_
  refine WL.v (RV.eql rfl rfl) rfl ?_
  refine WL.v (RV.pickT rfl rfl) rfl ?_
  refine WL.v (RV.assign rfl) rfl ?_
  refine WL.nil ?_
  refine QF.seqNext ?_
  refine WC.ret ?_
  refine QF.done1 rfl rfl (⟨?_, rfl⟩)
  have e := byte_eq (nth b i) 27 (by decide)
  rw [show decide (nth b i = UInt8.ofNat 27) = false from decide_eq_false hne] at e
  exact congrArg Value.bool e
theorem pl163 : Places Tryz.prog 163 #[(0, 1), (1, 1), (2, 1), (3, 1)] := ⟨_, Tryz.underlying163, fun w => by kernel_rfl⟩
def encA0 : List Value := [.int .i64 0, .bool false, .bool false, .int .u8 0]
theorem ansiRead_ret (b : List UInt8) (bv : Value) (i : Nat) (w : World) (h : Bytes w bv b) (hi : i < b.length) (hne : nth b i ≠ 27) : Ret Tryz.prog 80 [bv, .int .i64 i] w fun v w' => v = .agg encA0.toArray ∧ Ext w w' := by
  refine Ret.enter Tryz.func80 Tryz.ntmps80 rfl rfl ?_
  refine WC.seq ?_
  refine WC.region ?_
  refine WL.allocO (Rng.start w) 1 (by omega) (Tryz.zeroValue163 _) rfl ?_
  intro xb w1 O1 hx hU1 hR1 hE1
  refine WL.nil ?_
  refine QF.seqNext ?_
  refine WC.seq ?_
  refine WC.seq ?_
  refine WC.region ?_
  refine WL.v (RV.move rfl) rfl ?_
  refine WL.v (RV.move rfl) rfl ?_
  refine WL.call Tryz.call100 rfl (ansiBegins_ret b bv i w1 (h.ext hE1) hi hne) rfl ?_
  rintro v _ ⟨rfl, rfl⟩
  refine WL.v (RV.not rfl) rfl ?_
  refine WL.nil ?_
  refine QF.seqNext ?_
  refine WC.condT rfl (rfl) ?_
  refine WC.seq ?_
  refine WC.region ?_
  refine WL.v (RV.buildF pl163 (Tryz.zeroValue163 _) rfl (by first | rfl | (simp only [List.all_cons, List.all_nil]; rfl)) rfl rfl) rfl ?_
  refine WL.storeAgg (us := encA0.toArray) hx rfl (Tryz.sizeOf163 _) rfl rfl rfl rfl ?_
  refine WL.nil ?_
  refine QF.seqNext ?_
  refine WC.ret ?_
  refine QF.thenRet ?_
  refine QF.doneC1 rfl rfl ((hx.setRow (us := encA0.toArray)).cellsAdd) (Tryz.isAgg163 _) (Tryz.sizeOf163 _) (⟨rfl, (hU1.trans (Upd.setRow (by decide) hx.tag rfl)).ext⟩)

theorem entLetter_ret (c : UInt8) (w : World) : Ret Tryz.prog 126 [.int .u8 (c.toNat : Int)] w fun v w' => v = .bool (decide (97 ≤ c.toNat) && decide (c.toNat ≤ 122)) ∧ w' = w := by
  refine Ret.enter Tryz.func126 Tryz.ntmps126 rfl rfl ?_
  refine WC.seq ?_
  refine WC.region ?_
  refine WL.v (RV.assign rfl) rfl ?_
  refine WL.nil ?_
  refine QF.seqNext ?_
  refine WC.seq ?_
  refine WC.region ?_
  refine WL.v (RV.move rfl) rfl ?_
  refine WL.v (RV.geq rfl rfl) rfl ?_
  refine WL.v (RV.move rfl) rfl ?_
  cases hc : decide (97 ≤ c.toNat) with
  | false =>
    replace hc := of_decide_eq_false hc
    refine WL.know (d := 5) rfl (b' := false) (decide_eq_false (by omega)) ?_
    refine WL.off rfl rfl rfl ?_
    refine WL.off rfl rfl rfl ?_
    refine WL.v (RV.pickF rfl rfl) rfl ?_
    refine WL.v (RV.assign rfl) rfl ?_
    refine WL.nil ?_
    refine QF.seqNext ?_
    refine WC.ret ?_
    refine QF.done1 rfl rfl (⟨rfl, rfl⟩)
  | true =>
    replace hc := of_decide_eq_true hc
    refine WL.know (d := 5) rfl (b' := true) (decide_eq_true (by omega)) ?_
    refine WL.on rfl ?_
    refine WL.v (RV.move rfl) rfl ?_
    refine WL.on rfl ?_
    refine WL.v (RV.leq rfl rfl) rfl ?_
    refine WL.v (RV.pickT rfl rfl) rfl ?_
    refine WL.v (RV.assign rfl) rfl ?_
    refine WL.nil ?_
    refine QF.seqNext ?_
    refine WC.ret ?_
    refine QF.done1 rfl rfl (⟨?_, rfl⟩)
    have e : decide ((c.toNat : Int) ≤ 122) = decide (c.toNat ≤ 122) := decide_eq_decide.2 (by omega)
    exact congrArg Value.bool e

/-- The name of what stands for a sign. -/
def refName (c : UInt8) : List UInt8 := if c = 38 then [97, 109, 112] else if c = 60 then [108, 116] else [103, 116]
theorem escB_spec {c : UInt8} (h : spec c = true) : escB c = 38 :: refName c ++ [59] := by
  simp only [spec, Bool.or_eq_true, beq_iff_eq] at h
  rcases h with (rfl | rfl) | rfl <;> rfl
def fnLetter : Value := .func (.func 126) #[] #[]
def formL : List Value := [.int .i64 1, .int .i64 6, fnLetter, .int .i64 0]
theorem pl190 : Places Tryz.prog 190 #[(0, 1), (1, 1), (2, 1), (3, 1)] := ⟨_, Tryz.underlying190, fun w => by kernel_rfl⟩
theorem formOf_ret (b : List UInt8) (bv : Value) (x y : UInt8) (w : World) (h : Bytes w bv b) (h3 : b.take 3 = [38, x, y]) (hx : x ≠ 35) : Ret Tryz.prog 96 [bv] w fun v w' => v = .agg formL.toArray ∧ Ext w w' := by
  have hl3 : 3 ≤ b.length := by have := congrArg List.length h3; simp at this; omega
  have hm := h.len_le
  refine Ret.enter Tryz.func96 Tryz.ntmps96 rfl rfl ?_
  refine WC.seq ?_
  refine WC.region ?_
  refine WL.allocO (Rng.start w) 1 (by omega) (Tryz.zeroValue190 _) rfl ?_
  intro xb w1 O1 hxb hU1 hR1 hE1
  have h1 := h.ext hE1
  refine WL.nil ?_
  refine QF.seqNext ?_
  refine WC.seq ?_
  refine WC.region ?_
  refine WL.v (RV.move rfl) rfl ?_
  refine WL.v (RV.move rfl) rfl ?_
  refine WL.v (RV.len (by first | exact h1) Tryz.underlying31 rfl) rfl ?_
  refine WL.v (RV.min2 rfl rfl) rfl ?_
  refine WL.v (RV.sliceHi h1 Tryz.underlying31 (Tryz.sizeOf5 _) rfl rfl 3 (by omega) hl3) rfl ?_
  have hs : Bytes w1 (sliceV bv 1 0 3) ((b.take 3).drop 0) := h1.slice (Nat.zero_le _) hl3
  rw [List.drop_zero, h3] at hs
  refine WL.v (RV.strOf hs Tryz.underlying31 Tryz.underlying5 Tryz.underlying9 rfl) rfl ?_
  refine WL.v (RV.assign rfl) rfl ?_
  refine WL.nil ?_
  refine QF.seqNext ?_
  refine WC.seq ?_
  refine WC.block ?_
  refine WC.seq ?_
  refine WC.region ?_
  refine WL.v (RV.move rfl) rfl ?_
  refine WL.call Tryz.call116 rfl (hasPrefix_ret [38, x, y] [38, 35, 120] w1 (by decide)) rfl ?_
  have e1 : hasP [38, x, y] [38, 35, 120] = false := by simp [hasP, hx]
  rw [e1]
  rintro v _ ⟨rfl, rfl⟩
  refine WL.v (RV.move rfl) rfl ?_
  refine WL.know (d := 13) rfl (b' := false) (rfl) ?_
  refine WL.on rfl ?_
  refine WL.v (RV.move rfl) rfl ?_
  refine WL.on rfl ?_
  refine WL.call Tryz.call116 rfl (hasPrefix_ret [38, x, y] [38, 35, 88] w1 (by decide)) rfl ?_
  have e2 : hasP [38, x, y] [38, 35, 88] = false := by simp [hasP, hx]
  rw [e2]
  rintro v _ ⟨rfl, rfl⟩
  refine WL.v (RV.pickF rfl rfl) rfl ?_
  refine WL.v (RV.assign rfl) rfl ?_
  refine WL.nil ?_
  refine QF.seqNext ?_
  refine WC.condF rfl (rfl) ?_
  refine WC.seq ?_
  refine WC.region ?_
  refine WL.v (RV.move rfl) rfl ?_
  refine WL.call Tryz.call116 rfl (hasPrefix_ret [38, x, y] [38, 35] w1 (by decide)) rfl ?_
  have e3 : hasP [38, x, y] [38, 35] = false := by simp [hasP, hx]
  rw [e3]
  rintro v _ ⟨rfl, rfl⟩
  refine WL.v (RV.assign rfl) rfl ?_
  refine WL.nil ?_
  refine QF.seqNext ?_
  refine WC.condF rfl (rfl) ?_
  refine WC.skip ?_
  refine QF.blockNormal ?_
  refine QF.seqNext ?_
  refine WC.seq ?_
  refine WC.region ?_
  refine WL.v (RV.buildF pl190 (Tryz.zeroValue190 _) rfl (by first | rfl | (simp only [List.all_cons, List.all_nil]; rfl)) rfl rfl) rfl ?_
  refine WL.storeAgg (us := formL.toArray) hxb rfl (Tryz.sizeOf190 _) rfl rfl rfl rfl ?_
  refine WL.nil ?_
  refine QF.seqNext ?_
  refine WC.ret ?_
  refine QF.doneC1 rfl rfl ((hxb.setRow (us := formL.toArray)).cellsAdd) (Tryz.isAgg190 _) (Tryz.sizeOf190 _) (⟨rfl, (hU1.trans (Upd.setRow (by decide) hxb.tag rfl)).ext⟩)

theorem formRun_ret (b : List UInt8) (bv : Value) (k : Nat) (w : World) (h : Bytes w bv b) (hk : k + 1 < b.length) (hk6 : k < 6) (hlet : ∀ j, j < k → 97 ≤ by8 b (j + 1) ∧ by8 b (j + 1) ≤ 122) (hend : by8 b (k + 1) = 59) :
    Ret Tryz.prog 97 [.agg formL.toArray, bv] w fun v w' => v = .int .i64 k ∧ Ext w w' := by
  have hm := h.len_le
  refine Ret.enter Tryz.func97 Tryz.ntmps97 rfl rfl ?_
  refine WC.seq ?_
  refine WC.region ?_
  refine WL.boxO (Rng.start w) 1 (by omega) rfl rfl ?_
  intro xb w1 O1 hx hU1 hR1 hE1
  refine WL.v (RV.assign rfl) rfl ?_
  refine WL.nil ?_
  refine QF.seqNext ?_
  refine WC.seq ?_
  refine WC.region ?_
  refine WL.v (RV.assign rfl) rfl ?_
  refine WL.nil ?_
  refine QF.seqNext ?_
  refine WC.seq ?_
  refine WC.block ?_
  refine WC.loop (fun x : Nat × World => [(1, bv), (2, .pointer (some ⟨xb, 0, none⟩)), (5, .int .i64 x.1)]) (fun x : Nat × World => x.2) (fun x : Nat × World => x.1 ≤ k ∧ Ext w1 x.2) (fun x : Nat × World => k - x.1) (0, w1) (⟨Nat.zero_le _, Ext.refl _⟩) ⟨rfl, rfl, rfl, trivial⟩ rfl ?_
  rintro ⟨n, w2⟩ ⟨hn, hE2⟩
  dsimp only at hn hE2 ⊢
  have h2 := (h.ext hE1).ext hE2
  have c0 : w2.cell? ((⟨xb, 0, none⟩ : Addr).add 0) = some (.int .i64 1) := hE2.cell (hx.cell 0 rfl)
  have c1 : w2.cell? ((⟨xb, 0, none⟩ : Addr).add 1) = some (.int .i64 6) := hE2.cell (hx.cell 1 rfl)
  have c2 : w2.cell? ((⟨xb, 0, none⟩ : Addr).add 2) = some fnLetter := hE2.cell (hx.cell 2 rfl)
  refine WC.seq ?_
  refine WC.seq ?_
  refine WC.still (by kernel_rfl) (by kernel_rfl) ?_
  refine WS.v (RV.fieldAddr 0 Tryz.underlying190 rfl rfl (Tryz.sizeOf3 _) (by decide) rfl) rfl ?_
  refine WS.v (RV.load (by first | exact c0) (Tryz.isAgg3 _) rfl) rfl ?_
  refine WS.v (RV.move rfl) rfl ?_
  refine WS.v (RV.add rfl rfl (Fit.i64 (by omega))) rfl ?_
  refine WS.v (RV.move rfl) rfl ?_
  refine WS.v (RV.len (by first | exact (h2).drew) Tryz.underlying31 rfl) rfl ?_
  refine WS.v (RV.lss rfl rfl) rfl ?_
  refine WS.v (RV.move rfl) rfl ?_
  refine WS.know (d := 13) rfl (b' := true) (decide_eq_true (by omega)) ?_
  refine WS.on rfl ?_
  refine WS.v (RV.move rfl) rfl ?_
  refine WS.on rfl ?_
  refine WS.v (RV.fieldAddr 1 Tryz.underlying190 rfl rfl (Tryz.sizeOf3 _) (by decide) rfl) rfl ?_
  refine WS.on rfl ?_
  refine WS.v (RV.load (by first | exact c1) (Tryz.isAgg3 _) rfl) rfl ?_
  refine WS.on rfl ?_
  refine WS.v (RV.lss rfl rfl) rfl ?_
  refine WS.v (RV.pickT rfl rfl) rfl ?_
  refine WS.v (RV.move rfl) rfl ?_
  refine WS.know (d := 19) rfl (b' := true) ((by first | exact decide_eq_true (by omega) | (simp only [Bool.true_and]; exact decide_eq_true (by omega)))) ?_
  refine WS.on rfl ?_
  refine WS.v (RV.fieldAddr 2 Tryz.underlying190 rfl rfl (Tryz.sizeOf187 _) (by decide) rfl) rfl ?_
  refine WS.on rfl ?_
  refine WS.v (RV.load (by first | exact c2) (Tryz.isAgg187 _) rfl) rfl ?_
  refine WS.on rfl ?_
  refine WS.v (RV.move rfl) rfl ?_
  refine WS.on rfl ?_
  refine WS.v (RV.fieldAddr 0 Tryz.underlying190 rfl rfl (Tryz.sizeOf3 _) (by decide) rfl) rfl ?_
  refine WS.on rfl ?_
  refine WS.v (RV.load (by first | exact c0) (Tryz.isAgg3 _) rfl) rfl ?_
  refine WS.on rfl ?_
  refine WS.v (RV.move rfl) rfl ?_
  refine WS.on rfl ?_
  refine WS.v (RV.add rfl rfl (Fit.i64 (by omega))) rfl ?_
  refine WS.on rfl ?_
  refine WS.v (RV.indexAddr h2.drew Tryz.underlying31 (Tryz.sizeOf5 _) rfl rfl (n + 1) (by omega) (by omega)) rfl ?_
  refine WS.on rfl ?_
  refine WS.v (RV.load (by first | exact h2.ld (i := n + 1) (by omega)) (Tryz.isAgg5 _) rfl) rfl ?_
  refine WS.on rfl ?_
  refine WS.callV rfl Tryz.call126 rfl (entLetter_ret (nth b (n + 1)) _) rfl ?_
  have e8 : (nth b (n + 1)).toNat = by8 b (n + 1) := rfl
  refine WS.v (RV.pickT rfl rfl) rfl ?_
  refine WS.nil ?_
  refine QF.seqNext ?_
  refine WC.cond rfl ?_ ?_
  · intro hy
    simp only [Bool.true_and, Bool.and_eq_true, decide_eq_true_eq] at hy
    have hlt : n < k := by
      refine Nat.lt_of_le_of_ne hn fun e => ?_
      subst e; rw [e8, hend] at hy; omega
    refine WC.skip ?_
    refine QF.seqNext ?_
    refine WC.block ?_
    refine WC.region ?_
    refine WL.v (RV.move rfl) rfl ?_
    refine WL.v (RV.add rfl rfl (Fit.i64 (by omega))) rfl ?_
    refine WL.v (RV.assign rfl) rfl ?_
    refine WL.nil ?_
    refine QF.blockNormal ?_
    refine QF.next ((n + 1, w2.drew)) (⟨hlt, hE2.drew⟩) (by dsimp only; omega) ⟨rfl, rfl, rfl, trivial⟩ rfl
  · intro hy
    have heq : n = k := by
      refine Nat.le_antisymm hn (Nat.le_of_not_lt fun hlt => ?_)
      have := hlet n hlt
      simp only [Bool.true_and, Bool.and_eq_false_iff, decide_eq_false_iff_not] at hy
      omega
    subst heq
    refine WC.exit ?_
    refine QF.thenExit ?_
    refine QF.thenExit ?_
    refine QF.blockHit ?_
    refine QF.seqNext ?_
    refine WC.seq ?_
    refine WC.region ?_
    refine WL.v (RV.move rfl) rfl ?_
    refine WL.v (RV.assign rfl) rfl ?_
    refine WL.nil ?_
    refine QF.seqNext ?_
    refine WC.ret ?_
    refine QF.done1 rfl rfl (⟨rfl, hE1.trans hE2.drew⟩)
end Go.Proofs.YtakigpnccppheaaGreatDoor
