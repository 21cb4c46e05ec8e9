/- Packages strings and rule, walked: Trim of blanks, IndexFunc over plain bytes; a rule's side. -/
import Derived.Test.YtmohcfjopaccdaaGreatDoorRuI
namespace Go.VL
/-- An owner's blocks are nobody's. -/
def forget (i : Nat) (O : Nat → Nat) (b : Nat) : Nat := if O b = i then 0 else O b
theorem Rng.forget {B i : Nat} {O : Nat → Nat} {w : World} (h : Rng B O w) : Rng B (forget i O) w := ⟨h.le, fun b hb => by
  unfold VL.forget at hb
  split at hb
  · exact absurd rfl hb
  · exact h.rng b hb⟩
end Go.VL
namespace Go.Proofs.YtmohcfjopaccdaaGreatDoor
open Go.VL Go.Proofs
set_option maxRecDepth 10000

def trimRB (l : List UInt8) : List UInt8 := (l.reverse.dropWhile (· == 32)).reverse
def trimM (l : List UInt8) : List UInt8 := skipB (trimRB l)
theorem trimRB_snoc (l : List UInt8) : trimRB (l ++ [32]) = trimRB l := by simp [trimRB]
theorem trimRB_keep (l : List UInt8) {c : UInt8} (h : c ≠ 32) : trimRB (l ++ [c]) = l ++ [c] := by simp [trimRB, h]
theorem trimLeftByte_ret (l : List UInt8) (w : World) (hl : l.length ≤ 1000000) : Ret Tryz.prog 65 [.string (bs l), .int .u8 32] w fun v w' => v = .string (bs (skipB l)) ∧ w' = w := by
  refine Ret.enter Tryz.func65 Tryz.ntmps65 rfl rfl ?_
  refine WC.seq ?_
  refine WC.region ?_
  refine WL.v (RV.assign rfl) rfl ?_
  refine WL.nil ?_
  refine QF.seqNext ?_
  refine WC.seq ?_
  refine WC.block ?_
  refine WC.loop (fun x : List UInt8 => [(0, .string (bs x)), (1, .int .u8 32)]) (fun x : List UInt8 => w) (fun x : List UInt8 => skipB x = skipB l ∧ x.length ≤ 1000000) (fun x : List UInt8 => x.length) l (⟨rfl, hl⟩) ⟨rfl, rfl, trivial⟩ rfl ?_
  rintro r ⟨hr, hrl⟩
  refine WC.seq ?_
  refine WC.seq ?_
  refine WC.region ?_
  refine WL.v (RV.move rfl) rfl ?_
  refine WL.v (RV.lenS Tryz.underlying9 rfl) rfl ?_
  refine WL.v (RV.gtr rfl rfl) rfl ?_
  refine WL.v (RV.move rfl) rfl ?_
  cases r with
  | nil =>
    refine WL.know (d := 8) rfl (b' := false) (rfl) ?_
    refine WL.off rfl rfl rfl ?_
    refine WL.off rfl rfl rfl ?_
    refine WL.off rfl rfl rfl ?_
    refine WL.off rfl rfl rfl ?_
    refine WL.v (RV.pickF rfl rfl) rfl ?_
    refine WL.nil ?_
    refine QF.seqNext ?_
    refine WC.condF rfl rfl ?_
    refine WC.exit ?_
    refine QF.thenExit ?_
    refine QF.thenExit ?_
    refine QF.blockHit ?_
    refine QF.seqNext ?_
    refine WC.seq ?_
    refine WC.region ?_
    refine WL.v (RV.move rfl) rfl ?_
    refine WL.v (RV.assign rfl) rfl ?_
    refine WL.nil ?_
    refine QF.seqNext ?_
    refine WC.ret ?_
    refine QF.done1 rfl rfl (⟨by rw [← hr]; rfl, rfl⟩)
  | cons b r2 =>
    simp only [List.length_cons] at hrl
    refine WL.know (d := 8) rfl (b' := true) ((decide_eq_true (by simp only [List.length_cons]; omega))) ?_
    refine WL.on rfl ?_
    refine WL.v (RV.move rfl) rfl ?_
    refine WL.on rfl ?_
    refine WL.v (RV.indexS1 (c := b) Tryz.underlying9 rfl rfl 0 rfl rfl) rfl ?_
    refine WL.on rfl ?_
    refine WL.v (RV.move rfl) rfl ?_
    refine WL.on rfl ?_
    refine WL.v (RV.eql rfl rfl) rfl ?_
    refine WL.v (RV.pickT rfl rfl) rfl ?_
    refine WL.nil ?_
    refine QF.seqNext ?_
    refine WC.cond rfl ?_ ?_
    · intro hb
      replace hb : b = 32 := by
        by_cases e : b = 32
        · exact e
        · have := byteBeq b 32 (by decide) e
          exact absurd (this.symm.trans hb) (by decide)
      subst hb
      refine WC.skip ?_
      refine QF.seqNext ?_
      refine WC.block ?_
      refine WC.region ?_
      refine WL.v (RV.move rfl) rfl ?_
      refine WL.v (RV.sliceSlo Tryz.underlying9 rfl rfl 1 rfl (by simp)) rfl ?_
      refine WL.v (RV.assign rfl) rfl ?_
      refine WL.nil ?_
      refine QF.blockNormal ?_
      refine QF.next (r2) (⟨by rw [← hr]; simp [skipB], by omega⟩) (by simp) ⟨rfl, rfl, trivial⟩ rfl
    · intro hb
      replace hb : b ≠ 32 := fun e => by subst e; cases hb
      refine WC.exit ?_
      refine QF.thenExit ?_
      refine QF.thenExit ?_
      refine QF.blockHit ?_
      refine QF.seqNext ?_
      refine WC.seq ?_
      refine WC.region ?_
      refine WL.v (RV.move rfl) rfl ?_
      refine WL.v (RV.assign rfl) rfl ?_
      refine WL.nil ?_
      refine QF.seqNext ?_
      refine WC.ret ?_
      refine QF.done1 rfl rfl (⟨by rw [← hr]; simp [skipB, hb], rfl⟩)
theorem trimRightByte_ret (l : List UInt8) (w : World) (hl : l.length ≤ 1000000) : Ret Tryz.prog 66 [.string (bs l), .int .u8 32] w fun v w' => v = .string (bs (trimRB l)) ∧ w' = w := by
  refine Ret.enter Tryz.func66 Tryz.ntmps66 rfl rfl ?_
  refine WC.seq ?_
  refine WC.region ?_
  refine WL.v (RV.assign rfl) rfl ?_
  refine WL.nil ?_
  refine QF.seqNext ?_
  refine WC.seq ?_
  refine WC.block ?_
  refine WC.loop (fun x : List UInt8 => [(0, .string (bs x)), (1, .int .u8 32)]) (fun x : List UInt8 => w) (fun x : List UInt8 => trimRB x = trimRB l ∧ x.length ≤ 1000000) (fun x : List UInt8 => x.length) l (⟨rfl, hl⟩) ⟨rfl, rfl, trivial⟩ rfl ?_
  rintro r ⟨hr, hrl⟩
  refine WC.seq ?_
  refine WC.seq ?_
  refine WC.region ?_
  refine WL.v (RV.move rfl) rfl ?_
  refine WL.v (RV.lenS Tryz.underlying9 rfl) rfl ?_
  refine WL.v (RV.gtr rfl rfl) rfl ?_
  refine WL.v (RV.move rfl) rfl ?_
  rcases List.eq_nil_or_concat r with rfl | ⟨r2, b, rfl⟩
  · skip
    refine WL.know (d := 8) rfl (b' := false) (rfl) ?_
    refine WL.off rfl rfl rfl ?_
    refine WL.off rfl rfl rfl ?_
    refine WL.off rfl rfl rfl ?_
    refine WL.off rfl rfl rfl ?_
    refine WL.off rfl rfl rfl ?_
    refine WL.off rfl rfl rfl ?_
    refine WL.off rfl rfl rfl ?_
    refine WL.v (RV.pickF rfl rfl) rfl ?_
    refine WL.nil ?_
    refine QF.seqNext ?_
    refine WC.condF rfl rfl ?_
    refine WC.exit ?_
    refine QF.thenExit ?_
    refine QF.thenExit ?_
    refine QF.blockHit ?_
    refine QF.seqNext ?_
    refine WC.seq ?_
    refine WC.region ?_
    refine WL.v (RV.move rfl) rfl ?_
    refine WL.v (RV.assign rfl) rfl ?_
    refine WL.nil ?_
    refine QF.seqNext ?_
    refine WC.ret ?_
    refine QF.done1 rfl rfl (⟨by rw [← hr]; rfl, rfl⟩)
  · rw [List.concat_eq_append] at *
    have hlen : (r2 ++ [b]).length = r2.length + 1 := by simp
    rw [hlen] at hrl
    refine WL.know (d := 8) rfl (b' := true) ((decide_eq_true (by rw [hlen]; omega))) ?_
    refine WL.on rfl ?_
    refine WL.v (RV.move rfl) rfl ?_
    refine WL.on rfl ?_
    refine WL.v (RV.move rfl) rfl ?_
    refine WL.on rfl ?_
    refine WL.v (RV.lenS Tryz.underlying9 rfl) rfl ?_
    refine WL.on rfl ?_
    refine WL.v (RV.sub rfl rfl (Fit.i64 (by rw [hlen]; omega))) rfl ?_
    refine WL.on rfl ?_
    refine WL.v (RV.indexS1 (c := b) Tryz.underlying9 rfl rfl r2.length (by rw [hlen]; omega) (by simp)) rfl ?_
    refine WL.on rfl ?_
    refine WL.v (RV.move rfl) rfl ?_
    refine WL.on rfl ?_
    refine WL.v (RV.eql rfl rfl) rfl ?_
    refine WL.v (RV.pickT rfl rfl) rfl ?_
    refine WL.nil ?_
    refine QF.seqNext ?_
    refine WC.cond rfl ?_ ?_
    · intro hb
      replace hb : b = 32 := by
        by_cases e : b = 32
        · exact e
        · have := byteBeq b 32 (by decide) e
          exact absurd (this.symm.trans hb) (by decide)
      subst hb
      refine WC.skip ?_
      refine QF.seqNext ?_
      refine WC.block ?_
      refine WC.region ?_
      refine WL.v (RV.move rfl) rfl ?_
      refine WL.v (RV.move rfl) rfl ?_
      refine WL.v (RV.lenS Tryz.underlying9 rfl) rfl ?_
      refine WL.v (RV.sub rfl rfl (Fit.i64 (by rw [hlen]; omega))) rfl ?_
      refine WL.v (RV.sliceShi Tryz.underlying9 rfl rfl r2.length (by rw [hlen]; omega) (by simp)) rfl ?_
      refine WL.v (RV.assign rfl) rfl ?_
      refine WL.nil ?_
      refine QF.blockNormal ?_
      rw [List.take_left]
      refine QF.next (r2) (⟨by rw [← hr, trimRB_snoc], by omega⟩) (by simp) ⟨rfl, rfl, trivial⟩ rfl
    · intro hb
      replace hb : b ≠ 32 := fun e => by subst e; cases hb
      refine WC.exit ?_
      refine QF.thenExit ?_
      refine QF.thenExit ?_
      refine QF.blockHit ?_
      refine QF.seqNext ?_
      refine WC.seq ?_
      refine WC.region ?_
      refine WL.v (RV.move rfl) rfl ?_
      refine WL.v (RV.assign rfl) rfl ?_
      refine WL.nil ?_
      refine QF.seqNext ?_
      refine WC.ret ?_
      refine QF.done1 rfl rfl (⟨by rw [← hr, trimRB_keep _ hb], rfl⟩)
theorem trimRB_le (l : List UInt8) : (trimRB l).length ≤ l.length := by
  have := (List.dropWhile_suffix (l := l.reverse) (· == (32 : UInt8))).length_le
  simpa [trimRB] using this
theorem trim_ret (l : List UInt8) (w : World) (hl : l.length ≤ 1000000) : Ret Tryz.prog 44 [.string (bs l), .string (bs [32])] w fun v w' => v = .string (bs (trimM l)) ∧ Ext w w' := by
  have hle := trimRB_le l
  refine Ret.enter Tryz.func44 Tryz.ntmps44 rfl rfl ?_
  refine WC.seq ?_
  refine WC.region ?_
  refine WL.v (RV.assign rfl) rfl ?_
  refine WL.nil ?_
  refine QF.seqNext ?_
  refine WC.seq ?_
  refine WC.seq ?_
  refine WC.region ?_
  refine WL.v (RV.move rfl) rfl ?_
  refine WL.v (RV.eqlS rfl rfl) rfl ?_
  refine WL.v (RV.move rfl) rfl ?_
  by_cases h0 : l = []
  · subst h0
    refine WL.know (d := 9) rfl (b' := true) (rfl) ?_
    refine WL.off rfl rfl rfl ?_
    refine WL.off rfl rfl rfl ?_
    refine WL.v (RV.pickT rfl rfl) rfl ?_
    refine WL.nil ?_
    refine QF.seqNext ?_
    refine WC.condT rfl rfl ?_
    refine WC.seq ?_
    refine WC.region ?_
    refine WL.v (RV.move rfl) rfl ?_
    refine WL.v (RV.assign rfl) rfl ?_
    refine WL.nil ?_
    refine QF.seqNext ?_
    refine WC.ret ?_
    refine QF.thenRet ?_
    refine QF.done1 rfl rfl (⟨rfl, Ext.refl _⟩)
  · skip
    refine WL.know (d := 9) rfl (b' := false) ((by simpa using h0)) ?_
    refine WL.on rfl ?_
    refine WL.v (RV.move rfl) rfl ?_
    refine WL.on rfl ?_
    refine WL.v (RV.eqlS rfl rfl) rfl ?_
    refine WL.v (RV.pickF rfl rfl) rfl ?_
    refine WL.nil ?_
    refine QF.seqNext ?_
    refine WC.condF rfl (rfl) ?_
    refine WC.skip ?_
    refine QF.seqNext ?_
    refine WC.seq ?_
    refine WC.seq ?_
    refine WC.region ?_
    refine WL.v (RV.move rfl) rfl ?_
    refine WL.v (RV.lenS Tryz.underlying9 rfl) rfl ?_
    refine WL.v (RV.eql rfl rfl) rfl ?_
    refine WL.v (RV.move rfl) rfl ?_
    refine WL.know (d := 17) rfl (b' := true) (rfl) ?_
    refine WL.on rfl ?_
    refine WL.v (RV.move rfl) rfl ?_
    refine WL.on rfl ?_
    refine WL.v (RV.indexS1 (c := 32) Tryz.underlying9 rfl rfl 0 rfl rfl) rfl ?_
    refine WL.on rfl ?_
    refine WL.v (RV.lss rfl rfl) rfl ?_
    refine WL.v (RV.pickT rfl rfl) rfl ?_
    refine WL.nil ?_
    refine QF.seqNext ?_
    refine WC.condT rfl (rfl) ?_
    refine WC.seq ?_
    refine WC.still (by kernel_rfl) (by kernel_rfl) ?_
    refine WS.v (RV.move rfl) rfl ?_
    refine WS.v (RV.move rfl) rfl ?_
    refine WS.v (RV.indexS1 (c := 32) Tryz.underlying9 rfl rfl 0 rfl rfl) rfl ?_
    refine WS.call Tryz.call66 rfl (trimRightByte_ret l w.drew hl) rfl ?_
    refine WS.v (RV.move rfl) rfl ?_
    refine WS.v (RV.indexS1 (c := 32) Tryz.underlying9 rfl rfl 0 rfl rfl) rfl ?_
    refine WS.call Tryz.call65 rfl (trimLeftByte_ret (trimRB l) w.drew (by omega)) rfl ?_
    refine WS.v (RV.assign rfl) rfl ?_
    refine WS.nil ?_
    refine QF.seqNext ?_
    refine WC.ret ?_
    refine QF.thenRet ?_
    refine QF.done1 rfl rfl (⟨rfl, (Ext.refl w).drew⟩)
/-- Is a byte a rule's sign? -/
def sgnB (c : UInt8) : Bool := decide (c = 33) || decide (c = 47)
theorem idx_sgn (c : UInt8) : decide (0 ≤ idxB [33, 47] c) = sgnB c := by
  unfold idxB sgnB
  by_cases h1 : c = 33
  · subst h1; rfl
  · by_cases h2 : c = 47
    · subst h2; rfl
    · have : [(33 : UInt8), 47].findIdx? (· == c) = none := by
        rw [List.findIdx?_eq_none_iff]
        intro x hx
        simp at hx
        rcases hx with rfl | rfl <;> simp <;> intro e <;> first | exact h1 e.symm | exact h2 e.symm
      rw [this]; simp [h1, h2]
theorem indexRune_ret (c : UInt8) (w : World) (hc : c.toNat < 128) : Ret Tryz.prog 89 [.string (bs [33, 47]), .int .i32 (c.toNat : Int)] w fun v w' => v = .int .i64 (idxB [33, 47] c) ∧ w' = w := by
  refine Ret.enter Tryz.func89 Tryz.ntmps89 rfl rfl ?_
  refine WC.seq ?_
  refine WC.region ?_
  refine WL.v (RV.assign rfl) rfl ?_
  refine WL.nil ?_
  refine QF.seqNext ?_
  refine WC.block ?_
  refine WC.seq ?_
  refine WC.region ?_
  refine WL.v (RV.move rfl) rfl ?_
  refine WL.v (RV.leq rfl rfl) rfl ?_
  refine WL.v (RV.move rfl) rfl ?_
  refine WL.know (d := 163) rfl (b' := true) ((decide_eq_true (by omega))) ?_
  refine WL.on rfl ?_
  refine WL.v (RV.move rfl) rfl ?_
  refine WL.on rfl ?_
  refine WL.v (RV.lss rfl rfl) rfl ?_
  refine WL.v (RV.pickT rfl rfl) rfl ?_
  refine WL.v (RV.assign rfl) rfl ?_
  refine WL.nil ?_
  refine QF.seqNext ?_
  refine WC.condT rfl ((decide_eq_true (by omega))) ?_
  refine WC.seq ?_
  refine WC.region ?_
  refine WL.v (RV.move rfl) rfl ?_
  refine WL.v (RV.move rfl) rfl ?_
  refine WL.v (RV.conv Tryz.underlying21 Tryz.underlying5 rfl (Fit.u8 (by omega))) rfl ?_
  refine WL.call Tryz.call18 rfl (indexByte_ret [33, 47] c w) rfl ?_
  rintro v w9 ⟨rfl, hw9⟩
  rw [hw9]
  clear hw9 w9
  refine WL.v (RV.assign rfl) rfl ?_
  refine WL.nil ?_
  refine QF.seqNext ?_
  refine WC.ret ?_
  refine QF.blockRet ?_
  refine QF.done1 rfl rfl (⟨rfl, rfl⟩)
theorem containsRune_ret (c : UInt8) (w : World) (hc : c.toNat < 128) : Ret Tryz.prog 62 [.string (bs [33, 47]), .int .i32 (c.toNat : Int)] w fun v w' => v = .bool (sgnB c) ∧ w' = w := by
  refine Ret.enter Tryz.func62 Tryz.ntmps62 rfl rfl ?_
  refine WC.seq ?_
  refine WC.region ?_
  refine WL.v (RV.assign rfl) rfl ?_
  refine WL.nil ?_
  refine QF.seqNext ?_
  refine WC.seq ?_
  refine WC.region ?_
  refine WL.v (RV.move rfl) rfl ?_
  refine WL.v (RV.move rfl) rfl ?_
  refine WL.call Tryz.call89 rfl (indexRune_ret c w hc) rfl ?_
  rintro v w9 ⟨rfl, hw9⟩
  rw [hw9]
  clear hw9 w9
  refine WL.v (RV.geq rfl rfl) rfl ?_
  refine WL.v (RV.assign rfl) rfl ?_
  refine WL.nil ?_
  refine QF.seqNext ?_
  refine WC.ret ?_
  refine QF.done1 rfl rfl (⟨congrArg Value.bool (idx_sgn c), rfl⟩)
theorem rule1_ret (c : UInt8) (w : World) (hc : c.toNat < 128) : Ret Tryz.prog 61 [.int .i32 (c.toNat : Int)] w fun v w' => v = .bool (sgnB c) ∧ w' = w := by
  refine Ret.enter Tryz.func61 Tryz.ntmps61 rfl rfl ?_
  refine WC.seq ?_
  refine WC.region ?_
  refine WL.v (RV.assign rfl) rfl ?_
  refine WL.nil ?_
  refine QF.seqNext ?_
  refine WC.seq ?_
  refine WC.region ?_
  refine WL.v (RV.move rfl) rfl ?_
  refine WL.call Tryz.call62 rfl (containsRune_ret c w hc) rfl ?_
  rintro v w9 ⟨rfl, hw9⟩
  rw [hw9]
  clear hw9 w9
  refine WL.v (RV.assign rfl) rfl ?_
  refine WL.nil ?_
  refine QF.seqNext ?_
  refine WC.ret ?_
  refine QF.done1 rfl rfl (⟨rfl, rfl⟩)
def sgnIdx (l : List UInt8) : Int := match l.findIdx? sgnB with | some i => (i : Nat) | none => -1
def asciiL (l : List UInt8) : Prop := ∀ c ∈ l, c.toNat < 128
theorem indexFunc_ret (l : List UInt8) (w : World) : Ret Tryz.prog 88 [.string (bs l), .func (.func 61) #[] #[], .bool true] w fun v w' => v = .int .i64 (sgnIdx l) ∧ Ext w w' := by
  have hU0 : Upd (fun k => k = 1) (fun _ => 0) w (own1 (fun _ => 0) w.heap.size 1) (w.iter (bs l) 0) := Upd.alloc (by decide) (Rng.start w) _ 1
  have hO : own1 (fun _ => 0) w.heap.size 1 w.heap.size = 1 := own1_at _ _ _
  refine Ret.enter Tryz.func88 Tryz.ntmps88 rfl rfl ?_
  refine WC.seq ?_
  refine WC.region ?_
  refine WL.v (RV.assign rfl) rfl ?_
  refine WL.nil ?_
  refine QF.seqNext ?_
  refine WC.seq ?_
  refine WC.seq ?_
  refine WC.region ?_
  refine WL.v (RV.move rfl) rfl ?_
  refine WL.rangeS Tryz.underlying9 rfl rfl ?_
  refine WL.nil ?_
  refine QF.seqNext ?_
  refine WC.block ?_
  refine WC.loop (fun x : Nat × World => [(1, .func (.func 61) #[] #[]), (2, .bool true), (10, .pointer (some ⟨w.heap.size, 0, none⟩))]) (fun x : Nat × World => x.2) (fun x : Nat × World => (∀ i, i < x.1 → i < l.length → sgnB (nth l i) = false) ∧ x.2.heap[w.heap.size]? = some (.stringIter (bs l) x.1) ∧ Upd (fun k => k = 1) (fun _ => 0) w (own1 (fun _ => 0) w.heap.size 1) x.2) (fun x : Nat × World => l.length - x.1) (0, w.iter (bs l) 0) (⟨fun i hi => absurd hi (Nat.not_lt_zero i), World.iter_heap w (bs l) 0, hU0⟩) ⟨rfl, rfl, rfl, trivial⟩ rfl ?_
  rintro ⟨k, w1⟩ ⟨hno, hit, hU1⟩
  dsimp only at hno hit hU1 ⊢
  refine WC.seq ?_
  refine WC.region ?_
  by_cases hlt : k < l.length
  · skip
    by_cases hck : (nth l k).toNat < 128
    · skip
      refine WL.nextAt rfl hit hlt (decode_lo hlt hck) rfl ?_
      have hU2 := hU1.trans (Upd.putObj (by decide) hO (w := w1) (.stringIter (bs l) (k + 1)))
      have hit2 : (w1.putObj w.heap.size (.stringIter (bs l) (k + 1))).heap[w.heap.size]? = some (.stringIter (bs l) (k + 1)) := World.putObj_heap_same (heap_lt hit)
      generalize w1.putObj w.heap.size (.stringIter (bs l) (k + 1)) = w2 at *
      refine WL.v (RV.extract rfl rfl) rfl ?_
      refine WL.nil ?_
      refine QF.seqNext ?_
      refine WC.seq ?_
      refine WC.condT rfl (rfl) ?_
      refine WC.skip ?_
      refine QF.seqNext ?_
      refine WC.block ?_
      refine WC.seq ?_
      refine WC.region ?_
      refine WL.v (RV.extract rfl rfl) rfl ?_
      refine WL.v (RV.extract rfl rfl) rfl ?_
      refine WL.v (RV.assign rfl) rfl ?_
      refine WL.v (RV.assign rfl) rfl ?_
      refine WL.nil ?_
      refine QF.seqNext ?_
      refine WC.seq ?_
      refine WC.region ?_
      refine WL.v (RV.move rfl) rfl ?_
      refine WL.v (RV.move rfl) rfl ?_
      refine WL.callV rfl Tryz.call61 rfl (rule1_ret (nth l k) w2 hck) rfl ?_
      rintro v w9 ⟨rfl, hw9⟩
      rw [hw9]
      clear hw9 w9
      refine WL.v (RV.move rfl) rfl ?_
      refine WL.v (RV.eqlB Tryz.underlying4 rfl rfl) rfl ?_
      refine WL.nil ?_
      refine QF.seqNext ?_
      cases hs : sgnB (nth l k) with
      | true =>
        refine WC.condT rfl (rfl) ?_
        refine WC.seq ?_
        refine WC.region ?_
        refine WL.v (RV.move rfl) rfl ?_
        refine WL.v (RV.assign rfl) rfl ?_
        refine WL.nil ?_
        refine QF.seqNext ?_
        refine WC.ret ?_
        refine QF.blockRet ?_
        refine QF.thenRet ?_
        refine QF.blockRet ?_
        refine QF.thenRet ?_
        have hf : l.findIdx? sgnB = some k := List.findIdx?_eq_some_iff_getElem.2 ⟨hlt, by rw [← nth_eq hlt, hs], fun j hj => by rw [← nth_eq (by omega), hno j hj (by omega)]; decide⟩
        refine QF.done1 rfl rfl (⟨by unfold sgnIdx; rw [hf]; rfl, hU2.ext⟩)
      | false =>
        refine WC.condF rfl (rfl) ?_
        refine WC.skip ?_
        refine QF.blockNormal ?_
        refine QF.next ((k + 1, w2)) (⟨fun i hi hl => (Nat.lt_succ_iff_lt_or_eq.1 hi).elim (fun h => hno i h hl) (fun e => by rw [e]; exact hs), hit2, hU2⟩) (by dsimp only; omega) ⟨rfl, rfl, rfl, trivial⟩ rfl
    · obtain ⟨c, n, hdc, hc1, hc2, hn1, hn2, hn3⟩ := decode_hi hlt (by omega)
      refine WL.nextAt rfl hit hlt hdc rfl ?_
      have hU2 := hU1.trans (Upd.putObj (by decide) hO (w := w1) (.stringIter (bs l) (k + n)))
      have hit2 : (w1.putObj w.heap.size (.stringIter (bs l) (k + n))).heap[w.heap.size]? = some (.stringIter (bs l) (k + n)) := World.putObj_heap_same (heap_lt hit)
      generalize w1.putObj w.heap.size (.stringIter (bs l) (k + n)) = w2 at *
      refine WL.v (RV.extract rfl rfl) rfl ?_
      refine WL.nil ?_
      refine QF.seqNext ?_
      refine WC.seq ?_
      refine WC.condT rfl (rfl) ?_
      refine WC.skip ?_
      refine QF.seqNext ?_
      refine WC.block ?_
      refine WC.seq ?_
      refine WC.region ?_
      refine WL.v (RV.extract rfl rfl) rfl ?_
      refine WL.v (RV.extract rfl rfl) rfl ?_
      refine WL.v (RV.assign rfl) rfl ?_
      refine WL.v (RV.assign rfl) rfl ?_
      refine WL.nil ?_
      refine QF.seqNext ?_
      refine WC.seq ?_
      refine WC.region ?_
      refine WL.v (RV.move rfl) rfl ?_
      refine WL.v (RV.move rfl) rfl ?_
      refine WL.callV rfl Tryz.call61 rfl (rule1Hi_ret c w2 hc1 hc2) rfl ?_
      rintro v w3 ⟨rfl, hE3⟩
      refine WL.v (RV.move rfl) rfl ?_
      refine WL.v (RV.eqlB Tryz.underlying4 rfl rfl) rfl ?_
      refine WL.nil ?_
      refine QF.seqNext ?_
      refine WC.condF rfl (rfl) ?_
      refine WC.skip ?_
      refine QF.blockNormal ?_
      refine QF.next ((k + n, w3)) (⟨fun i hi hl => ?_, (hE3.block _ (heap_lt hit2)).trans hit2, hU2.trans (Upd.of_ext (by decide) _ hE3)⟩) (by dsimp only; omega) ⟨rfl, rfl, rfl, trivial⟩ rfl
      by_cases e : i < k
      · exact hno i e hl
      · have := hn3 i (by omega) hi
        unfold sgnB
        rw [decide_eq_false (fun e => by rw [e] at this; exact absurd this (by decide)), decide_eq_false (fun e => by rw [e] at this; exact absurd this (by decide))]
        rfl
  · skip
    refine WL.nextOver rfl hit (by omega) rfl ?_
    refine WL.v (RV.extract rfl rfl) rfl ?_
    refine WL.nil ?_
    refine QF.seqNext ?_
    refine WC.seq ?_
    refine WC.condF rfl (rfl) ?_
    refine WC.exit ?_
    refine QF.thenExit ?_
    refine QF.thenExit ?_
    refine QF.blockHit ?_
    refine QF.seqNext ?_
    refine WC.seq ?_
    refine WC.region ?_
    refine WL.v (RV.assign rfl) rfl ?_
    refine WL.nil ?_
    refine QF.seqNext ?_
    refine WC.ret ?_
    have hf : l.findIdx? sgnB = none := List.findIdx?_eq_none_iff.2 fun x hx => by
      obtain ⟨j, hj, rfl⟩ := mem_nth hx
      exact hno j (by omega) hj
    refine QF.done1 rfl rfl (⟨by unfold sgnIdx; rw [hf], hU1.ext⟩)
theorem indexFuncTop_ret (l : List UInt8) (w : World) : Ret Tryz.prog 60 [.string (bs l), .func (.func 61) #[] #[]] w fun v w' => v = .int .i64 (sgnIdx l) ∧ Ext w w' := by
  refine Ret.enter Tryz.func60 Tryz.ntmps60 rfl rfl ?_
  refine WC.seq ?_
  refine WC.region ?_
  refine WL.v (RV.assign rfl) rfl ?_
  refine WL.nil ?_
  refine QF.seqNext ?_
  refine WC.seq ?_
  refine WC.region ?_
  refine WL.v (RV.move rfl) rfl ?_
  refine WL.v (RV.move rfl) rfl ?_
  refine WL.call Tryz.call88 rfl (indexFunc_ret l w) rfl ?_
  rintro v w1 ⟨rfl, hE⟩
  refine WL.v (RV.assign rfl) rfl ?_
  refine WL.nil ?_
  refine QF.seqNext ?_
  refine WC.ret ?_
  refine QF.done1 rfl rfl (⟨rfl, hE⟩)
def sideM (seg : List UInt8) : XR := if trimM seg = [] then .ok (.mk 9 0 []) else exprM seg
def sideK (kn : Kn) (seg : List UInt8) : XR := if trimM seg = [] then .ok (.mk 9 0 []) else exprK kn seg
theorem sideK_nil (seg : List UInt8) : sideK [] seg = sideM seg := by unfold sideK sideM; rw [exprK_nil]
variable {kn : Kn}
def PostS (O : Nat → Nat) (w : World) (j rb : Nat) (s : LS) (fr : Nat) (x : N3) : XR → Prop
  | .ok t => Nt O w t x ∧ Rd6 O w j rb s
  | .bad p e => x = (0, 0, .slice none 0 0) ∧ e ≠ 0 ∧ Rd6 O w j rb {s with bad := (fr : Int) + (p : Int), e := e}
theorem exprK_ne (l : List UInt8) (p : Nat) (e : Int) (h : exprK kn l = .bad p e) : e ≠ 0 ∧ p ≤ l.length := by
  have hg := altsK_good (kn := kn) 20 l
  unfold exprK at h
  split at h
  · cases h; exact ⟨by decide, Nat.zero_le _⟩
  · cases hf : altsK kn 20 l with
    | bad q f =>
      rw [hf] at h hg
      cases h
      exact ⟨hg.2, by omega⟩
    | ok t r =>
      rw [hf] at h
      dsimp only at h
      split at h
      · cases h; exact ⟨by decide, by omega⟩
      · split at h
        · cases h; exact ⟨by decide, Nat.zero_le _⟩
        · cases h
theorem exprM_ne (l : List UInt8) (p : Nat) (e : Int) (h : exprM l = .bad p e) : e ≠ 0 ∧ p ≤ l.length := exprK_ne (kn := []) l p e (by rw [exprK_nil]; exact h)
theorem RowT.freeIn {α : Type} {enc : α → List Value} {E : TypeId} {sz : Nat} {B : Nat} {O : Nat → Nat} {w : World} {i : Nat} {v : Value} {l : List α} (h : RowT enc E sz O w i v l) (hi : i ≠ 0) (r : Rng B O w) : Free (forget i O) w v := fun a n c e _ => by
  have h1 := h.1.tag a.block (by subst e; rfl)
  have h2 := r.rng a.block (by rw [h1]; exact hi)
  exact ⟨by unfold forget; rw [if_pos h1], h2.2⟩
/-- Names that are known, in a row of an owner's. -/
def Mac (O : Nat → Nat) (w : World) (i : Nat) (v : Value) (kn : Kn) : Prop :=
  ∃ ms : List M3, RowT encM 95 4 O w i v ms ∧ kn.length = ms.length ∧ ∀ q, q < ms.length → (nth kn q).1 = (nth ms q).1 ∧ Nt O w (nth kn q).2 (nth ms q).2
theorem Mac.upd {S : Nat → Prop} {O O' : Nat → Nat} {w w' : World} {i : Nat} {v : Value} (h : Mac O w i v kn) (u : Upd S O w O' w') (hi : i ≠ 0) (hS : ¬ S i) : Mac O' w' i v kn := by
  obtain ⟨ms, h1, h2, h3⟩ := h
  exact ⟨ms, h1.upd u hi hS, h2, fun q hq => ⟨(h3 q hq).1, (h3 q hq).2.upd u⟩⟩
theorem Mac.known {B : Nat} {O : Nat → Nat} {w : World} {i : Nat} {v : Value} (h : Mac O w i v kn) (hi : i ≠ 0) (r : Rng B O w) : Known (forget i O) w v kn := by
  obtain ⟨ms, h1, h2, h3⟩ := h
  exact ⟨ms, h1.sl, RowT.freeIn h1 hi r, h2, fun q hq => ⟨(h3 q hq).1, (h3 q hq).2.weak fun b hb => by unfold forget; rw [hb]; split <;> rfl⟩⟩
theorem Mac.nil (O : Nat → Nat) (w : World) (i : Nat) : Mac O w i (.slice none 0 0) [] := ⟨[], RowT.nil _ _ _ _ _ _, rfl, fun q hq => absurd hq (by simp)⟩
theorem Mac.one {O : Nat → Nat} {w : World} {i : Nat} {v : Value} (h : Mac O w i v kn) : v.oneCell' = true := by
  obtain ⟨ms, h1, _⟩ := h; exact h1.one
theorem side_ret (B : Nat) (O : Nat → Nat) (w : World) (j rb : Nat) (s : LS) (fr to : Nat) (hR : Rng B O w) (hj : j ≠ 0) (he : s.e = 0) {jm : Nat} (hjm : jm ≠ 0) (hjjm : j ≠ jm) (hkn : Mac O w jm s.mc kn) (hft : fr ≤ to) (htl : to ≤ s.l.length) (hl : s.l.length ≤ 100000) (h : Rd6 O w j rb s) :
    Ret Tryz.prog 63 [.pointer (some ⟨rb, 0, none⟩), .int .i64 fr, .int .i64 to] w fun v w' => ∃ x, v = nv x ∧ Upd (fun k => k = j) O w O w' ∧ PostS O w' j rb s fr x (sideK kn ((s.l.take to).drop fr)) := by
  obtain ⟨T0, hT00, hT01⟩ := hR.bound
  obtain ⟨T, hT0, hjmT, hT⟩ : ∃ T, 0 < T ∧ jm < T ∧ ∀ b, O b < T := ⟨T0 + jm + 1, by omega, by omega, fun b => by have := hT01 b; omega⟩
  clear hT00 hT01 T0
  have hjT : j < T := by rw [← h.tag]; exact hT rb
  have hsl : ((s.l.take to).drop fr).length = to - fr := by simp; omega
  refine Ret.enter Tryz.func63 Tryz.ntmps63 rfl rfl ?_
  refine WC.seq ?_
  refine WC.region ?_
  refine WL.allocO hR T (by omega) (Tryz.zeroValue48 _) rfl ?_
  intro xb w1 O1 hx1 hU1 hR1 hE1
  have hb1 := h.upd hU1 hj (by omega)
  have hUt1 := hU1.pT hj hT0 (Nat.le_refl _)
  refine WL.nil ?_
  refine QF.seqNext ?_
  refine WC.seq ?_
  refine WC.region ?_
  refine WL.v (RV.move rfl) rfl ?_
  refine WL.v (RV.nilPtr rfl) rfl ?_
  refine WL.v (RV.fieldAddr 0 Tryz.underlying56 rfl rfl (Tryz.sizeOf53 _) (by decide) rfl) rfl ?_
  refine WL.v (RV.fieldAddr 0 Tryz.underlying53 rfl rfl (Tryz.sizeOf9 _) (by decide) rfl) rfl ?_
  refine WL.v (RV.load (by first | exact hb1.q0 | exact hb1.q1 | exact hb1.q2 | exact hb1.q3 | exact hb1.q4 | exact hb1.q5 | exact hb1.q6 | exact hb1.q7 | exact hb1.q8 | exact hb1.q9 | exact hb1.q10 | exact hb1.q11) (Tryz.isAgg9 _) rfl) rfl ?_
  refine WL.v (RV.move rfl) rfl ?_
  refine WL.v (RV.move rfl) rfl ?_
  refine WL.v (RV.sliceS Tryz.underlying9 rfl rfl rfl fr to rfl rfl hft htl) rfl ?_
  refine WL.v (RV.assign rfl) rfl ?_
  refine WL.nil ?_
  refine QF.seqNext ?_
  refine WC.seq ?_
  refine WC.seq ?_
  refine WC.region ?_
  refine WL.v (RV.move rfl) rfl ?_
  refine WL.call Tryz.call44 rfl (trim_ret ((s.l.take to).drop fr) w1 (by omega)) rfl ?_
  rintro v w2 ⟨rfl, hE2⟩
  have hX2 : Upd (fun _ => False) O1 w1 O1 w2 := Upd.of_ext (fun h => h) O1 hE2
  have hx2 := hx1.upd hX2 (by omega) (fun h => h)
  have hb2 := hb1.upd hX2 hj (fun h => h)
  have hR2 := hR1.upd hX2
  have hUt2 := hUt1.trans (Upd.pE O1 hE2 hj hT0)
  refine WL.v (RV.eqlS rfl rfl) rfl ?_
  refine WL.nil ?_
  refine QF.seqNext ?_
  by_cases htr : trimM ((s.l.take to).drop fr) = []
  · have hM : sideK kn ((s.l.take to).drop fr) = .ok (.mk 9 0 []) := by unfold sideK; rw [if_pos htr]
    rw [hM]
    refine WC.condT rfl ((by rw [htr]; rfl)) ?_
    have hxo : ((9, 0, .slice none 0 0) : N3).2.2.oneCell' = true := rfl
    refine WC.seq ?_
    refine WC.region ?_
    refine WL.v (RV.buildF pl48 (Tryz.zeroValue48 _) rfl (by first | rfl | (simp only [List.all_cons, List.all_nil]; rfl)) rfl rfl) rfl ?_
    refine WL.storeAgg (us := #[.int .i64 ((9, 0, .slice none 0 0) : N3).1, .int .i64 ((9, 0, .slice none 0 0) : N3).2.1, ((9, 0, .slice none 0 0) : N3).2.2]) hx2 rfl (Tryz.sizeOf48 _) (nv_ok hxo) rfl rfl rfl ?_
    have hxd := BlkO.setRow (us := #[.int .i64 ((9, 0, .slice none 0 0) : N3).1, .int .i64 ((9, 0, .slice none 0 0) : N3).2.1, ((9, 0, .slice none 0 0) : N3).2.2]) hx2
    have hUd : Upd (fun k => k = T) O1 w2 O1 (World.setRow w2 xb #[.int .i64 ((9, 0, .slice none 0 0) : N3).1, .int .i64 ((9, 0, .slice none 0 0) : N3).2.1, ((9, 0, .slice none 0 0) : N3).2.2]) := Upd.setRow (by omega) (BlkO.tag hx2) rfl
    have hbd := hb2.upd hUd hj (by omega)
    have hUz := hUt2.trans (hUd.pT hj hT0 (Nat.le_refl _))
    refine WL.nil ?_
    refine QF.seqNext ?_
    refine WC.ret ?_
    refine QF.thenRet ?_
    refine QF.doneC1 rfl rfl (hxd.cellsAdd) (Tryz.isAgg48 _) (Tryz.sizeOf48 _) (⟨(9, 0, .slice none 0 0), rfl, hUz.priv hT hj, Nt.leaf _ _ _ _, hbd.fgt h.tag⟩)
  · have hM : sideK kn ((s.l.take to).drop fr) = exprK kn ((s.l.take to).drop fr) := by unfold sideK; rw [if_neg htr]
    rw [hM]
    refine WC.condF rfl ((by simpa using htr)) ?_
    refine WC.skip ?_
    refine QF.seqNext ?_
    refine WC.seq ?_
    refine WC.region ?_
    refine WL.v (RV.move rfl) rfl ?_
    refine WL.v (RV.move rfl) rfl ?_
    refine WL.v (RV.nilPtr rfl) rfl ?_
    refine WL.v (RV.fieldAddr 9 Tryz.underlying56 rfl rfl (Tryz.sizeOf54 _) (by decide) rfl) rfl ?_
    refine WL.v (RV.load (by first | exact hb2.q0 | exact hb2.q9) (Tryz.isAgg54 _) rfl) rfl ?_
    have hkn2 := hkn.upd hUt2 hjm (by omega)
    refine WL.call Tryz.call56 rfl (parse2_ret s.mc ((s.l.take to).drop fr) B O1 (forget jm O1) w2 hR2 hR2.forget (hkn2.known hjm hR2)) rfl ?_
    rintro v w3 ⟨hE3, hP3⟩
    have hX3 : Upd (fun _ => False) O1 w2 O1 w3 := Upd.of_ext (fun h => h) O1 hE3
    have hx3 := hx2.upd hX3 (by omega) (fun h => h)
    have hb3 := hb2.upd hX3 hj (fun h => h)
    have hR3 := hR2.upd hX3
    have hUt3 := hUt2.trans (Upd.pE O1 hE3 hj hT0)
    cases hf : exprK kn ((s.l.take to).drop fr) with
    | ok t =>
      rw [hf] at hP3
      obtain ⟨x, rfl, hnt⟩ := hP3
      have hxo := hnt.one
      refine WL.v (RV.move rfl) rfl ?_
      refine WL.v (RV.extract rfl rfl) rfl ?_
      refine WL.v (RV.extract rfl rfl) rfl ?_
      refine WL.v (RV.extract rfl rfl) rfl ?_
      refine WL.allocO hR3 (T + 1) (by omega) (Tryz.zeroValue48 _) rfl ?_
      intro nb w4 O4 hn4 hU4 hR4 hE4
      refine WL.storeAgg (us := #[.int .i64 x.1, .int .i64 x.2.1, x.2.2]) hn4 rfl (Tryz.sizeOf48 _) (nv_ok hxo) rfl rfl rfl ?_
      have hn5 := hn4.setRow (us := #[.int .i64 x.1, .int .i64 x.2.1, x.2.2])
      have hU5 : Upd (fun k => k = T + 1) O4 w4 O4 (w4.setRow nb #[.int .i64 x.1, .int .i64 x.2.1, x.2.2]) := Upd.setRow (by omega) hn4.tag rfl
      have hU45 := hU4.trans hU5
      have hx5 := hx3.upd hU45 (by omega) (by omega)
      have hb5 := hb3.upd hU45 hj (by omega)
      have hUt5 := hUt3.trans (hU45.pT hj hT0 (Nat.le_succ _))
      have hnt5 := hnt.upd hU45
      generalize w4.setRow nb #[.int .i64 x.1, .int .i64 x.2.1, x.2.2] = w5 at *
      refine WL.v (RV.assign rfl) rfl ?_
      refine WL.v (RV.assign rfl) rfl ?_
      refine WL.nil ?_
      refine QF.seqNext ?_
      refine WC.seq ?_
      refine WC.seq ?_
      refine WC.region ?_
      refine WL.v (RV.move rfl) rfl ?_
      refine WL.v (RV.neq rfl rfl) rfl ?_
      refine WL.nil ?_
      refine QF.seqNext ?_
      refine WC.condF rfl (rfl) ?_
      refine WC.skip ?_
      refine QF.seqNext ?_
      refine WC.seq ?_
      refine WC.region ?_
      refine WL.v (RV.loadAgg (us := encN x) hn5.cellsAdd (Tryz.isAgg48 _) (Tryz.sizeOf48 _) rfl) rfl ?_
      refine WL.storeAgg (us := #[.int .i64 x.1, .int .i64 x.2.1, x.2.2]) hx5 rfl (Tryz.sizeOf48 _) (nv_ok hxo) rfl rfl rfl ?_
      have hxd := BlkO.setRow (us := #[.int .i64 x.1, .int .i64 x.2.1, x.2.2]) hx5
      have hUd : Upd (fun k => k = T) O4 w5 O4 (World.setRow w5 xb #[.int .i64 x.1, .int .i64 x.2.1, x.2.2]) := Upd.setRow (by omega) (BlkO.tag hx5) rfl
      have hbd := hb5.upd hUd hj (by omega)
      have hUz := hUt5.trans (hUd.pT hj hT0 (Nat.le_refl _))
      refine WL.nil ?_
      refine QF.seqNext ?_
      refine WC.ret ?_
      refine QF.doneC1 rfl rfl (hxd.cellsAdd) (Tryz.isAgg48 _) (Tryz.sizeOf48 _) (⟨x, rfl, hUz.priv hT hj, (hnt5.upd hUd).low hUz, hbd.fgt h.tag⟩)
    | bad p e =>
      rw [hf] at hP3
      obtain ⟨rfl, hne⟩ := hP3
      obtain ⟨_, hpl⟩ := exprK_ne _ _ _ hf
      refine WL.v (RV.move rfl) rfl ?_
      refine WL.v (RV.extract rfl rfl) rfl ?_
      refine WL.v (RV.extract rfl rfl) rfl ?_
      refine WL.v (RV.extract rfl rfl) rfl ?_
      refine WL.allocO hR3 (T + 1) (by omega) (Tryz.zeroValue48 _) rfl ?_
      intro nb w4 O4 hn4 hU4 hR4 hE4
      refine WL.storeAgg (us := #[.int .i64 0, .int .i64 0, .slice none 0 0]) hn4 rfl (Tryz.sizeOf48 _) rfl rfl rfl rfl ?_
      have hn5 := hn4.setRow (us := #[.int .i64 0, .int .i64 0, .slice none 0 0])
      have hU5 : Upd (fun k => k = T + 1) O4 w4 O4 (w4.setRow nb #[.int .i64 0, .int .i64 0, .slice none 0 0]) := Upd.setRow (by omega) hn4.tag rfl
      have hU45 := hU4.trans hU5
      have hx5 := hx3.upd hU45 (by omega) (by omega)
      have hb5 := hb3.upd hU45 hj (by omega)
      have hUt5 := hUt3.trans (hU45.pT hj hT0 (Nat.le_succ _))
      generalize w4.setRow nb #[.int .i64 0, .int .i64 0, .slice none 0 0] = w5 at *
      refine WL.v (RV.assign rfl) rfl ?_
      refine WL.v (RV.assign rfl) rfl ?_
      refine WL.nil ?_
      refine QF.seqNext ?_
      refine WC.seq ?_
      refine WC.seq ?_
      refine WC.region ?_
      refine WL.v (RV.move rfl) rfl ?_
      refine WL.v (RV.neq rfl rfl) rfl ?_
      refine WL.nil ?_
      refine QF.seqNext ?_
      refine WC.condT rfl ((by simpa using hne)) ?_
      refine WC.region ?_
      refine WL.v (RV.move rfl) rfl ?_
      refine WL.v (RV.nilPtr rfl) rfl ?_
      refine WL.v (RV.fieldAddr 0 Tryz.underlying56 rfl rfl (Tryz.sizeOf53 _) (by decide) rfl) rfl ?_
      refine WL.v (RV.move rfl) rfl ?_
      refine WL.v (RV.move rfl) rfl ?_
      refine WL.v (RV.add rfl rfl (Fit.i64 (by omega))) rfl ?_
      refine WL.v (RV.move rfl) rfl ?_
      refine WL.call Tryz.call54 rfl (rfail_ret O4 w5 j rb s ((fr : Int) + (p : Int)) e hj he hb5) rfl ?_
      rintro v w6 ⟨hb6, hU6⟩
      have hx6 := hx5.upd hU6 (by omega) (by omega)
      have hn6 := hn5.upd hU6 (by omega) (by omega)
      have hUt6 := hUt5.trans (hU6.pj hT0)
      refine WL.nil ?_
      refine QF.seqNext ?_
      refine WC.seq ?_
      refine WC.region ?_
      refine WL.v (RV.loadAgg (us := encN ((0, 0, .slice none 0 0) : N3)) hn6.cellsAdd (Tryz.isAgg48 _) (Tryz.sizeOf48 _) rfl) rfl ?_
      have hxo : ((0, 0, .slice none 0 0) : N3).2.2.oneCell' = true := rfl
      refine WL.storeAgg (us := #[.int .i64 ((0, 0, .slice none 0 0) : N3).1, .int .i64 ((0, 0, .slice none 0 0) : N3).2.1, ((0, 0, .slice none 0 0) : N3).2.2]) hx6 rfl (Tryz.sizeOf48 _) (nv_ok hxo) rfl rfl rfl ?_
      have hxd := BlkO.setRow (us := #[.int .i64 ((0, 0, .slice none 0 0) : N3).1, .int .i64 ((0, 0, .slice none 0 0) : N3).2.1, ((0, 0, .slice none 0 0) : N3).2.2]) hx6
      have hUd : Upd (fun k => k = T) O4 w6 O4 (World.setRow w6 xb #[.int .i64 ((0, 0, .slice none 0 0) : N3).1, .int .i64 ((0, 0, .slice none 0 0) : N3).2.1, ((0, 0, .slice none 0 0) : N3).2.2]) := Upd.setRow (by omega) (BlkO.tag hx6) rfl
      have hbd := hb6.upd hUd hj (by omega)
      have hUz := hUt6.trans (hUd.pT hj hT0 (Nat.le_refl _))
      refine WL.nil ?_
      refine QF.seqNext ?_
      refine WC.ret ?_
      refine QF.doneC1 rfl rfl (hxd.cellsAdd) (Tryz.isAgg48 _) (Tryz.sizeOf48 _) (⟨(0, 0, .slice none 0 0), rfl, hUz.priv hT hj, rfl, hne, hbd.fgt h.tag⟩)
end Go.Proofs.YtmohcfjopaccdaaGreatDoor
