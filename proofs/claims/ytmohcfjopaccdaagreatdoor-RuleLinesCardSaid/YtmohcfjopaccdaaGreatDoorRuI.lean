/- Runes of any bytes: one step of a loop over a string; a rune as a string; IndexRune of a rune that is no byte. -/
import Derived.Test.YtmohcfjopaccdaaGreatDoorRuA
import Derived.Test.YtmohcfjopaccdaaGreatDoorVi
import Derived.Scope
namespace Go.VL
section
variable {P : Program} {N : Nat} {ops : Array Oper} {Q : Exit → Act → World → Prop} {rest : List Oper} {st : St} {w : World}
variable {t : TypeId} {p : String} {e : Array Edge} {d : Nat} {x y z : Operand}
theorem WC.scope {c : Code} (h : WC P N c (Exit.noGoto Q) st w) : WC P N (.scope c) Q st w := fun a ha => wp_scope_straight (h a ha)
theorem QF.scopeNormal (h : QF N Q .normal st w) : QF N (Exit.noGoto Q) .normal st w := h
theorem QF.scopeRet (h : QF N Q .ret st w) : QF N (Exit.noGoto Q) .ret st w := h
theorem QF.scopeExit {id : Nat} (h : QF N Q (.exit id) st w) : QF N (Exit.noGoto Q) (.exit id) st w := h
theorem run_next_any (w : World) (s : ByteArray) (pos : Nat) (ty : TypeId) {c n : Nat} (h : pos < s.size) (hd : Utf8.decode s pos = (c, n)) :
    (Instr.next (.pointer (some ⟨w.heap.size, 0, none⟩)) true ty).run P (w.iter s pos) = .ok (.tuple #[.bool true, .int .i64 pos, .int .i32 c]) (w.iter s (pos + n)) := by
  simp only [Instr.next, getObj, setObj, Sem.run_bind, Sem.run, World.iter_heap, Result.andThen, h, if_true, hd, World.iter_set]
  simp [goInt, Sem.run, World.iter_heap, World.iter_set]
theorem run_next_at (w : World) (b : Nat) (s : ByteArray) (pos : Nat) (ty : TypeId) {c n : Nat} (hb : w.heap[b]? = some (.stringIter s pos)) (h : pos < s.size) (hd : Utf8.decode s pos = (c, n)) :
    (Instr.next (.pointer (some ⟨b, 0, none⟩)) true ty).run P w = .ok (.tuple #[.bool true, .int .i64 pos, .int .i32 c]) (w.putObj b (.stringIter s (pos + n))) := by
  simp only [Instr.next, getObj, setObj, Sem.run_bind, Sem.run, hb, Result.andThen, h, if_true, hd]
  simp [goInt, Sem.run, hb, World.putObj]
theorem run_next_over (w : World) (b : Nat) (s : ByteArray) (pos : Nat) (ty : TypeId) (hb : w.heap[b]? = some (.stringIter s pos)) (h : ¬ pos < s.size) :
    (Instr.next (.pointer (some ⟨b, 0, none⟩)) true ty).run P w = .ok (.tuple #[.bool false]) w := by
  simp [Instr.next, getObj, Sem.run, hb, h]
theorem WL.nextAt {l : List UInt8} {pos c n b : Nat} (hx : ev st x = some (.pointer (some ⟨b, 0, none⟩))) (hb : w.heap[b]? = some (.stringIter (bs l) pos)) (hp : pos < l.length) (hdc : Utf8.decode (bs l) pos = (c, n)) (hd : Nat.blt d N = true)
    (h : WL P N ops Q rest ((d, .tuple #[.bool true, .int .i64 (pos : Nat), .int .i32 (c : Int)]) :: st) (w.putObj b (.stringIter (bs l) (pos + n)))) : WL P N ops Q (⟨some d, .next x true, t, p, e, none⟩ :: rest) st w := by
  have hrun := run_next_at (P := P) w b (bs l) pos t hb (by rw [bs_size]; exact hp) hdc
  exact WL.val hd (fun a ha => by
    simp only [execOp, ha.ev hx, Sem.run_bind, hrun, Result.andThen_ok]
    rfl) h
theorem WL.nextOver {l : List UInt8} {pos b : Nat} (hx : ev st x = some (.pointer (some ⟨b, 0, none⟩))) (hb : w.heap[b]? = some (.stringIter (bs l) pos)) (hp : l.length ≤ pos) (hd : Nat.blt d N = true)
    (h : WL P N ops Q rest ((d, .tuple #[.bool false]) :: st) w) : WL P N ops Q (⟨some d, .next x true, t, p, e, none⟩ :: rest) st w := by
  have hrun := run_next_over (P := P) w b (bs l) pos t hb (by rw [bs_size]; omega)
  exact WL.val hd (fun a ha => by
    simp only [execOp, ha.ev hx, Sem.run_bind, hrun, Result.andThen_ok]
    rfl) h
theorem WL.nextN {l : List UInt8} {pos c n : Nat} {w0 : World} (hx : ev st x = some (.pointer (some ⟨w0.heap.size, 0, none⟩))) (hp : pos < l.length) (hdc : Utf8.decode (bs l) pos = (c, n)) (hd : Nat.blt d N = true)
    (h : WL P N ops Q rest ((d, .tuple #[.bool true, .int .i64 (pos : Nat), .int .i32 (c : Int)]) :: st) (w0.iter (bs l) (pos + n))) : WL P N ops Q (⟨some d, .next x true, t, p, e, none⟩ :: rest) st (w0.iter (bs l) pos) := by
  have hrun := run_next_any (P := P) w0 (bs l) pos t (by rw [bs_size]; exact hp) hdc
  exact WL.val hd (fun a ha => by
    simp only [execOp, ha.ev hx, Sem.run_bind, hrun, Result.andThen_ok]
    rfl) h
theorem RV.convRune {xt yt : TypeId} {k k' : IntKind} {m : Int} (hs : P.underlying xt = some (.int k')) (hd' : P.underlying yt = some .string) (hx : ev st x = some (.int k m)) : RV P N (.convert xt yt x) t st w (.string (Utf8.encode m)) :=
  fun a ha dst p e g => by
    simp only [execOp, ha.ev hx]
    simp [convert, run_underlying hs, run_underlying hd', Conv.intToString]
end
theorem decode_lo {l : List UInt8} {pos : Nat} (h : pos < l.length) (hb : (nth l pos).toNat < 128) : Utf8.decode (bs l) pos = ((nth l pos).toNat, 1) := by
  have hs : pos < (bs l).size := by rw [bs_size]; exact h
  have he : (bs l)[pos]'hs = nth l pos := by rw [nth_eq h]; exact List.getElem_toArray (xs := l) (i := pos) h
  have := decode_ascii (bs l) pos hs (by rw [he]; exact hb)
  rw [he] at this; exact this
theorem get_bs {l : List UInt8} {i : Nat} (h : i < l.length) : (bs l).get! i = nth l i := by
  rw [nth_eq h]
  show (bs l).data[i]! = _
  rw [getElem!_pos (bs l).data i (by simpa [bs] using h)]
  simp [bs]
theorem decode_hi {l : List UInt8} {pos : Nat} (h : pos < l.length) (hb : 128 ≤ (nth l pos).toNat) :
    ∃ c n, Utf8.decode (bs l) pos = (c, n) ∧ 128 ≤ c ∧ Utf8.valid (c : Int) = true ∧ 1 ≤ n ∧ pos + n ≤ l.length ∧ ∀ i, pos ≤ i → i < pos + n → 128 ≤ (nth l i).toNat := by
  have h0 : (bs l).get! (pos + 0) = nth l pos := get_bs h
  have hc : ∀ k, (pos + k < (bs l).size && ((bs l).get! (pos + k)).toNat / 64 == 2) = true → pos + k < l.length ∧ 128 ≤ (nth l (pos + k)).toNat := fun k hk => by
    simp only [Bool.and_eq_true, decide_eq_true_eq, beq_iff_eq, bs_size] at hk
    rw [get_bs hk.1] at hk
    exact ⟨hk.1, by omega⟩
  have one : ∀ i, pos ≤ i → i < pos + 1 → 128 ≤ (nth l i).toNat := fun i h1 h2 => by
    obtain rfl : i = pos := by omega
    exact hb
  have err : ∃ c n, (Utf8.runeError, 1) = (c, n) ∧ 128 ≤ c ∧ Utf8.valid (c : Int) = true ∧ 1 ≤ n ∧ pos + n ≤ l.length ∧ ∀ i, pos ≤ i → i < pos + n → 128 ≤ (nth l i).toNat := ⟨_, _, rfl, by decide, by decide, by decide, by omega, one⟩
  unfold Utf8.decode
  simp only [h0]
  rw [if_neg (by omega)]
  have hb2 := (nth l pos).toNat_lt
  split
  · rename_i h1
    simp only [Bool.and_eq_true] at h1
    obtain ⟨g1, g2⟩ := hc 1 (by simpa using h1.2)
    split
    · rename_i h2
      refine ⟨_, _, rfl, h2, ?_, by decide, by omega, fun i k1 k2 => ?_⟩
      · unfold Utf8.valid
        simp only [Bool.or_eq_true, Bool.and_eq_true, decide_eq_true_eq]
        left; constructor <;> omega
      · by_cases e : i = pos
        · rw [e]; exact hb
        · obtain rfl : i = pos + 1 := by omega
          exact g2
    · exact err
  · split
    · rename_i h1
      simp only [Bool.and_eq_true] at h1
      obtain ⟨g1, g2⟩ := hc 1 (by simpa using h1.1.2)
      obtain ⟨g3, g4⟩ := hc 2 (by simpa using h1.2)
      split
      · rename_i h2
        simp only [Bool.and_eq_true, decide_eq_true_eq] at h2
        refine ⟨_, _, rfl, by omega, h2.2, by decide, by omega, fun i k1 k2 => ?_⟩
        by_cases e : i = pos
        · rw [e]; exact hb
        · by_cases e1 : i = pos + 1
          · rw [e1]; exact g2
          · obtain rfl : i = pos + 2 := by omega
            exact g4
      · exact err
    · split
      · rename_i h1
        simp only [Bool.and_eq_true] at h1
        obtain ⟨g1, g2⟩ := hc 1 (by simpa using h1.1.1.2)
        obtain ⟨g3, g4⟩ := hc 2 (by simpa using h1.1.2)
        obtain ⟨g5, g6⟩ := hc 3 (by simpa using h1.2)
        split
        · rename_i h2
          simp only [Bool.and_eq_true, decide_eq_true_eq] at h2
          refine ⟨_, _, rfl, by omega, h2.2, by decide, by omega, fun i k1 k2 => ?_⟩
          by_cases e : i = pos
          · rw [e]; exact hb
          · by_cases e1 : i = pos + 1
            · rw [e1]; exact g2
            · by_cases e2 : i = pos + 2
              · rw [e2]; exact g4
              · obtain rfl : i = pos + 3 := by omega
                exact g6
        · exact err
      · exact err
/-- A rune's bytes: two, of which the second one is no sign; or more. -/
theorem encode_hi {c : Nat} (hc : 128 ≤ c) (hv : Utf8.valid (c : Int) = true) : ∃ L : List UInt8, Utf8.encode (c : Int) = bs L ∧ 2 ≤ L.length ∧ L.length ≤ 4 ∧ 128 ≤ (nth L 1).toNat := by
  unfold Utf8.encode
  simp only [hv, if_true, Int.toNat_natCast]
  rw [if_neg (by omega)]
  have hm : c % 64 < 64 := Nat.mod_lt _ (by decide)
  split
  · refine ⟨[UInt8.ofNat (0xC0 + c / 64), UInt8.ofNat (0x80 + c % 64)], rfl, by simp, by simp, ?_⟩
    rw [nth_cons, nth_cons0]
    simp; omega
  · split
    · refine ⟨[UInt8.ofNat (0xE0 + c / 4096), UInt8.ofNat (0x80 + c / 64 % 64), UInt8.ofNat (0x80 + c % 64)], rfl, by simp, by simp, ?_⟩
      rw [nth_cons, nth_cons0]
      have : c / 64 % 64 < 64 := Nat.mod_lt _ (by decide)
      simp; omega
    · refine ⟨[UInt8.ofNat (0xF0 + c / 262144), UInt8.ofNat (0x80 + c / 4096 % 64), UInt8.ofNat (0x80 + c / 64 % 64), UInt8.ofNat (0x80 + c % 64)], rfl, by simp, by simp, ?_⟩
      rw [nth_cons, nth_cons0]
      have : c / 4096 % 64 < 64 := Nat.mod_lt _ (by decide)
      simp; omega
end Go.VL
namespace Go.Proofs.YtmohcfjopaccdaaGreatDoor
open Go.VL Go.Proofs
set_option maxRecDepth 10000

theorem validRune_ret (c : Int) (w : World) (hv : Utf8.valid c = true) : Ret Tryz.prog 115 [.int .i32 c] w fun v w' => v = .bool true ∧ w' = w := by
  unfold Utf8.valid at hv
  simp only [Bool.or_eq_true, Bool.and_eq_true, decide_eq_true_eq] at hv
  refine Ret.enter Tryz.func115 Tryz.ntmps115 rfl rfl ?_
  refine WC.seq ?_
  refine WC.region ?_
  refine WL.v (RV.assign rfl) rfl ?_
  refine WL.nil ?_
  refine QF.seqNext ?_
  refine WC.seq ?_
  refine WC.block ?_
  refine WC.seq ?_
  refine WC.region ?_
  refine WL.v (RV.move rfl) rfl ?_
  refine WL.v (RV.leq rfl rfl) rfl ?_
  refine WL.v (RV.move rfl) rfl ?_
  refine WL.know (d := 6) rfl (b' := true) ((decide_eq_true (by omega))) ?_
  refine WL.on rfl ?_
  refine WL.v (RV.move rfl) rfl ?_
  refine WL.on rfl ?_
  refine WL.v (RV.lss rfl rfl) rfl ?_
  refine WL.v (RV.pickT rfl rfl) rfl ?_
  refine WL.v (RV.assign rfl) rfl ?_
  refine WL.nil ?_
  refine QF.seqNext ?_
  by_cases h : c < 55296
  · skip
    refine WC.condT rfl ((decide_eq_true (by omega))) ?_
    refine WC.seq ?_
    refine WC.region ?_
    refine WL.v (RV.assign rfl) rfl ?_
    refine WL.nil ?_
    refine QF.seqNext ?_
    refine WC.ret ?_
    refine QF.blockRet ?_
    refine QF.thenRet ?_
    refine QF.done1 rfl rfl (⟨rfl, rfl⟩)
  · skip
    refine WC.condF rfl ((decide_eq_false (by omega))) ?_
    refine WC.seq ?_
    refine WC.region ?_
    refine WL.v (RV.move rfl) rfl ?_
    refine WL.v (RV.lss rfl rfl) rfl ?_
    refine WL.v (RV.move rfl) rfl ?_
    refine WL.know (d := 13) rfl (b' := true) ((decide_eq_true (by omega))) ?_
    refine WL.on rfl ?_
    refine WL.v (RV.move rfl) rfl ?_
    refine WL.on rfl ?_
    refine WL.v (RV.leq rfl rfl) rfl ?_
    refine WL.v (RV.pickT rfl rfl) rfl ?_
    refine WL.v (RV.assign rfl) rfl ?_
    refine WL.nil ?_
    refine QF.seqNext ?_
    refine WC.condT rfl ((decide_eq_true (by omega))) ?_
    refine WC.seq ?_
    refine WC.region ?_
    refine WL.v (RV.assign rfl) rfl ?_
    refine WL.nil ?_
    refine QF.seqNext ?_
    refine WC.ret ?_
    refine QF.blockRet ?_
    refine QF.thenRet ?_
    refine QF.done1 rfl rfl (⟨rfl, rfl⟩)
theorem indexRuneHi_ret (c : Nat) (w : World) (hc : 128 ≤ c) (hv : Utf8.valid (c : Int) = true) : Ret Tryz.prog 89 [.string (bs [33, 47]), .int .i32 (c : Int)] w fun v w' => v = .int .i64 (-1) ∧ Ext w w' := by
  refine Ret.enter Tryz.func89 Tryz.ntmps89 rfl rfl ?_
  refine WC.seq ?_
  refine WC.region ?_
  refine WL.v (RV.assign rfl) rfl ?_
  refine WL.nil ?_
  refine QF.seqNext ?_
  refine WC.block ?_
  refine WC.seq ?_
  refine WC.region ?_
  refine WL.v (RV.move rfl) rfl ?_
  refine WL.v (RV.leq rfl rfl) rfl ?_
  refine WL.v (RV.move rfl) rfl ?_
  refine WL.know (d := 163) rfl (b' := true) ((decide_eq_true (by omega))) ?_
  refine WL.on rfl ?_
  refine WL.v (RV.move rfl) rfl ?_
  refine WL.on rfl ?_
  refine WL.v (RV.lss rfl rfl) rfl ?_
  refine WL.v (RV.pickT rfl rfl) rfl ?_
  refine WL.v (RV.assign rfl) rfl ?_
  refine WL.nil ?_
  refine QF.seqNext ?_
  refine WC.condF rfl ((decide_eq_false (by omega))) ?_
  refine WC.seq ?_
  refine WC.region ?_
  refine WL.v (RV.move rfl) rfl ?_
  refine WL.v (RV.eql rfl rfl) rfl ?_
  refine WL.v (RV.assign rfl) rfl ?_
  refine WL.nil ?_
  refine QF.seqNext ?_
  by_cases h3 : (c : Int) = 65533
  · skip
    refine WC.condT rfl ((by simpa using h3)) ?_
    refine WC.seq ?_
    refine WC.seq ?_
    refine WC.region ?_
    refine WL.v (RV.move rfl) rfl ?_
    refine WL.rangeS Tryz.underlying9 rfl rfl ?_
    refine WL.nil ?_
    refine QF.seqNext ?_
    refine WC.block ?_
    refine WC.loop (fun x : Nat => [(175, .pointer (some ⟨w.heap.size, 0, none⟩))]) (fun x : Nat => w.iter (bs [33, 47]) x) (fun x : Nat => x ≤ 2) (fun x : Nat => 2 - x) 0 (Nat.zero_le _) ⟨rfl, trivial⟩ rfl ?_
    rintro k hk
    refine WC.seq ?_
    refine WC.region ?_
    by_cases hlt : k < 2
    · have hget : ([33, 47] : List UInt8)[k]? = some (nth [33, 47] k) := by rw [nth_eq (by simpa using hlt)]; exact List.getElem?_eq_getElem (by simpa using hlt)
      have hck : (nth ([33, 47] : List UInt8) k).toNat < 128 := by
        have : k = 0 ∨ k = 1 := by omega
        rcases this with rfl | rfl
        · rw [nth_cons0]; decide
        · rw [nth_cons, nth_cons0]; decide
      refine WL.nextA rfl hget hck rfl ?_
      refine WL.v (RV.extract rfl rfl) rfl ?_
      refine WL.nil ?_
      refine QF.seqNext ?_
      refine WC.seq ?_
      refine WC.condT rfl (rfl) ?_
      refine WC.skip ?_
      refine QF.seqNext ?_
      refine WC.block ?_
      refine WC.seq ?_
      refine WC.region ?_
      refine WL.v (RV.extract rfl rfl) rfl ?_
      refine WL.v (RV.extract rfl rfl) rfl ?_
      refine WL.v (RV.assign rfl) rfl ?_
      refine WL.v (RV.assign rfl) rfl ?_
      refine WL.nil ?_
      refine QF.seqNext ?_
      refine WC.seq ?_
      refine WC.region ?_
      refine WL.v (RV.move rfl) rfl ?_
      refine WL.v (RV.eql rfl rfl) rfl ?_
      refine WL.nil ?_
      refine QF.seqNext ?_
      refine WC.condF rfl ((beq_eq_false_iff_ne.2 (by omega))) ?_
      refine WC.skip ?_
      refine QF.blockNormal ?_
      refine QF.next (k + 1) (hlt) (by omega) ⟨rfl, trivial⟩ rfl
    · skip
      refine WL.nextE rfl (by simp; omega) rfl ?_
      refine WL.v (RV.extract rfl rfl) rfl ?_
      refine WL.nil ?_
      refine QF.seqNext ?_
      refine WC.seq ?_
      refine WC.condF rfl (rfl) ?_
      refine WC.exit ?_
      refine QF.thenExit ?_
      refine QF.thenExit ?_
      refine QF.blockHit ?_
      refine QF.seqNext ?_
      refine WC.seq ?_
      refine WC.region ?_
      refine WL.v (RV.assign rfl) rfl ?_
      refine WL.nil ?_
      refine QF.seqNext ?_
      refine WC.ret ?_
      refine QF.blockRet ?_
      refine QF.done1 rfl rfl (⟨rfl, Ext.iter _ _ _⟩)
  · skip
    refine WC.condF rfl ((by simpa using h3)) ?_
    refine WC.seq ?_
    refine WC.region ?_
    refine WL.v (RV.move rfl) rfl ?_
    refine WL.call Tryz.call115 rfl (validRune_ret c w hv) rfl ?_
    rintro v w9 ⟨rfl, hw9⟩
    rw [hw9]
    clear hw9 w9
    obtain ⟨L, hL, hL2, hL4, hL1⟩ := encode_hi hc hv
    refine WL.v (RV.not rfl) rfl ?_
    refine WL.v (RV.assign rfl) rfl ?_
    refine WL.nil ?_
    refine QF.seqNext ?_
    refine WC.condF rfl (rfl) ?_
    refine WC.scope ?_
    refine WC.seq ?_
    refine WC.region ?_
    refine WL.v (RV.move rfl) rfl ?_
    refine WL.v (RV.convRune Tryz.underlying21 Tryz.underlying9 rfl) rfl ?_
    rw [hL]
    refine WL.v (RV.assign rfl) rfl ?_
    refine WL.nil ?_
    refine QF.seqNext ?_
    refine WC.seq ?_
    refine WC.region ?_
    refine WL.v (RV.move rfl) rfl ?_
    refine WL.v (RV.lenS Tryz.underlying9 rfl) rfl ?_
    refine WL.v (RV.sub rfl rfl (Fit.i64 (by omega))) rfl ?_
    refine WL.v (RV.assign rfl) rfl ?_
    refine WL.nil ?_
    refine QF.seqNext ?_
    refine WC.seq ?_
    refine WC.region ?_
    refine WL.v (RV.move rfl) rfl ?_
    refine WL.v (RV.assign rfl) rfl ?_
    refine WL.nil ?_
    refine QF.seqNext ?_
    refine WC.seq ?_
    refine WC.region ?_
    refine WL.v (RV.assign rfl) rfl ?_
    refine WL.nil ?_
    refine QF.seqNext ?_
    refine WC.seq ?_
    refine WC.block ?_
    refine WC.loop (fun x : Unit => [(0, .string (bs [33, 47])), (7, .string (bs L)), (8, .int .i64 ((L.length : Int) - 1)), (9, .int .i64 ((L.length : Int) - 1)), (10, .int .i64 0)]) (fun x : Unit => w) (fun x : Unit => True) (fun x : Unit => 0) () (trivial) ⟨rfl, rfl, rfl, rfl, rfl, trivial⟩ rfl ?_
    rintro _ _
    refine WC.seq ?_
    refine WC.seq ?_
    refine WC.region ?_
    refine WL.v (RV.move rfl) rfl ?_
    refine WL.v (RV.move rfl) rfl ?_
    refine WL.v (RV.lenS Tryz.underlying9 rfl) rfl ?_
    refine WL.v (RV.lss rfl rfl) rfl ?_
    refine WL.nil ?_
    refine QF.seqNext ?_
    by_cases h2 : L.length = 2
    · skip
      refine WC.condT rfl ((decide_eq_true (by simp; omega))) ?_
      have hget1 : L[1]? = some (nth L 1) := by rw [nth_eq (by omega)]; exact List.getElem?_eq_getElem (by omega)
      refine WC.skip ?_
      refine QF.seqNext ?_
      refine WC.block ?_
      refine WC.scope ?_
      refine WC.seq ?_
      refine WC.seq ?_
      refine WC.still (by kernel_rfl) (by kernel_rfl) ?_
      refine WS.v (RV.move rfl) rfl ?_
      refine WS.v (RV.move rfl) rfl ?_
      refine WS.v (RV.indexS1 (c := 47) Tryz.underlying9 rfl rfl 1 (by omega) rfl) rfl ?_
      refine WS.v (RV.move rfl) rfl ?_
      refine WS.v (RV.move rfl) rfl ?_
      refine WS.v (RV.indexS1 (c := nth L 1) Tryz.underlying9 rfl rfl 1 (by omega) hget1) rfl ?_
      refine WS.v (RV.neq rfl rfl) rfl ?_
      refine WS.nil ?_
      refine QF.seqNext ?_
      refine WC.condT rfl ((by rw [bne_iff_ne]; show (47 : Int) ≠ _; omega)) ?_
      refine WC.seq ?_
      refine WC.tail 7 rfl rfl (by kernel_rfl) (by kernel_rfl) ?_
      refine WS.v (RV.move rfl) rfl ?_
      refine WS.v (RV.move rfl) rfl ?_
      refine WS.v (RV.add rfl rfl (Fit.i64 (by omega))) rfl ?_
      refine WS.v (RV.sliceSlo Tryz.underlying9 rfl rfl 2 (by omega) (by simp)) rfl ?_
      refine WS.v (RV.move rfl) rfl ?_
      refine WS.v (RV.move rfl) rfl ?_
      refine WS.v (RV.indexS1 (c := nth L 1) Tryz.underlying9 rfl rfl 1 (by omega) hget1) rfl ?_
      refine WS.go ?_
      refine WL.call Tryz.call18 rfl (indexByte_ret [] (nth L 1) w.drew.drew) rfl ?_
      rintro v w9 ⟨rfl, hw9⟩
      rw [hw9]
      clear hw9 w9
      refine WL.v (RV.assign rfl) rfl ?_
      refine WL.nil ?_
      refine QF.seqNext ?_
      refine WC.seq ?_
      refine WC.seq ?_
      refine WC.region ?_
      refine WL.v (RV.move rfl) rfl ?_
      refine WL.v (RV.lss rfl rfl) rfl ?_
      refine WL.nil ?_
      refine QF.seqNext ?_
      refine WC.condT rfl (rfl) ?_
      refine WC.seq ?_
      refine WC.region ?_
      refine WL.v (RV.assign rfl) rfl ?_
      refine WL.nil ?_
      refine QF.seqNext ?_
      refine WC.ret ?_
      refine QF.thenRet ?_
      refine QF.thenRet ?_
      refine QF.scopeRet ?_
      refine QF.blockRet ?_
      refine QF.thenRet ?_
      refine QF.blockRet ?_
      refine QF.thenRet ?_
      refine QF.scopeRet ?_
      refine QF.blockRet ?_
      refine QF.done1 rfl rfl (⟨rfl, (Ext.refl w).drew.drew⟩)
    · skip
      refine WC.condF rfl ((decide_eq_false (by simp; omega))) ?_
      refine WC.exit ?_
      refine QF.thenExit ?_
      refine QF.thenExit ?_
      refine QF.blockHit ?_
      refine QF.seqNext ?_
      refine WC.seq ?_
      refine WC.seq ?_
      refine WC.region ?_
      refine WL.v (RV.assign rfl) rfl ?_
      refine WL.nil ?_
      refine QF.seqNext ?_
      refine WC.ret ?_
      refine QF.thenRet ?_
      refine QF.scopeRet ?_
      refine QF.blockRet ?_
      refine QF.done1 rfl rfl (⟨rfl, Ext.refl _⟩)
/-- Is a rune a rule's sign? -/
def sgnR (c : Nat) : Bool := decide (c = 33) || decide (c = 47)
theorem sgnR_hi {c : Nat} (h : 128 ≤ c) : sgnR c = false := by unfold sgnR; rw [decide_eq_false (by omega), decide_eq_false (by omega)]; rfl
theorem containsRuneHi_ret (c : Nat) (w : World) (hc : 128 ≤ c) (hv : Utf8.valid (c : Int) = true) : Ret Tryz.prog 62 [.string (bs [33, 47]), .int .i32 (c : Int)] w fun v w' => v = .bool false ∧ Ext w w' := by
  refine Ret.enter Tryz.func62 Tryz.ntmps62 rfl rfl ?_
  refine WC.seq ?_
  refine WC.region ?_
  refine WL.v (RV.assign rfl) rfl ?_
  refine WL.nil ?_
  refine QF.seqNext ?_
  refine WC.seq ?_
  refine WC.region ?_
  refine WL.v (RV.move rfl) rfl ?_
  refine WL.v (RV.move rfl) rfl ?_
  refine WL.call Tryz.call89 rfl (indexRuneHi_ret c w hc hv) rfl ?_
  rintro v w9 ⟨rfl, hE⟩
  refine WL.v (RV.geq rfl rfl) rfl ?_
  refine WL.v (RV.assign rfl) rfl ?_
  refine WL.nil ?_
  refine QF.seqNext ?_
  refine WC.ret ?_
  refine QF.done1 rfl rfl (⟨rfl, hE⟩)
theorem rule1Hi_ret (c : Nat) (w : World) (hc : 128 ≤ c) (hv : Utf8.valid (c : Int) = true) : Ret Tryz.prog 61 [.int .i32 (c : Int)] w fun v w' => v = .bool false ∧ Ext w w' := by
  refine Ret.enter Tryz.func61 Tryz.ntmps61 rfl rfl ?_
  refine WC.seq ?_
  refine WC.region ?_
  refine WL.v (RV.assign rfl) rfl ?_
  refine WL.nil ?_
  refine QF.seqNext ?_
  refine WC.seq ?_
  refine WC.region ?_
  refine WL.v (RV.move rfl) rfl ?_
  refine WL.call Tryz.call62 rfl (containsRuneHi_ret c w hc hv) rfl ?_
  rintro v w9 ⟨rfl, hE⟩
  refine WL.v (RV.assign rfl) rfl ?_
  refine WL.nil ?_
  refine QF.seqNext ?_
  refine WC.ret ?_
  refine QF.done1 rfl rfl (⟨rfl, hE⟩)
end Go.Proofs.YtmohcfjopaccdaaGreatDoor
