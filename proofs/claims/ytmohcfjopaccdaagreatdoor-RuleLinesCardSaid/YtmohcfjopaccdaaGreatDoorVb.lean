/- Bits, for the small calculus: of numbers that are not below 0. Nothing here speaks of a particular program. -/
import Derived.Test.YtmohcfjopaccdaaGreatDoorVf
import Derived.Laws.IdiomStrings
import Derived.Laws.BytesArg
namespace Go.VL

theorem max_lt (k : IntKind) {a : Nat} (h : (a : Int) ≤ k.max) : a < 2 ^ k.bits := by
  cases k <;> simp only [IntKind.max, IntKind.bits, IntKind.signed] at h ⊢ <;> simp at h ⊢ <;> omega
theorem ofInt_nat (n a : Nat) (h : a < 2 ^ n) : (BitVec.ofInt n (a : Int)).toNat = a := by
  rw [show BitVec.ofInt n (a : Int) = BitVec.ofNat n a from by simp, BitVec.toNat_ofNat, Nat.mod_eq_of_lt h]
theorem wrap_nat (k : IntKind) {a : Nat} (h : (a : Int) ≤ k.max) : k.wrap a = a := by
  cases k <;> simp only [IntKind.max, IntKind.bits, IntKind.signed] at h <;> simp [IntKind.wrap, IntKind.bits, IntKind.signed] at h ⊢ <;> (try split) <;> omega
/-- The least power of two that is above all numbers of a kind. -/
def topBits (k : IntKind) : Nat := if k.signed then k.bits - 1 else k.bits
theorem max_top (k : IntKind) (a : Nat) : (a : Int) ≤ k.max ↔ a < 2 ^ topBits k := by
  cases k <;> simp [IntKind.max, IntKind.bits, IntKind.signed, topBits] <;> omega

section
variable {P : Program} {N : Nat} {ops : Array Oper} {Q : Exit → Act → World → Prop} {rest : List Oper} {st : St} {w : World}
variable {t xt yt : TypeId} {p : String} {e : Array Edge} {d : Nat} {x y z : Operand}
variable {k : IntKind} {m n : Int} {a b : Nat}

theorem run_and (ha : (a : Int) ≤ k.max) (hb : (b : Int) ≤ k.max) : (binOp .and xt (.int k a) (.int k b)).run P w = .ok (.int k ((a &&& b : Nat) : Int)) w := by
  rw [binOp_and]
  have h : ((a &&& b : Nat) : Int) ≤ k.max := by have := @Nat.and_le_left a b; omega
  simp only [Op.intBits, BitVec.toNat_and, ofInt_nat _ _ (max_lt k ha), ofInt_nat _ _ (max_lt k hb), wrap_nat k h]; rfl
theorem run_or (ha : (a : Int) ≤ k.max) (hb : (b : Int) ≤ k.max) : (binOp .or xt (.int k a) (.int k b)).run P w = .ok (.int k ((a ||| b : Nat) : Int)) w := by
  rw [binOp_or]
  have h : ((a ||| b : Nat) : Int) ≤ k.max := (max_top k _).2 (Nat.or_lt_two_pow ((max_top k a).1 ha) ((max_top k b).1 hb))
  simp only [Op.intBits, BitVec.toNat_or, ofInt_nat _ _ (max_lt k ha), ofInt_nat _ _ (max_lt k hb), wrap_nat k h]; rfl
theorem RV.andN (hx : ev st x = some (.int k m)) (hy : ev st y = some (.int k n)) (hm : m = a) (hn : n = b) (ha : (a : Int) ≤ k.max) (hb : (b : Int) ≤ k.max) : RV P N (.binOp .and xt x y yt) t st w (.int k ((a &&& b : Nat) : Int)) := by
  subst hm; subst hn; exact RV.bin hx hy (run_and ha hb)
theorem RV.orN (hx : ev st x = some (.int k m)) (hy : ev st y = some (.int k n)) (hm : m = a) (hn : n = b) (ha : (a : Int) ≤ k.max) (hb : (b : Int) ≤ k.max) : RV P N (.binOp .or xt x y yt) t st w (.int k ((a ||| b : Nat) : Int)) := by
  subst hm; subst hn; exact RV.bin hx hy (run_or ha hb)
theorem RV.shrN {k' : IntKind} (hx : ev st x = some (.int k m)) (hy : ev st y = some (.int k' n)) (hm : m = a) (hn : n = b) (hb : b ≤ k.bits) : RV P N (.binOp .shr xt x y yt) t st w (.int k ((a / 2 ^ b : Nat) : Int)) := by
  subst hm; subst hn
  refine RV.bin hx hy ?_
  rw [binOp_shr]
  have h1 : ¬ (b : Int) < 0 := by omega
  simp only [Op.shift, if_neg h1, Int.toNat_natCast, Nat.min_eq_left hb]
  rw [Int.fdiv_eq_ediv_of_nonneg _ (by exact_mod_cast Nat.zero_le _)]
  simp
theorem RV.shlN {k' : IntKind} (hx : ev st x = some (.int k m)) (hy : ev st y = some (.int k' n)) (hm : m = a) (hn : n = b) (hb : b ≤ k.bits) (hr : ((a * 2 ^ b : Nat) : Int) ≤ k.max) : RV P N (.binOp .shl xt x y yt) t st w (.int k ((a * 2 ^ b : Nat) : Int)) := by
  subst hm; subst hn
  refine RV.bin hx hy ?_
  rw [binOp_shl]
  have h1 : ¬ (b : Int) < 0 := by omega
  have h2 := wrap_nat k hr
  simp only [Op.shift, if_neg h1, Int.toNat_natCast, Nat.min_eq_left hb]
  have h3 : (a : Int) * 2 ^ b = ((a * 2 ^ b : Nat) : Int) := by simp
  rw [h3, h2]; rfl
/-- '^x' of a byte. -/
theorem RV.not8 (hx : ev st x = some (.int .u8 m)) (hm : m = a) (ha : a ≤ 255) : RV P N (.unOp .xor xt x) t st w (.int .u8 ((255 - a : Nat) : Int)) :=
  fun c hc dst p e g => by
    subst hm
    have h : (Op.intBits .xor .u8 255 (a : Int)).run P w = .ok (.int .u8 ((255 - a : Nat) : Int)) w := by
      have h0 : ((255 - a : Nat) : Int) ≤ IntKind.u8.max := by simp [IntKind.max, IntKind.bits, IntKind.signed]; omega
      have h1 : (BitVec.ofInt IntKind.u8.bits 255 ^^^ BitVec.ofInt IntKind.u8.bits (a : Int)).toNat = 255 - a := by
        show (BitVec.ofInt 8 255 ^^^ BitVec.ofInt 8 (a : Int)).toNat = 255 - a
        rw [show BitVec.ofInt 8 255 = BitVec.allOnes 8 from by decide, BitVec.allOnes_xor, BitVec.toNat_not, ofInt_nat 8 a (by omega)]
      simp only [Op.intBits, h1, wrap_nat _ h0]; rfl
    simp only [execOp, hc.ev hx]
    simp [Op.unary, IntKind.signed, show IntKind.u8.max = 255 from by decide, h]
/-! Bytes of strings, strings of bytes. -/
theorem bytesRow_get {l : List UInt8} {cap i : Nat} (hi : i < l.length) : (bytesRow (bs l) cap)[i]? = some (Value.int .u8 ((l[i]'hi).toNat : Int)) := by
  unfold bytesRow
  rw [Array.getElem?_append_left (by simpa [bs] using hi)]
  simp [bs, hi]
theorem WL.bytesOf {l : List UInt8} {E : TypeId} (hs : P.underlying xt = some .string) (hd' : P.underlying yt = some (.slice E)) (he : P.underlying E = some (.int .u8)) (hx : ev st x = some (.string (bs l))) (hsz : l.length ≤ 9223372036854775807) (hd : Nat.blt d N = true)
    (h : ∀ v w', Sl (fun b : UInt8 => [Value.int .u8 (b.toNat : Int)]) 1 w' v l → Ext w w' → WL P N ops Q rest ((d, v) :: st) w') : WL P N ops Q (⟨some d, .convert xt yt x, t, p, e, none⟩ :: rest) st w := by
  have hrun := run_bytes_of_string (P := P) w xt yt E (bs l) hs hd' he
  refine WL.val hd (fun a ha => by simp only [execOp, ha.ev hx, Sem.run_bind, hrun, Result.andThen_ok]; rfl) (h _ _ ⟨⟨_, _, by rw [bs_size], ?_, ?_, fun _ => ⟨_, _, rfl⟩⟩, fun i hi j u hu => ?_⟩ ?_)
  · have := grownCap_ge w (bs l).size 0 E; rwa [bs_size] at this
  · have := grownCap_le_maxLen w (bs l).size 0 E (by rw [bs_size]; simpa [maxLen] using hsz); unfold maxLen at this; rw [bs_size] at this; omega
  · obtain rfl : j = 0 := by have := (List.getElem?_eq_some_iff.1 hu).1; simpa using this
    simp only [List.getElem?_cons_zero, Option.some.injEq] at hu
    subst hu
    rw [adr_add0]
    simp only [adr, Nat.mul_one, Nat.zero_add]
    have hc := cell_of_row _ w.drew.heap.size i _ _ _ (heap_alloc_new w.drew (.cells (bytesRow (bs l) (grownCap w (bs l).size 0 E)) E ((bytesRow (bs l) (grownCap w (bs l).size 0 E)).size, (bytesRow (bs l) (grownCap w (bs l).size 0 E)).size + 1)))
    rw [bytesRow_get hi] at hc
    exact hc
  · exact (Ext.refl w).drew.trans (Ext.alloc w.drew _)

theorem strOf_bytes (l : List UInt8) : strOfNums (l.map fun b => (b.toNat : Int)) = bs l := by
  simp only [strOfNums, bs, List.map_map]
  congr 1
  rw [show ((fun n : Int => UInt8.ofNat n.toNat) ∘ fun b : UInt8 => (b.toNat : Int)) = id from by funext b; simp]
  simp
theorem RV.strOf {l : List UInt8} {v : Value} {E : TypeId} (hl : Sl (fun b : UInt8 => [Value.int .u8 (b.toNat : Int)]) 1 w v l) (hs : P.underlying xt = some (.slice E)) (he : P.underlying E = some (.int .u8)) (hd' : P.underlying yt = some .string) (hx : ev st x = some v) :
    RV P N (.convert xt yt x) t st w (.string (bs l)) :=
  fun a' ha dst p e g => by
    obtain ⟨a, c, rfl, hc, _, hne⟩ := hl.shape
    simp only [execOp, ha.ev hx, Sem.run_bind]
    by_cases h0 : l.length = 0
    · obtain rfl : l = [] := List.eq_nil_of_length_eq_zero h0
      cases a with
      | none =>
        rw [run_convert_bytes_nil w xt E hs he _ _ yt hd']; rfl
      | some q =>
        obtain ⟨b, o, sp⟩ := q
        have hq := run_convert_bytes_string (P := P) w xt yt E (some ⟨b, o, sp⟩) 0 c hs he hd'
        simp only [List.length_nil] at hq ⊢
        rw [hq, run_bytesToString w ⟨b, o, sp⟩ 0 c [] (by simp [loadCells, loadCellsFrom])]
        rfl
    · obtain ⟨b, o, rfl⟩ := hne h0
      have := run_convert_bytes_arg (P := P) w xt E hs he b o l.length c (l.map fun b => (b.toNat : Int)) (by simp) (fun i hi => by
        have h1 := hl.cells i hi 0 _ rfl
        rw [adr_add0] at h1
        simp only [adr, Nat.mul_one] at h1
        rw [h1, List.getD_eq_getElem?_getD, List.getElem?_eq_getElem (by simpa using hi)]
        simp) yt hd'
      rw [this, strOf_bytes]; rfl
end
end Go.VL
