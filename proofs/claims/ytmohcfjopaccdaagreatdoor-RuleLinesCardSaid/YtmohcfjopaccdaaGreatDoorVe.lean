/- More rules of the small calculus: truth values, signs, strings, what is nil. Nothing here speaks of a particular program. -/
import Derived.Test.YtmohcfjopaccdaaGreatDoorVa
import Derived.Laws.Strings3
import Derived.Laws.Concat
import Derived.Laws.Slices
import Derived.Laws.Cover3
import Derived.Laws.Pointers
namespace Go.VL
section
variable {P : Program} {N : Nat} {ops : Array Oper} {Q : Exit → Act → World → Prop} {rest : List Oper} {st : St} {w : World}
variable {t xt yt : TypeId} {p : String} {e : Array Edge} {d : Nat} {x y z : Operand}

theorem QF.fall {fn : Func} {R : Value → World → Prop} (h : QF N (RP P fn R) .ret st w) : QF N (RP P fn R) .normal st w := h
theorem QF.done3 {fn : Func} {R : Value → World → Prop} {t u o : Tmp} {v v' v2 : Value} (hr : fn.results = #[.tmp t, .tmp u, .tmp o]) (hv : sget st t = some v) (hv' : sget st u = some v') (hv2 : sget st o = some v2) (h : R (.tuple #[v, v', v2]) w) : QF N (RP P fn R) .ret st w := fun a ha =>
  ⟨ha.defers, _, by have := ha.get _ _ hv; have h2 := ha.get _ _ hv'; have h3 := ha.get _ _ hv2; simp [results, hr, Array.getD_eq_getD_getElem?, this, h2, h3], h⟩
theorem QF.done4 {fn : Func} {R : Value → World → Prop} {t u o r : Tmp} {v v' v2 v3 : Value} (hr : fn.results = #[.tmp t, .tmp u, .tmp o, .tmp r]) (hv : sget st t = some v) (hv' : sget st u = some v') (hv2 : sget st o = some v2) (hv3 : sget st r = some v3) (h : R (.tuple #[v, v', v2, v3]) w) : QF N (RP P fn R) .ret st w := fun a ha =>
  ⟨ha.defers, _, by have := ha.get _ _ hv; have h2 := ha.get _ _ hv'; have h3 := ha.get _ _ hv2; have h4 := ha.get _ _ hv3; simp [results, hr, Array.getD_eq_getD_getElem?, this, h2, h3, h4], h⟩
/-- Any operator on two values. -/
theorem RV.bin2 {op : BinOp} {a b v : Value} (hg : eqGuard op xt x y a b = pure ()) (hx : ev st x = some a) (hy : ev st y = some b) (hr : (binOp op xt a b).run P w = .ok v w) : RV P N (.binOp op xt x y yt) t st w v :=
  fun ac ha dst p e g => by
    simp only [execOp, ha.ev hx, ha.ev hy, hg, Sem.run_bind, Sem.run_pure, Result.andThen_ok, hr]
theorem RV.eqlB {a b : Bool} (hu : P.underlying xt = some .bool) (hx : ev st x = some (.bool a)) (hy : ev st y = some (.bool b)) : RV P N (.binOp .eql xt x y yt) t st w (.bool (a == b)) :=
  RV.bin2 (eqGuard_at_bool ..) hx hy (run_eql_bool w xt a b hu)
theorem RV.neqB {a b : Bool} (hu : P.underlying xt = some .bool) (hx : ev st x = some (.bool a)) (hy : ev st y = some (.bool b)) : RV P N (.binOp .neq xt x y yt) t st w (.bool (!(a == b))) :=
  RV.bin2 (eqGuard_at_bool ..) hx hy (run_neq_bool w xt a b hu)
theorem RV.neg {k : IntKind} {m : Int} (hx : ev st x = some (.int k m)) (hr : Fit k (-m)) : RV P N (.unOp .neg xt x) t st w (.int k (-m)) :=
  fun a ha dst p e g => by
    have hr' : k.wrap (-m) = -m := hr
    simp only [execOp, ha.ev hx]; simp [Op.unary, Op.intArith, pure, hr']

/-- The greater, the smaller of two. -/
theorem RV.max2 {k k' : IntKind} {m n : Int} {ats : Array TypeId} (hx : ev st x = some (.int k m)) (hy : ev st y = some (.int k' n)) : RV P N (.call ⟨.builtin .max, #[x, y], ats⟩) t st w (.int k (max m n)) :=
  fun a ha dst p e g => by
    simp only [execOp, resolve, invoke, builtin, Sem.run_bind, Sem.run_pure, Result.andThen_ok, List.map_toArray, List.map_cons, List.map_nil, ha.ev hx, ha.ev hy, run_max_int2]
    congr 3; rw [Int.max_def]; split <;> split <;> omega
theorem RV.min2 {k k' : IntKind} {m n : Int} {ats : Array TypeId} (hx : ev st x = some (.int k m)) (hy : ev st y = some (.int k' n)) : RV P N (.call ⟨.builtin .min, #[x, y], ats⟩) t st w (.int k (min m n)) :=
  fun a ha dst p e g => by
    simp only [execOp, resolve, invoke, builtin, Sem.run_bind, Sem.run_pure, Result.andThen_ok, List.map_toArray, List.map_cons, List.map_nil, ha.ev hx, ha.ev hy, run_min_int2]
    congr 3; rw [Int.min_def]; split <;> split <;> omega

/-! Strings: told by the list of their bytes. -/
def bs (l : List UInt8) : ByteArray := ⟨l.toArray⟩
theorem bs_size (l : List UInt8) : (bs l).size = l.length := by simp [bs, ByteArray.size]
theorem bs_toList (l : List UInt8) : (bs l).toList = l := ByteArray.toList_mk l
theorem bs_append (a b : List UInt8) : bs a ++ bs b = bs (a ++ b) := by
  apply ByteArray.ext
  simp [bs, ByteArray.data_append]
theorem bs_extract (l : List UInt8) (a b : Nat) : (bs l).extract a b = bs ((l.take b).drop a) := by
  rw [bs, ByteArray.extract_mk, List.drop_take]; rfl
theorem bs_all (s : ByteArray) : s = bs s.toList := by
  rw [ByteArray.toList_eq]; apply ByteArray.ext; simp [bs]
theorem bs_inj {a b : List UInt8} (h : bs a = bs b) : a = b := by
  have := congrArg ByteArray.toList h; rwa [bs_toList, bs_toList] at this

theorem binOp_str {op : BinOp} {s u : ByteArray} : binOp op xt (.string s) (.string u) = Op.stringOp op s u := by cases op <;> rfl
theorem RV.eqlS {a b : List UInt8} (hx : ev st x = some (.string (bs a))) (hy : ev st y = some (.string (bs b))) : RV P N (.binOp .eql xt x y yt) t st w (.bool (a == b)) :=
  RV.bin2 (eqGuard_at_string ..) hx hy (by rw [binOp_str]; show Result.ok (Value.bool ((bs a).toList == (bs b).toList)) w = _; rw [bs_toList, bs_toList])
theorem RV.neqS {a b : List UInt8} (hx : ev st x = some (.string (bs a))) (hy : ev st y = some (.string (bs b))) : RV P N (.binOp .neq xt x y yt) t st w (.bool (!(a == b))) :=
  RV.bin2 (eqGuard_at_string ..) hx hy (by rw [binOp_str]; show Result.ok (Value.bool (!((bs a).toList == (bs b).toList))) w = _; rw [bs_toList, bs_toList])
theorem RV.addS {a b : List UInt8} (hx : ev st x = some (.string (bs a))) (hy : ev st y = some (.string (bs b))) (hb : a.length + b.length ≤ 9223372036854775807) : RV P N (.binOp .add xt x y yt) t st w (.string (bs (a ++ b))) :=
  RV.bin2 (eqGuard_at_string ..) hx hy (by rw [binOp_str, run_string_add_sum w _ _ (by rw [bs_size, bs_size]; exact hb), bs_append])
theorem RV.lenS {a : List UInt8} {T : TypeId} (hT : P.underlying T = some .string) (hx : ev st x = some (.string (bs a))) : RV P N (.call ⟨.builtin .len, #[x], #[T]⟩) t st w (.int .i64 a.length) :=
  fun c hc dst p e g => by
    simp only [execOp, resolve, invoke, builtin, Sem.run_bind, Sem.run_pure, Result.andThen_ok, List.map_toArray, List.map_cons, List.map_nil, hc.ev hx, run_len_string w T t _ hT, bs_size]
    rfl
theorem RV.indexS {a : List UInt8} {k : IntKind} {m : Int} (hT : P.underlying xt = some .string) (hx : ev st x = some (.string (bs a))) (hy : ev st y = some (.int k m)) (i : Nat) (hm : m = i) (hi : i < a.length) : RV P N (.index xt x y) t st w (.int .u8 ((nth a i).toNat : Int)) :=
  fun c hc dst p e g => by
    subst hm
    have h2 : 0 ≤ (i : Int) ∧ (i : Int) < (bs a).size := by rw [bs_size]; omega
    simp only [execOp, hc.ev hx, hc.ev hy, Sem.run_bind, run_index_string w xt (bs a) k i hT, dif_pos h2, Result.andThen_ok]
    have : (bs a)[(i : Int).toNat]'(by rw [bs_size]; omega) = nth a i := by
      rw [nth_eq hi]; simp [bs, ByteArray.getElem_eq_getElem_data]
    rw [this]; rfl
theorem RV.sliceS {a : List UInt8} {k k' : IntKind} {m n : Int} (hT : P.underlying xt = some .string) (hx : ev st x = some (.string (bs a))) (hy : ev st y = some (.int k m)) (hz : ev st z = some (.int k' n)) (i j : Nat) (hm : m = i) (hn : n = j) (hij : i ≤ j) (hj : j ≤ a.length) :
    RV P N (.slice xt x (some y) (some z) none) t st w (.string (bs ((a.take j).drop i))) :=
  fun c hc dst p e g => by
    subst hm; subst hn
    simp only [execOp, Option.map_some, Option.map_none, hc.ev hx, hc.ev hy, hc.ev hz, run_sliceAt_string w xt _ _ _ _ hT, Sem.run_bind, run_slice_string w xt (bs a) k k' i j hT (by omega) (by omega) (by rw [bs_size]; omega), Result.andThen_ok, Int.toNat_natCast, bs_extract]
    rfl
theorem RV.sliceSlo {a : List UInt8} {k : IntKind} {m : Int} (hT : P.underlying xt = some .string) (hx : ev st x = some (.string (bs a))) (hy : ev st y = some (.int k m)) (i : Nat) (hm : m = i) (hi : i ≤ a.length) :
    RV P N (.slice xt x (some y) none none) t st w (.string (bs (a.drop i))) :=
  fun c hc dst p e g => by
    subst hm
    simp only [execOp, Option.map_some, Option.map_none, hc.ev hx, hc.ev hy, run_sliceAt_string w xt _ _ _ _ hT, Sem.run_bind, run_slice_string_l w xt (bs a) hT k i (by omega) (by rw [bs_size]; omega), Result.andThen_ok, Int.toNat_natCast, bs_extract, bs_size, List.take_length]
    rfl
theorem RV.sliceShi {a : List UInt8} {k : IntKind} {n : Int} (hT : P.underlying xt = some .string) (hx : ev st x = some (.string (bs a))) (hz : ev st z = some (.int k n)) (j : Nat) (hn : n = j) (hj : j ≤ a.length) :
    RV P N (.slice xt x none (some z) none) t st w (.string (bs (a.take j))) :=
  fun c hc dst p e g => by
    subst hn
    simp only [execOp, Option.map_some, Option.map_none, hc.ev hx, hc.ev hz, run_sliceAt_string w xt _ _ _ _ hT, Sem.run_bind, run_slice_string_h w xt (bs a) hT k j (by omega) (by rw [bs_size]; omega), Result.andThen_ok, Int.toNat_natCast, bs_extract, List.drop_zero]
    rfl
theorem RV.convS {s : ByteArray} (hs : P.underlying xt = some .string) (hd' : P.underlying yt = some .string) (hx : ev st x = some (.string s)) : RV P N (.convert xt yt x) t st w (.string s) :=
  fun a ha dst p e g => by
    simp only [execOp, ha.ev hx]
    simp [convert, run_underlying hs, run_underlying hd']

/-! Quotients. -/
theorem RV.quo {k : IntKind} {m n : Int} (hx : ev st x = some (.int k m)) (hy : ev st y = some (.int k n)) (h0 : n ≠ 0) (hr : Fit k (m.tdiv n)) : RV P N (.binOp .quo xt x y yt) t st w (.int k (m.tdiv n)) :=
  RV.bin hx hy (by rw [run_quo h0, hr])
theorem RV.rem {k : IntKind} {m n : Int} (hx : ev st x = some (.int k m)) (hy : ev st y = some (.int k n)) (h0 : n ≠ 0) : RV P N (.binOp .rem xt x y yt) t st w (.int k (m.tmod n)) :=
  RV.bin hx hy (run_rem h0)

/-! What is nil. -/
theorem RV.eqlNilSl {T : TypeId} {a : Option Addr} {l c : Nat} (hT : P.underlying xt = some (.slice T)) (hx : ev st x = some (.slice a l c)) (hy : ev st y = some (.slice none 0 0)) : RV P N (.binOp .eql xt x y yt) t st w (.bool a.isNone) :=
  RV.bin2 (eqGuard_at_slice ..) hx hy (by simp [binOp, run_equal_slice_nil w xt T a l c hT])
theorem RV.neqNilSl {T : TypeId} {a : Option Addr} {l c : Nat} (hT : P.underlying xt = some (.slice T)) (hx : ev st x = some (.slice a l c)) (hy : ev st y = some (.slice none 0 0)) : RV P N (.binOp .neq xt x y yt) t st w (.bool (!a.isNone)) :=
  RV.bin2 (eqGuard_at_slice ..) hx hy (run_neq_slice_nil w xt T a l c hT)
theorem RV.eqlNilP {q : Option Addr} (hT : P.underlying xt = some (.pointer (P.pointee xt))) (hx : ev st x = some (.pointer q)) (hy : ev st y = some (.pointer none)) : RV P N (.binOp .eql xt x y yt) t st w (.bool q.isNone) :=
  RV.bin2 (eqGuard_at_pointer ..) hx hy (run_eql_pointer_nil w xt q hT)
theorem RV.neqNilP {q : Option Addr} (hT : P.underlying xt = some (.pointer (P.pointee xt))) (hx : ev st x = some (.pointer q)) (hy : ev st y = some (.pointer none)) : RV P N (.binOp .neq xt x y yt) t st w (.bool (!q.isNone)) :=
  RV.bin2 (eqGuard_at_pointer ..) hx hy (run_neq_pointer_nil w xt q hT)

/-! Slices of slices. -/
/-- What 'v[lo:hi]' is. -/
def sliceV (v : Value) (sz lo hi : Nat) : Value :=
  match v with
  | .slice a _ cap => .slice (if cap = lo then a else a.map (·.add (lo * sz))) (hi - lo) (cap - lo)
  | _ => v
theorem Sl.slice {α : Type} {enc : α → List Value} {sz : Nat} {v : Value} {xs : List α} (h : Sl enc sz w v xs) {lo hi : Nat} (h1 : lo ≤ hi) (h2 : hi ≤ xs.length) : Sl enc sz w (sliceV v sz lo hi) ((xs.take hi).drop lo) := by
  obtain ⟨a, c, rfl, hc, hm, ha⟩ := h.shape
  have hlen : ((xs.take hi).drop lo).length = hi - lo := by simp; omega
  refine ⟨⟨_, c - lo, by rw [hlen]; rfl, by omega, by omega, fun hne => ?_⟩, fun i hi' j u hu => ?_⟩
  · rw [hlen] at hne
    obtain ⟨b, o, rfl⟩ := ha (by omega)
    rw [if_neg (by omega)]
    exact ⟨b, o + lo * sz, by simp only [Option.map_some, Addr.add]; split <;> simp_all⟩
  · rw [hlen] at hi'
    obtain ⟨b, o, rfl⟩ := ha (by omega)
    have hg : ((xs.take hi).drop lo)[i]'(by rw [hlen]; exact hi') = xs[lo + i]'(by omega) := by simp
    rw [hg] at hu
    have := h.cells (lo + i) (by omega) j u hu
    have e1 : adr (sliceV (.slice (some ⟨b, o, none⟩) xs.length c) sz lo hi) sz i = adr (.slice (some ⟨b, o, none⟩) xs.length c) sz (lo + i) := by
      simp only [sliceV, adr]
      rw [if_neg (by omega)]
      simp only [Option.map_some, Addr.add]
      split <;> simp_all [Nat.add_mul, Nat.add_assoc]
    rw [e1]; exact this
theorem RV.slice {α : Type} {enc : α → List Value} {sz : Nat} {v : Value} {xs : List α} {E : TypeId} {k k' : IntKind} {m n : Int} (h : Sl enc sz w v xs) (hT : P.underlying xt = some (.slice E)) (hs : (sizeOf E).run P w = .ok sz w)
    (hx : ev st x = some v) (hy : ev st y = some (.int k m)) (hz : ev st z = some (.int k' n)) (i j : Nat) (hm : m = i) (hn : n = j) (hij : i ≤ j) (hj : j ≤ xs.length) : RV P N (.slice xt x (some y) (some z) none) t st w (sliceV v sz i j) :=
  fun a' ha dst p e g => by
    subst hm; subst hn
    obtain ⟨a, c, rfl, hc, _, _⟩ := h.shape
    have hE : P.elem xt = E := by simp [Program.elem, hT]
    simp only [execOp, Option.map_some, Option.map_none, ha.ev hx, ha.ev hy, ha.ev hz, run_sliceAt_slice w xt _ _ _ _ (by rw [hE]; exact hT : P.underlying xt = some (.slice (P.elem xt))), Sem.run_bind, run_slice_lh w xt a xs.length c (by rw [hE]; exact hT) k k' i j (by omega) (by omega) (by omega), hE, hs, Result.andThen_ok, Int.toNat_natCast, sliced]
    rfl
theorem RV.sliceLo {α : Type} {enc : α → List Value} {sz : Nat} {v : Value} {xs : List α} {E : TypeId} {k : IntKind} {m : Int} (h : Sl enc sz w v xs) (hT : P.underlying xt = some (.slice E)) (hs : (sizeOf E).run P w = .ok sz w)
    (hx : ev st x = some v) (hy : ev st y = some (.int k m)) (i : Nat) (hm : m = i) (hi : i ≤ xs.length) : RV P N (.slice xt x (some y) none none) t st w (sliceV v sz i xs.length) :=
  fun a' ha dst p e g => by
    subst hm
    obtain ⟨a, c, rfl, hc, _, _⟩ := h.shape
    have hE : P.elem xt = E := by simp [Program.elem, hT]
    simp only [execOp, Option.map_some, Option.map_none, ha.ev hx, ha.ev hy, run_sliceAt_slice w xt _ _ _ _ (by rw [hE]; exact hT : P.underlying xt = some (.slice (P.elem xt))), Sem.run_bind, run_slice_l w xt a xs.length c (by rw [hE]; exact hT) k i (by omega) (by omega), hE, hs, Result.andThen_ok, Int.toNat_natCast, sliced]
    rfl
theorem RV.sliceHi {α : Type} {enc : α → List Value} {sz : Nat} {v : Value} {xs : List α} {E : TypeId} {k : IntKind} {n : Int} (h : Sl enc sz w v xs) (hT : P.underlying xt = some (.slice E)) (hs : (sizeOf E).run P w = .ok sz w)
    (hx : ev st x = some v) (hz : ev st z = some (.int k n)) (j : Nat) (hn : n = j) (hj : j ≤ xs.length) : RV P N (.slice xt x none (some z) none) t st w (sliceV v sz 0 j) :=
  fun a' ha dst p e g => by
    subst hn
    obtain ⟨a, c, rfl, hc, _, _⟩ := h.shape
    have hE : P.elem xt = E := by simp [Program.elem, hT]
    simp only [execOp, Option.map_some, Option.map_none, ha.ev hx, ha.ev hz, run_sliceAt_slice w xt _ _ _ _ (by rw [hE]; exact hT : P.underlying xt = some (.slice (P.elem xt))), Sem.run_bind, run_slice_h w xt a xs.length c (by rw [hE]; exact hT) k j (by omega) (by omega), hE, hs, Result.andThen_ok, Int.toNat_natCast, sliced]
    rfl
end
end Go.VL
