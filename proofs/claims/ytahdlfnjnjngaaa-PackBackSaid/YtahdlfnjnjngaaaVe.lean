/- More rules of the small calculus: truth values, signs, strings, what is nil. Nothing here speaks of a particular program. -/
import Derived.Test.YtahdlfnjnjngaaaVa
namespace Go.VL
section
variable {P : Program} {N : Nat} {ops : Array Oper} {Q : Exit → Act → World → Prop} {rest : List Oper} {st : St} {w : World}
variable {t xt yt : TypeId} {p : String} {e : Array Edge} {d : Nat} {x y z : Operand}

/-- Any operator on two values. -/
theorem RV.bin2 {op : BinOp} {a b v : Value} (hg : eqGuard op xt x y a b = pure ()) (hx : ev st x = some a) (hy : ev st y = some b) (hr : (binOp op xt a b).run P w = .ok v w) : RV P N (.binOp op xt x y yt) t st w v :=
  fun ac ha dst p e g => by
    simp only [execOp, ha.ev hx, ha.ev hy, hg, Sem.run_bind, Sem.run_pure, Result.andThen_ok, hr]
theorem RV.eqlB {a b : Bool} (hu : P.underlying xt = some .bool) (hx : ev st x = some (.bool a)) (hy : ev st y = some (.bool b)) : RV P N (.binOp .eql xt x y yt) t st w (.bool (a == b)) :=
  RV.bin2 (eqGuard_at_bool ..) hx hy (run_eql_bool w xt a b hu)
theorem RV.neqB {a b : Bool} (hu : P.underlying xt = some .bool) (hx : ev st x = some (.bool a)) (hy : ev st y = some (.bool b)) : RV P N (.binOp .neq xt x y yt) t st w (.bool (!(a == b))) :=
  RV.bin2 (eqGuard_at_bool ..) hx hy (run_neq_bool w xt a b hu)
theorem RV.neg {k : IntKind} {m : Int} (hx : ev st x = some (.int k m)) (hr : Fit k (-m)) : RV P N (.unOp .neg xt x) t st w (.int k (-m)) :=
  fun a ha dst p e g => by
    have hr' : k.wrap (-m) = -m := hr
    simp only [execOp, ha.ev hx]; simp [Op.unary, Op.intArith, pure, hr']

/-- The greater, the smaller of two. -/
theorem RV.max2 {k k' : IntKind} {m n : Int} {ats : Array TypeId} (hx : ev st x = some (.int k m)) (hy : ev st y = some (.int k' n)) : RV P N (.call ⟨.builtin .max, #[x, y], ats⟩) t st w (.int k (max m n)) :=
  fun a ha dst p e g => by
    simp only [execOp, resolve, invoke, builtin, Sem.run_bind, Sem.run_pure, Result.andThen_ok, List.map_toArray, List.map_cons, List.map_nil, ha.ev hx, ha.ev hy, run_max_int2]
    congr 3; rw [Int.max_def]; split <;> split <;> omega
theorem RV.min2 {k k' : IntKind} {m n : Int} {ats : Array TypeId} (hx : ev st x = some (.int k m)) (hy : ev st y = some (.int k' n)) : RV P N (.call ⟨.builtin .min, #[x, y], ats⟩) t st w (.int k (min m n)) :=
  fun a ha dst p e g => by
    simp only [execOp, resolve, invoke, builtin, Sem.run_bind, Sem.run_pure, Result.andThen_ok, List.map_toArray, List.map_cons, List.map_nil, ha.ev hx, ha.ev hy, run_min_int2]
    congr 3; rw [Int.min_def]; split <;> split <;> omega

/-! Strings. -/
theorem binOp_str {op : BinOp} {s u : ByteArray} : binOp op xt (.string s) (.string u) = Op.stringOp op s u := by cases op <;> rfl
theorem RV.eqlS {s u : ByteArray} (hx : ev st x = some (.string s)) (hy : ev st y = some (.string u)) : RV P N (.binOp .eql xt x y yt) t st w (.bool (s.toList == u.toList)) :=
  RV.bin2 (eqGuard_at_string ..) hx hy (by rw [binOp_str]; rfl)
theorem RV.neqS {s u : ByteArray} (hx : ev st x = some (.string s)) (hy : ev st y = some (.string u)) : RV P N (.binOp .neq xt x y yt) t st w (.bool (s.toList != u.toList)) :=
  RV.bin2 (eqGuard_at_string ..) hx hy (by rw [binOp_str]; rfl)
end
end Go.VL
