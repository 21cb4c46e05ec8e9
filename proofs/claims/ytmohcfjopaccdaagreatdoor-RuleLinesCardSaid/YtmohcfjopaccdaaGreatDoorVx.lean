/- Calls into what has no body, conversions of pointers, bytes that grow by strings, and the string that is made of them: for the small calculus. Nothing here speaks of a particular program. -/
import Derived.Test.YtmohcfjopaccdaaGreatDoorVb
import Derived.Test.YtmohcfjopaccdaaGreatDoorVr
import Derived.Laws.LoneSync
import Derived.Laws.CopyRow
import Derived.Lib.Builder
import Derived.Lib.AppendStr
import Derived.Lib.UnsafeStr
namespace Go.VL
open Go.RowKit

section
variable {P : Program} {N : Nat} {ops : Array Oper} {Q : Exit → Act → World → Prop} {rest : List Oper} {st : St} {w : World}
variable {t : TypeId} {p : String} {e : Array Edge} {d : Nat} {x y z : Operand}

theorem RV.convA {xt yt : TypeId} {v u : Value} (h : (convert xt yt v).run P w = .ok u w) (hx : ev st x = some v) : RV P N (.convert xt yt x) t st w u :=
  fun a ha dst p e g => by simp only [execOp, ha.ev hx, Sem.run_bind, h, Result.andThen_ok]; rfl

theorem WL.ext {f : FuncId} {args : List Operand} {ats : Array TypeId} {vs : List Value} {v : Value} {w' : World} (hr : (callFunc f vs.toArray).run P w = .ok (.value v) w') (hargs : evs st args = some vs) (hd : Nat.blt d N = true)
    (h : WL P N ops Q rest ((d, v) :: st) w') : WL P N ops Q (⟨some d, .call ⟨.value (.func f), args.toArray, ats⟩, t, p, e, none⟩ :: rest) st w :=
  WL.val hd (fun a ha => by
    simp only [execOp, resolve, Act.eval, List.map_toArray]
    rw [ha.evs hargs]
    simp [Deferred.ofValue, invoke, hr]) h
theorem WL.extU {f : FuncId} {args : List Operand} {ats : Array TypeId} {vs : List Value} {v : Value} {w' : World} (hr : (callFunc f vs.toArray).run P w = .ok (.value v) w') (hargs : evs st args = some vs)
    (h : WL P N ops Q rest st w') : WL P N ops Q (⟨none, .call ⟨.value (.func f), args.toArray, ats⟩, t, p, e, none⟩ :: rest) st w := by
  refine WL.step rfl fun a ha => ?_
  unfold Oper.wp
  have hrun : (execOp a.eval ⟨none, .call ⟨.value (.func f), args.toArray, ats⟩, t, p, e, none⟩).run P w = .ok (.value v) w' := by
    simp only [execOp, resolve, Act.eval, List.map_toArray]
    rw [ha.evs hargs]
    simp [Deferred.ofValue, invoke, hr]
  rw [hrun]
  exact h _ ha
theorem RV.ext {f : FuncId} {args : List Operand} {ats : Array TypeId} {vs : List Value} {v : Value} (hr : (callFunc f vs.toArray).run P w = .ok (.value v) w) (hargs : evs st args = some vs) :
    RV P N (.call ⟨.value (.func f), args.toArray, ats⟩) t st w v := fun a ha dst p e g => by
    simp only [execOp, resolve, Act.eval, List.map_toArray]
    rw [ha.evs hargs]
    simp [Deferred.ofValue, invoke, hr]
theorem RV.sliceData {T : TypeId} {v u : Value} (hr : (Builtin.unsafeSliceData_ #[T] t #[v]).run P w = .ok u w) (hx : ev st x = some v) : RV P N (.call ⟨.builtin .unsafeSliceData, #[x], #[T]⟩) t st w u :=
  fun a ha dst p e g => by
    simp only [execOp, resolve, invoke, builtin, Sem.run_bind, Sem.run_pure, Result.andThen_ok, List.map_toArray, List.map_cons, List.map_nil, ha.ev hx, hr]
theorem WL.unsafeString {T U : TypeId} {v u r : Value} {w' : World} (hr : (Builtin.unsafeString_ #[T, U] t #[v, u]).run P w = .ok r w') (hx : ev st x = some v) (hy : ev st y = some u) (hd : Nat.blt d N = true)
    (h : WL P N ops Q rest ((d, r) :: st) w') : WL P N ops Q (⟨some d, .call ⟨.builtin .unsafeString, #[x, y], #[T, U]⟩, t, p, e, none⟩ :: rest) st w :=
  WL.val hd (fun a ha => by
    simp only [execOp, resolve, invoke, builtin, Sem.run_bind, Sem.run_pure, Result.andThen_ok, List.map_toArray, List.map_cons, List.map_nil, ha.ev hx, ha.ev hy, hr]) h
end

/-! Arrays behind a pointer, interfaces, bound functions. -/
section
variable {P : Program} {N : Nat} {ops : Array Oper} {Q : Exit → Act → World → Prop} {rest : List Oper} {st : St} {w : World}
variable {t : TypeId} {p : String} {e : Array Edge} {d : Nat} {x y z : Operand}
theorem RV.indexAddrA {T E : TypeId} {len sz : Nat} {k : IntKind} {i : Int} {q : Addr} (hu : P.underlying T = some (.array len E)) (hE : (sizeOf E).run P w = .ok sz w)
    (hx : ev st x = some (.pointer (some q))) (hy : ev st y = some (.int k i)) (n : Nat) (hi : i = n) (hn : n < len) : RV P N (.indexAddr T x y) t st w (.pointer (some (q.add (n * sz)))) :=
  fun a ha dst p e g => by
    subst hi
    have h2 : ((n : Int) < (len : Int)) := by omega
    simp only [execOp, ha.ev hx, ha.ev hy]
    simp [Instr.indexAt, Instr.sureAddr, asIntOf, run_underlying hu, hE, h2]
    intro h3; omega
theorem RV.indexAddrA1 {T E : TypeId} {len : Nat} {k : IntKind} {i : Int} {q : Addr} (hu : P.underlying T = some (.array len E)) (hE : (sizeOf E).run P w = .ok 1 w)
    (hx : ev st x = some (.pointer (some q))) (hy : ev st y = some (.int k i)) (n : Nat) (hi : i = n) (hn : n < len) : RV P N (.indexAddr T x y) t st w (.pointer (some (q.add n))) := by
  have h := RV.indexAddrA (N := N) (t := t) hu hE hx hy n hi hn
  rwa [Nat.mul_one] at h
/-- Bytes of a string, in a new block. -/
theorem WL.bytesOf2 {xt yt : TypeId} {l : List UInt8} {E : TypeId} (hs : P.underlying xt = some .string) (hd' : P.underlying yt = some (.slice E)) (he : P.underlying E = some (.int .u8)) (hx : ev st x = some (.string (bs l))) (hsz : l.length ≤ 9223372036854775807) (hd : Nat.blt d N = true)
    (h : ∀ c w', Sl (fun b : UInt8 => [Value.int .u8 (b.toNat : Int)]) 1 w' (.slice (some ⟨w.heap.size, 0, none⟩) l.length c) l → Ext w w' → w.heap.size < w'.heap.size → WL P N ops Q rest ((d, .slice (some ⟨w.heap.size, 0, none⟩) l.length c) :: st) w') : WL P N ops Q (⟨some d, .convert xt yt x, t, p, e, none⟩ :: rest) st w := by
  have hrun := run_bytes_of_string (P := P) w xt yt E (bs l) hs hd' he
  rw [bs_size] at hrun
  refine WL.val hd (fun a ha => by simp only [execOp, ha.ev hx, Sem.run_bind, hrun, Result.andThen_ok]; rfl) (h _ _ ⟨⟨_, _, rfl, ?_, ?_, fun _ => ⟨_, _, rfl⟩⟩, fun i hi j u hu => ?_⟩ ?_ ?_)
  · exact grownCap_ge w l.length 0 E
  · have := grownCap_le_maxLen w l.length 0 E (by simpa [maxLen] using hsz); unfold maxLen at this; omega
  · obtain rfl : j = 0 := by have := (List.getElem?_eq_some_iff.1 hu).1; simpa using this
    simp only [List.getElem?_cons_zero, Option.some.injEq] at hu
    subst hu
    rw [adr_add0]
    simp only [adr, Nat.mul_one, Nat.zero_add]
    have hc := cell_of_row _ w.drew.heap.size i _ _ _ (heap_alloc_new w.drew (.cells (bytesRow (bs l) (grownCap w l.length 0 E)) E ((bytesRow (bs l) (grownCap w l.length 0 E)).size, (bytesRow (bs l) (grownCap w l.length 0 E)).size + 1)))
    rw [bytesRow_get hi] at hc
    exact hc
  · exact (Ext.refl w).drew.trans (Ext.alloc w.drew _)
  · show w.drew.heap.size < _; simp
/-- 'make([]T, 0, n)'. -/
theorem WL.makeCap {T E : TypeId} {bytes : Nat} (he : Elem P T E 1 bytes) {α : Type} (enc : α → List Value) (z0 : Value) (hz0 : (P.info? E).bind (·.zero) = some z0) (h1 : z0.oneCell' = true) {B : Nat} {O : Nat → Nat} (r : Rng B O w) (i : Nat) (hi0 : i ≠ 0) (n : Nat) {kl kc : IntKind} {m2 : Int}
    (hx : ev st x = some (.int kl 0)) (hy : ev st y = some (.int kc m2)) (hm2 : m2 = n) (hb : bytes * n ≤ 281474976710656) (h63 : n ≤ 9223372036854775807) (hd : Nat.blt d N = true)
    (h : ∀ w' O' v, RowT enc E 1 O' w' i v [] → Upd (fun k => k = i) O w O' w' → Rng B O' w' → Ext w w' → WL P N ops Q rest ((d, v) :: st) w') :
    WL P N ops Q (⟨some d, .makeSlice T x y, t, p, e, none⟩ :: rest) st w := by
  obtain ⟨inf, z, hi, hz, hsz, hby, hzs⟩ := he.parts
  have hzz : z = z0 := by rw [hi] at hz0; simpa [hz] using hz0
  subst hzz; subst hm2
  have hc1 : z.cells = #[z] := by generalize z = u at *; cases u <;> first | rfl | simp [Value.oneCell'] at h1
  have hb' : (inf.bytes : Int) * (n : Int) ≤ 281474976710656 := by
    have h : ((inf.bytes * n : Nat) : Int) ≤ 281474976710656 := by rw [hby]; omega
    rwa [Int.natCast_mul] at h
  have hrun := run_make (P := P) w T E inf _ he.ht hi hz kl kc 0 n (by omega) (by omega) hb' (by omega)
  simp only [Int.toNat_natCast, hsz, Nat.mul_one, hc1, Int.toNat_zero] at hrun
  have hz : ¬ (fun k => k = i) 0 := fun h => hi0 h.symm
  have u := Upd.alloc (S := fun k => k = i) hz r (.cells (madeCells #[z] n) E) i
  refine WL.val (v := .slice (some ⟨w.heap.size, 0, none⟩) 0 n) hd (fun a ha => by simp only [execOp, ha.ev hx, ha.ev hy, Sem.run_bind, hrun, Result.andThen_ok]; rfl) (h _ _ _ ⟨⟨⟨by simp, .inr ⟨w.heap.size, n, _, rfl, Nat.zero_le _, heap_alloc_new w _, Nat.zero_le _, by simpa [maxLen] using h63, by rw [size_madeCells]; simp, by simp⟩⟩, fun g hg => ?_⟩, fun a ha => by simp at ha⟩ u (r.upd u) (Ext.alloc _ _))
  simp only [Value.ownBlock, Option.some.injEq] at hg; subst hg; exact own1_at _ _ _
theorem RV.indexS1 {xt : TypeId} {a : List UInt8} {k : IntKind} {m : Int} {c : UInt8} (hT : P.underlying xt = some .string) (hx : ev st x = some (.string (bs a))) (hy : ev st y = some (.int k m)) (i : Nat) (hm : m = i) (hi : a[i]? = some c) : RV P N (.index xt x y) t st w (.int .u8 (c.toNat : Int)) := by
  obtain ⟨h1, h2⟩ := List.getElem?_eq_some_iff.1 hi
  have h := RV.indexS (P := P) (N := N) (t := t) (w := w) hT hx hy i hm h1
  rw [nth_eq h1, h2] at h
  exact h
theorem RV.makeIface {T E : TypeId} {v : Value} (hu : P.underlying T = some (.pointer E)) (hx : ev st x = some v) : RV P N (.makeInterface T x) t st w (.iface T v) :=
  fun a ha dst p e g => by
    simp only [execOp, ha.ev hx]
    simp [Instr.makeInterface, run_underlying hu]
theorem RV.buildArr {T E : TypeId} {n sz : Nat} {parts : List (Nat × Operand)} {vs : List (Nat × Value)} {z : Value} {cells : Array Value} (hu : P.underlying T = some (.array n E)) (hE : (sizeOf E).run P w = .ok sz w) (hz : (zeroValue T).run P w = .ok z w)
    (hv : evp st parts = some vs) (hf : Instr.fill (fun i => some (i * sz, sz)) z.cells vs = some cells) : RV P N (.build T parts.toArray) t st w (.agg cells) :=
  fun a ha dst p e g => by
    have h1 := ha.evp hv
    have e1 : (List.map (fun x : Nat × Operand => match x with | (i, x) => (i, a.eval x)) parts) = vs := by rw [← h1]
    simp only [execOp, Instr.build, List.map_toArray, e1, Sem.run_bind, hz, Result.andThen_ok, run_underlying hu, hE, hf, Sem.run_pure]
/-- 'a[:]' of an array. -/
theorem RV.sliceArr {T E : TypeId} {n sz : Nat} {q : Addr} (hu : P.underlying T = some (.array n E)) (hE : (sizeOf E).run P w = .ok sz w) (hn : n ≠ 0) (hx : ev st x = some (.pointer (some q))) : RV P N (.slice T x none none none) t st w (.slice (some q) n n) :=
  fun a ha dst p e g => by
    simp only [execOp, ha.ev hx, Option.map_none]
    simp [Instr.sliceAt, Instr.sliceBounds, Instr.sureAddr, run_underlying hu, hE, hn, Addr.add]
/-- A call of a function value that leaves the world as it was, in a region that draws. -/
theorem WS.callV {K : Act → Prop} {f : FuncId} {args : List Operand} {ats : Array TypeId} {vs : List Value} {cs : Array Value} {v : Value} (hx : ev st x = some (.func (.func f) #[] cs))
    (hf : ∀ (args : Array Value) (w : World), (callFunc f args).run P w = .ok (.enter f args) w) (hargs : evs st args = some vs) (hc : Ret P f (vs ++ cs.toList) w fun u w' => u = v ∧ w' = w) (hd : Nat.blt d N = true)
    (h : WS P N ops w K rest ((d, v) :: st)) : WS P N ops w K (⟨some d, .call ⟨.value x, args.toArray, ats⟩, t, p, e, none⟩ :: rest) st := by
  intro a ha
  unfold wpStill
  rw [if_pos (wanted_none rfl _)]
  unfold Oper.still
  have hrun : (execOp a.eval ⟨some d, .call ⟨.value x, args.toArray, ats⟩, t, p, e, none⟩).run P w = .ok (.enter f (vs ++ cs.toList).toArray) w := by
    simp only [execOp, resolve, List.map_toArray, ha.evs hargs, ha.ev hx]
    simp [Deferred.ofValue, Go.invoke, hf]
  rw [hrun]
  refine ⟨rfl, v, Calls.mono hc fun e w' q => ?_, h _ (ha.put hd v)⟩
  cases e with
  | returned u => exact ⟨by rw [q.1], q.2⟩
  | panicked c => exact q.elim
  | outgrown => exact q.elim
theorem run_method {T E : TypeId} {v : Value} {name : String} {f : FuncId} (hu : P.underlying T = some (.pointer E)) (hm : ((P.info? T).bind (fun i => i.methods.find? (fun m => m.name == name))).map (fun m => (m.path, m.func)) = some (#[], some (f, true))) :
    (method (P.types.size + Made.depth) T v name).run P w = .ok (f, v) w := by
  obtain ⟨k, hk⟩ : ∃ k, P.types.size + Made.depth = k + 1 := ⟨P.types.size + (Made.depth - 1), by simp [Made.depth]⟩
  obtain ⟨m, hm1, hm2⟩ := Option.map_eq_some_iff.1 hm
  obtain ⟨i, hi, hf⟩ := Option.bind_eq_some_iff.1 hm1
  obtain ⟨hp, hfn⟩ := Prod.mk.inj hm2
  rw [hk]
  unfold method
  simp [typeInfo, hi, hf, hp, hfn, follow, receiverAt, Place.get, run_underlying hu]
/-- A method called through an interface. -/
theorem WL.callI {T E : TypeId} {name : String} {v : Value} {f : FuncId} {args : List Operand} {ats : Array TypeId} {vs : List Value} {R : Value → World → Prop} (hx : ev st x = some (.iface T v)) (hu : P.underlying T = some (.pointer E))
    (hm : ((P.info? T).bind (fun i => i.methods.find? (fun m => m.name == name))).map (fun m => (m.path, m.func)) = some (#[], some (f, true)))
    (hf : ∀ (args : Array Value) (w : World), (callFunc f args).run P w = .ok (.enter f args) w) (hargs : evs st args = some vs) (hc : Ret P f (v :: vs) w R) (hd : Nat.blt d N = true)
    (h : ∀ v w', R v w' → WL P N ops Q rest ((d, v) :: st) w') : WL P N ops Q (⟨some d, .call ⟨.invoke x name, args.toArray, ats⟩, t, p, e, none⟩ :: rest) st w := by
  refine WL.step rfl fun a ha => ?_
  unfold Oper.wp
  have hrun : (execOp a.eval ⟨some d, .call ⟨.invoke x name, args.toArray, ats⟩, t, p, e, none⟩).run P w = .ok (.enter f (v :: vs).toArray) w := by
    simp only [execOp, resolve, List.map_toArray, ha.evs hargs, ha.ev hx]
    have hmr := run_method (P := P) (w := w) (v := v) hu hm
    simp [Go.invoke, callMethod, hmr, hf]
  rw [hrun]
  exact Calls.mono hc fun e w' q => by
    cases e with
    | returned v => exact h v w' q _ (ha.put hd v)
    | panicked c => exact q.elim
    | outgrown => exact q.elim
/-- A call of a function value that has its first arguments. -/
theorem WL.callVU {f : FuncId} {args : List Operand} {ats : Array TypeId} {vs fs : List Value} {cs : Array Value} {R : Value → World → Prop}
    (hx : ev st x = some (.func (.func f) fs.toArray cs))
    (hf : ∀ (args : Array Value) (w : World), (callFunc f args).run P w = .ok (.enter f args) w) (hargs : evs st args = some vs) (hc : Ret P f (fs ++ vs ++ cs.toList) w R) (hd : Nat.blt d N = true)
    (h : ∀ v w', R v w' → WL P N ops Q rest ((d, v) :: st) w') : WL P N ops Q (⟨some d, .call ⟨.value x, args.toArray, ats⟩, t, p, e, none⟩ :: rest) st w := by
  refine WL.step rfl fun a ha => ?_
  unfold Oper.wp
  have hrun : (execOp a.eval ⟨some d, .call ⟨.value x, args.toArray, ats⟩, t, p, e, none⟩).run P w = .ok (.enter f (fs ++ vs ++ cs.toList).toArray) w := by
    simp only [execOp, resolve, List.map_toArray, ha.evs hargs, ha.ev hx]
    simp [Deferred.ofValue, Go.invoke, hf]
  rw [hrun]
  exact Calls.mono hc fun e w' q => by
    cases e with
    | returned v => exact h v w' q _ (ha.put hd v)
    | panicked c => exact q.elim
    | outgrown => exact q.elim
end

/-! Bytes that grow by a string. -/
abbrev encB (b : UInt8) : List Value := [.int .u8 (b.toNat : Int)]
theorem flatEncB (l : List UInt8) : l.flatMap encB = l.map fun b => Value.int .u8 (b.toNat : Int) := by
  induction l with
  | nil => rfl
  | cons a l ih => simp [ih]
theorem strCells_bs (l : List UInt8) : Lib.strCells (bs l) = l.flatMap encB := by rw [flatEncB]; simp [Lib.strCells, bs]

def capOk (v : Value) : Prop := ∀ a n c, v = .slice (some a) n c → c ≠ 0
theorem capOk.nil : capOk (.slice none 0 0) := fun _ _ _ e => by cases e

theorem run_appendStr_tag {P : Program} {w : World} {T U ty E : TypeId} (he : Elem P T E 1 1) (hu : P.underlying U = some .string) {B : Nat} {O : Nat → Nat} (r : Rng B O w) {i : Nat}
    {v : Value} {l : List UInt8} (hr : RowT encB E 1 O w i v l) (s : List UInt8) (hbytes : l.length + s.length ≤ 140737488355328) (hi0 : i ≠ 0) :
    ∃ v' w' O', (Builtin.append_ #[T, U] ty #[v, .string (bs s)]).run P w = .ok v' w' ∧ RowT encB E 1 O' w' i v' (l ++ s) ∧ Upd (fun k => k = i) O w O' w' ∧ (capOk v → capOk v') := by
  obtain ⟨inf, z, hi, hz, hsz, hby, hzs⟩ := he.parts
  have ht := he.ht
  have hz0 : ¬ (0 = i) := fun h => hi0 h.symm
  have hown := hr.1
  have h1 : ∀ x ∈ l ++ s, (encB x).length = 1 := fun _ _ => rfl
  have hfl : ∀ l : List UInt8, (l.flatMap encB).length = l.length := fun l => by rw [flatEncB]; simp
  have grown : ∀ (old : Nat), old < l.length + s.length →
      RowT encB E 1 (own1 O w.heap.size i) (w.drew.alloc (.cells ((l.flatMap encB).toArray ++ (Lib.strCells (bs s)).toArray ++ Builtin.zeroCells z.cells (grownCap w (l.length + s.length) old E - (l.length + s.length))) E)) i
        (.slice (some ⟨w.heap.size, 0, none⟩) (l.length + s.length) (grownCap w (l.length + s.length) old E)) (l ++ s) ∧
      Upd (fun k => k = i) O w (own1 O w.heap.size i) (w.drew.alloc (.cells ((l.flatMap encB).toArray ++ (Lib.strCells (bs s)).toArray ++ Builtin.zeroCells z.cells (grownCap w (l.length + s.length) old E - (l.length + s.length))) E)) ∧
      capOk (.slice (some ⟨w.heap.size, 0, none⟩) (l.length + s.length) (grownCap w (l.length + s.length) old E)) := by
    intro old ho
    have hge := grownCap_ge w (l.length + s.length) old E
    have hcm : grownCap w (l.length + s.length) old E ≤ maxLen := grownCap_le_maxLen w (l.length + s.length) old E (by simp only [maxLen]; omega)
    have hlf : ((l ++ s).flatMap encB).length = l.length + s.length := by rw [hfl]; simp
    have hss : (Lib.strCells (bs s)).length = s.length := by rw [strCells_bs, hfl]
    refine ⟨⟨⟨⟨by rw [hlf]; simp, .inr ⟨w.heap.size, _, _, by rw [List.length_append], Nat.zero_le _, heap_alloc_new w.drew _, by rw [List.length_append]; exact hge, hcm, ?_, ?_⟩⟩, ?_⟩, h1⟩, ?_, ?_⟩
    · simp only [Array.size_append, List.size_toArray, size_zeroCells, hzs, hfl, hss]
      omega
    · simp only [Array.toList_append, List.append_assoc]
      rw [List.flatMap_append, ← strCells_bs s, ← List.append_assoc, List.length_append, Nat.mul_one]
      have : l.length + s.length = (l.flatMap encB ++ Lib.strCells (bs s)).length := by rw [List.length_append, hfl, hss]
      rw [this]
      exact List.take_left
    · intro g hg; simp [Value.ownBlock] at hg; subst hg; exact own1_at _ _ _
    · have u := Upd.alloc (S := fun k => k = i) (w := w.drew) hz0 (B := B) ⟨r.le, r.rng⟩ (.cells ((l.flatMap encB).toArray ++ (Lib.strCells (bs s)).toArray ++ Builtin.zeroCells z.cells (grownCap w (l.length + s.length) old E - (l.length + s.length))) E) i
      exact ⟨u.os, u.tape, u.output, u.size, u.blk, u.tag, u.new, u.z⟩
    · intro a n c hc; cases hc; omega
  rcases hown.row.2 with ⟨rfl, hl0⟩ | ⟨g, cap, cur, rfl, hbg, hg, hnc, hcm, hcs, htake⟩
  · obtain rfl : l = [] := List.eq_nil_of_length_eq_zero hl0
    by_cases hm : s = []
    · subst hm
      refine ⟨.slice none 0 0, w, O, ?_, by simpa using RowT.nil encB E 1 O w i, Upd.refl hz0 _ _, fun h => h⟩
      rw [show bs [] = ByteArray.empty from rfl]
      simp [Builtin.append_, run_underlying ht, run_underlying hu, sizeOf, typeInfo, hi, Builtin.lenOf, Builtin.firstCells]
    · have hpos : 0 < s.length := List.length_pos_iff.2 hm
      have hrr := run_append_nil_string (P := P) (w := w) T U ty E inf z ht hu hi hz (bs s) (by rw [bs_size]; exact hpos) (by rw [bs_size]; simp at hbytes; omega) (by rw [bs_size, hby]; simp at hbytes; omega)
      obtain ⟨g1, g2, g3⟩ := grown 0 (by simpa using hpos)
      simp only [List.length_nil, Nat.zero_add, List.flatMap_nil, List.nil_append, Array.empty_append, bs_size] at g1 g2 g3 hrr ⊢
      rw [show (bs s).data.map (fun b => Value.int .u8 (b.toNat : Int)) = (Lib.strCells (bs s)).toArray from by apply Array.ext'; simp [Lib.strCells, bs]] at hrr
      exact ⟨_, _, _, hrr, g1, g2, fun _ => g3⟩
  · have htag : O g = i := hown.tag g rfl
    by_cases hroom : l.length + s.length ≤ cap
    · have hss : (Lib.strCells (bs s)).length = s.length := by rw [strCells_bs, hfl]
      have hrr := Lib.run_append_room_string (P := P) (w := w) T U ty E inf ht hu hi hsz g l.length cap cur hg (bs s) (by rw [bs_size]; exact hroom) (by rw [bs_size, hcs]; omega)
      refine ⟨_, _, O, hrr, ⟨⟨⟨by rw [hfl]; simp, .inr ⟨g, cap, _, by rw [List.length_append, bs_size], hbg, setRow_heap w g cur _ E _ hg, by rw [List.length_append]; exact hroom, hcm, ?_, ?_⟩⟩, fun g' hg' => by simp [Value.ownBlock] at hg'; subst hg'; exact htag⟩, h1⟩, ⟨rfl, rfl, rfl, by simp, fun k _ hk => setRow_other w g k _ (fun e => hk (by subst e; exact htag)), fun _ _ => rfl, fun _ h => .inl h, hz0⟩, fun h a n c hc => by cases hc; exact h _ _ _ rfl⟩
      · simp only [List.size_toArray, List.length_append, List.length_take, List.length_drop, Array.length_toList, hss, bs_size]
        omega
      · rw [Nat.mul_one] at htake
        rw [htake, List.length_append, Nat.mul_one, List.flatMap_append, ← strCells_bs s]
        have : l.length + s.length = (l.flatMap encB ++ Lib.strCells (bs s)).length := by rw [List.length_append, hfl, hss]
        rw [this]
        exact List.take_left
    · have holds : ∀ j u, (l.flatMap encB)[j]? = some u → w.cell? ((⟨g, 0, none⟩ : Addr).add j) = some u := hown.row.cells (g := g) rfl
      have hrr := Lib.run_append_grow_string (P := P) (w := w) T U ty E inf z ht hu hi hz ⟨g, 0, none⟩ l.length cap (l.flatMap encB) (by rw [hfl, hsz]; omega) holds (bs s) (by rw [bs_size]; omega) (by rw [bs_size]; omega) (by rw [bs_size]; exact growslice_fits (by omega) (by rw [hby]; omega))
      obtain ⟨g1, g2, g3⟩ := grown cap (by omega)
      exact ⟨_, _, _, hrr, g1, g2, fun _ => g3⟩

section
variable {P : Program} {N : Nat} {ops : Array Oper} {Q : Exit → Act → World → Prop} {rest : List Oper} {st : St} {w : World}
variable {t : TypeId} {p : String} {e : Array Edge} {d : Nat} {x y z : Operand}
theorem WL.appendStr {T U E : TypeId} (he : Elem P T E 1 1) (hu : P.underlying U = some .string) {B : Nat} {O : Nat → Nat} (r : Rng B O w) {i : Nat} {v : Value} {l : List UInt8} (hr : RowT encB E 1 O w i v l) (s : List UInt8)
    (hx : ev st x = some v) (hy : ev st y = some (.string (bs s))) (hb : l.length + s.length ≤ 140737488355328) (hi0 : i ≠ 0) (hd : Nat.blt d N = true)
    (h : ∀ v' w' O', RowT encB E 1 O' w' i v' (l ++ s) → Upd (fun k => k = i) O w O' w' → Rng B O' w' → (capOk v → capOk v') → WL P N ops Q rest ((d, v') :: st) w') :
    WL P N ops Q (⟨some d, .call ⟨.builtin .append, #[x, y], #[T, U]⟩, t, p, e, none⟩ :: rest) st w := by
  obtain ⟨v', w', O', h1, h2, h3, h4⟩ := run_appendStr_tag (ty := t) he hu r hr s hb hi0
  refine WL.val hd (fun a ha => ?_) (h v' w' O' h2 h3 (r.upd h3) h4)
  simp only [execOp, resolve, invoke, builtin, Sem.run_bind, Sem.run_pure, Result.andThen_ok, List.map_toArray, List.map_cons, List.map_nil, ha.ev hx, ha.ev hy, h1]
end

/-- 'copy(buf[off:], x)'. -/
theorem run_copyAt {P : Program} {w : World} {dT sT ty E : TypeId} {α : Type} {val : α → Value} {O : Nat → Nat} {i : Nat} {v sv : Value} {l us : List α} (hu : P.underlying dT = some (.slice E)) (hsz : (P.info? E).map (·.size) = some 1)
    (hr : RowT (fun x => [val x]) E 1 O w i v l) (hi0 : i ≠ 0) (hs : Sl (fun x => [val x]) 1 w sv us) (off : Nat) (hfit : off + us.length ≤ l.length) (hne : us.length ≠ 0) (h1 : ∀ a, (val a).oneCell' = true) :
    ∃ w', (Builtin.copy_ #[dT, sT] ty #[sliceV v 1 off l.length, sv]).run P w = .ok (.int .i64 us.length) w' ∧ RowT (fun x => [val x]) E 1 O w' i v (l.take off ++ us ++ l.drop (off + us.length)) ∧ Upd (fun k => k = i) O w O w' := by
  have hz : ¬ (fun k => k = i) 0 := fun h => hi0 h.symm
  have hfm : ∀ l : List α, (l.flatMap fun x => [val x]) = l.map val := fun l => by induction l <;> simp_all
  rcases hr.1.row.2 with ⟨rfl, h0⟩ | ⟨g, cap, cur, rfl, hb0, hg, hnc, hcm, hcs, ht⟩
  · omega
  · obtain ⟨a, c, rfl, hc, _, ha⟩ := hs.shape
    obtain ⟨b, o, rfl⟩ := ha hne
    have htag := hr.1.tag g rfl
    have hsv : sliceV (.slice (some ⟨g, 0, none⟩) l.length cap) 1 off l.length = .slice (some ⟨g, off, none⟩) (l.length - off) (cap - off) := by
      simp only [sliceV]; rw [if_neg (by omega)]; simp [Addr.add]; intro h; exact h.symm
    have hrun := run_copy_row (P := P) w dT sT ty E g off (l.length - off) (cap - off) ⟨b, o, none⟩ us.length c cur E (us.map val) hu hsz hg (by simp [Nat.min_def]; omega) (fun j x hx => by
      obtain ⟨y, hy, rfl⟩ := List.getElem?_map .. ▸ hx |> Option.map_eq_some_iff.1
      obtain ⟨hj, rfl⟩ := List.getElem?_eq_some_iff.1 hy
      have := hs.cells j hj 0 _ rfl
      rw [adr_add0] at this
      simp only [adr, Nat.mul_one] at this
      rw [show (⟨b, o, none⟩ : Addr).add j = ⟨b, o + j, none⟩ from by simp only [Addr.add]; split <;> simp_all]
      exact this) (by simp; omega) (by intro x hx; obtain ⟨y, _, rfl⟩ := List.mem_map.1 hx; exact h1 y)
    rw [hsv]
    have hln : (l.take off ++ us ++ l.drop (off + us.length)).length = l.length := by simp; omega
    refine ⟨_, by rw [hrun, List.length_map]; rfl, ⟨⟨⟨by rw [hfm]; simp, .inr ⟨g, cap, _, by rw [hln], hb0, setRow_heap w g cur _ E _ hg, by rw [hln]; exact hnc, hcm, by simp; omega, ?_⟩⟩, fun g' hg' => by simp [Value.ownBlock] at hg'; subst hg'; exact htag⟩, fun _ _ => rfl⟩, ⟨rfl, rfl, rfl, by simp, fun k _ hk => setRow_other w g k _ (fun e => hk (by subst e; exact htag)), fun _ _ => rfl, fun _ h => .inl h, hz⟩⟩
    rw [hfm] at ht ⊢
    rw [Nat.mul_one] at ht
    rw [Nat.mul_one, hln]
    simp only [List.map_append, List.map_take, List.map_drop]
    rw [← ht]
    apply List.ext_getElem?
    intro j
    simp only [List.getElem?_take, List.getElem?_append, List.getElem?_drop, List.length_take, List.length_append, List.length_map, Array.length_toList, List.take_take]
    have hcap : cur.size = cap := by omega
    rw [hcap]
    have e1 : min off cap = off := by omega
    have e2 : min (min off l.length) cap = off := by omega
    simp only [e1, e2]
    by_cases hj : j < l.length
    · rw [if_pos hj]
      by_cases hj2 : j < off + us.length
      · rw [if_pos hj2, if_pos hj2]
        by_cases hj3 : j < off
        · rw [if_pos hj3, if_pos hj3, if_pos hj3, if_pos (by omega)]
        · rw [if_neg hj3, if_neg hj3]
      · rw [if_neg hj2, if_neg hj2, if_pos (by omega)]
    · rw [if_neg hj, if_neg (by omega), if_neg (by omega)]
section
variable {P : Program} {N : Nat} {ops : Array Oper} {Q : Exit → Act → World → Prop} {rest : List Oper} {st : St} {w : World}
variable {t : TypeId} {p : String} {e : Array Edge} {d : Nat} {x y z : Operand}
theorem WL.copyAt {dT sT E : TypeId} {α : Type} {val : α → Value} {O : Nat → Nat} {i : Nat} {v sv : Value} {l us : List α} (hu : P.underlying dT = some (.slice E)) (hsz : (P.info? E).map (·.size) = some 1)
    (hr : RowT (fun x => [val x]) E 1 O w i v l) (hi0 : i ≠ 0) (hs : Sl (fun x => [val x]) 1 w sv us) (off : Nat) (hfit : off + us.length ≤ l.length) (hne : us.length ≠ 0) (h1 : ∀ a, (val a).oneCell' = true)
    (hx : ev st x = some (sliceV v 1 off l.length)) (hy : ev st y = some sv) (hd : Nat.blt d N = true)
    (h : ∀ w', RowT (fun x => [val x]) E 1 O w' i v (l.take off ++ us ++ l.drop (off + us.length)) → Upd (fun k => k = i) O w O w' → WL P N ops Q rest ((d, .int .i64 us.length) :: st) w') :
    WL P N ops Q (⟨some d, .call ⟨.builtin .copy, #[x, y], #[dT, sT]⟩, t, p, e, none⟩ :: rest) st w := by
  obtain ⟨w', h2, h3, h4⟩ := run_copyAt (sT := sT) (ty := t) hu hsz hr hi0 hs off hfit hne h1
  refine WL.val hd (fun a ha => ?_) (h w' h3 h4)
  simp only [execOp, resolve, invoke, builtin, Sem.run_bind, Sem.run_pure, Result.andThen_ok, List.map_toArray, List.map_cons, List.map_nil, ha.ev hx, ha.ev hy, h2]
end

theorem Upd.freeze {O : Nat → Nat} {w : World} {i g : Nat} (hi : i ≠ 0) (h : O g = i) (n : Nat) : Upd (fun j => j = i) O w O (w.freeze ⟨g, 0, none⟩ n) := by
  have hz : ¬ (fun j => j = i) 0 := fun e => hi e.symm
  unfold World.freeze
  split
  · exact Upd.refl hz _ _
  · refine ⟨rfl, rfl, rfl, by simp, fun k _ hk => ?_, fun _ _ => rfl, fun _ h => .inl h, hz⟩
    have : k ≠ g := fun e => hk (by rw [e]; exact h)
    simp [Array.getElem?_modify, Ne.symm this]

/-- The string of some bytes that a call has grown: they are frozen. -/
theorem run_strOf {P : Program} {O : Nat → Nat} {w : World} {i : Nat} {E T pt it ty ty' : TypeId} {v : Value} {l : List UInt8} (hr : RowT encB E 1 O w i v l) (hc : capOk v) (hi : i ≠ 0)
    (hp : P.underlying pt = some (.pointer E)) (hE : P.cellsOf E = 1) :
    ∃ q w', (Builtin.unsafeSliceData_ #[T] ty #[v]).run P w = .ok (.pointer q) w ∧ (Builtin.unsafeString_ #[pt, it] ty' #[.pointer q, .int .i64 l.length]).run P w = .ok (.string (bs l)) w' ∧ Upd (fun j => j = i) O w O w' := by
  have hz : ¬ (fun j => j = i) 0 := fun e => hi e.symm
  rcases hr.1.row.2 with ⟨rfl, hl0⟩ | ⟨g, cap, cur, rfl, hbg, hg, hnc, hcm, hcs, htake⟩
  · obtain rfl : l = [] := List.eq_nil_of_length_eq_zero hl0
    exact ⟨none, w, rfl, Lib.run_unsafeString_none (P := P) w pt it ty' none, Upd.refl hz _ _⟩
  · have hcap : cap ≠ 0 := hc _ _ _ rfl
    refine ⟨some ⟨g, 0, none⟩, ?_⟩
    by_cases h0 : l = []
    · subst h0
      exact ⟨w, Lib.run_unsafeSliceData_row w _ _ _ _ _ hcap, Lib.run_unsafeString_none (P := P) w pt it ty' (some ⟨g, 0, none⟩), Upd.refl hz _ _⟩
    · refine ⟨_, Lib.run_unsafeSliceData_row w _ _ _ _ _ hcap, Lib.run_unsafeString_row w pt it ty' E hp hE g cur.size (by simp [World.shape?, hg]) l h0 (by omega) (by unfold maxLen at hcm; omega) ?_, Upd.freeze hi (hr.1.tag g rfl) _⟩
      intro j b hb
      exact hr.1.row.cells (g := g) rfl j (.int .u8 b.toNat) (by rw [flatEncB]; simp [hb])

section
variable {P : Program} {N : Nat} {st : St} {w : World} {fn : Func} {R : Value → World → Prop}
theorem QF.doneC3 {t u o : Tmp} {T : TypeId} {q : Addr} {us : List Value} {v' v2 : Value} (hr : fn.results = #[.cell t T, .tmp u, .tmp o]) (hv : sget st t = some (.pointer (some q))) (hv' : sget st u = some v') (hv2 : sget st o = some v2)
    (hc : ∀ j u, us[j]? = some u → w.cell? (q.add j) = some u) (hT : (isAgg T).run P w = .ok true w) (hn : (sizeOf T).run P w = .ok us.length w) (h : R (.tuple #[.agg us.toArray, v', v2]) w) : QF N (RP P fn R) .ret st w := fun a ha =>
  ⟨ha.defers, _, by have h1 := ha.get _ _ hv; have h2 := ha.get _ _ hv'; have h3 := ha.get _ _ hv2; simp [results, hr, Array.getD_eq_getD_getElem?, h1, h2, h3, asAddr, run_loadVar_agg hc hT hn], h⟩
end

/-! A function that is called both ways: at once, and as a deferred call. -/
def RetD (P : Program) (f : FuncId) (args : List Value) (w : World) (R : Value → World → Prop) : Prop :=
  CallsDIn Fence.wide 0 P f args.toArray .returning w fun | .returned v, u, w' => u = .returning ∧ R v w' | _, _, _ => False
theorem RetB.enter {P : Program} {N : Nat} {f : FuncId} {fn : Func} {c : Code} {args : List Value} {w : World} {R : Value → World → Prop}
    (hf : P.funcs[f]? = some fn) (hN : fn.ntmps = N) (hb : fn.body = some c) (hle : Nat.ble args.length N = true)
    (h : WC P N c (RP P fn R) (stOf 0 args) w) : Ret P f args w R ∧ RetD P f args w R := by
  refine ⟨Ret.enter hf hN hb hle h, ?_⟩
  have hst := fits_start (N := N) (args := args) hle (st := stOf 0 args) fun t v hv => by simpa using (sget_stOf args 0 t v hv).2
  have hw := wpIn_wide (n := 0) |>.2 (h _ hst)
  have h2 := callsDIn_of_wp (F := Fence.wide) (n := 0) (P := P) (f := f) (fn := fn) (c := c) (args := args.toArray) (u := .returning) (w := w) (R := retE R) hf hb trivial (by
    rw [hN]
    refine wpIn_mono (by simpa using hw) ?_
    intro e a w' q
    cases e <;> first | exact q | exact q.elim)
  refine CallsDIn.mono h2 ?_
  rintro e u w' ⟨rfl, q⟩
  cases e <;> first | exact ⟨rfl, q⟩ | exact q.elim
end Go.VL
namespace Go.VL
section
variable {P : Program} {N : Nat} {ops : Array Oper} {Q : Exit → Act → World → Prop} {rest : List Oper} {st : St} {w : World}
variable {t : TypeId} {p : String} {e : Array Edge} {d : Nat} {x y z : Operand}
/-- A slice of one element, in a new block. -/
theorem WL.buildOne2 {T E : TypeId} {sz bytes : Nat} (he : Elem P T E sz bytes) {α : Type} {enc : α → List Value} (u : α) {xv : Value} (hx : ev st x = some xv) (hxv : xv.cells.toList = enc u) (hul : (enc u).length = sz) (hs : sz ≤ 16777216) (hd : Nat.blt d N = true)
    (h : ∀ w', Sl enc sz w' (.slice (some ⟨w.heap.size, 0, none⟩) 1 1) [u] → Ext w w' → WL P N ops Q rest ((d, .slice (some ⟨w.heap.size, 0, none⟩) 1 1) :: st) w') : WL P N ops Q (⟨some d, .buildSlice T 1 #[(0, x)], t, p, e, none⟩ :: rest) st w := by
  obtain ⟨inf, z, hi, hz, hsz, hby, hzs⟩ := he.parts
  have hcs : xv.cells.size = sz := by rw [← hul, ← hxv]; simp
  have hpos := he.pos
  refine WL.val (v := .slice (some ⟨w.heap.size, 0, none⟩) 1 1) (w' := w.alloc (.cells xv.cells E)) hd (fun a ha => ?_) (h _ ⟨⟨_, 1, rfl, Nat.le_refl _, by simp, fun _ => ⟨_, _, rfl⟩⟩, fun i hi j c hc => ?_⟩ (Ext.alloc _ _))
  · have := run_buildSlice (P := P) w T E 1 #[(0, xv)] xv.cells inf z he.ht hi hz (by rw [hsz]; omega) (by rw [hsz]; omega) (by
      rw [hsz]
      exact fill_one hcs (by simp))
    simp only [execOp, List.map_toArray, List.map_cons, List.map_nil, ha.ev hx, Sem.run_bind, this, Result.andThen_ok]
    rfl
  · obtain rfl : i = 0 := by simpa using hi
    simp only [List.getElem_cons_zero] at hc
    simp only [adr, Nat.zero_mul, Nat.add_zero]
    rw [show ((⟨w.heap.size, 0, none⟩ : Addr).add j) = ⟨w.heap.size, j, none⟩ from by simp only [Addr.add]; split <;> simp_all, cell_of_row _ _ j xv.cells E (0, 0) (heap_alloc_new w _)]
    rw [← hxv] at hc; simpa using hc
end
end Go.VL
