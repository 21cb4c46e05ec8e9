/- Loops over functions, and functions that leave calls behind them: the small calculus in a round and at a function's end. Nothing here speaks of a particular program. -/
import Derived.Test.YtmohcfjopaccdaaGreatDoorVf
import Derived.RangeFuncLeaves
import Derived.RangeFuncCalls
import Derived.RangeFuncSeq
import Derived.TacticsIn
namespace Go.VL
open Go.RowKit

abbrev Fr (ro : Option Nat) : Fence := { Fence.wide with round := ro }

def noDefer (o : Oper) : Bool := match o.op with | .defer _ => false | _ => true
theorem noDefer_ne {o : Oper} (h : noDefer o = true) : ∀ c, o.op ≠ .defer c := by
  intro c e; simp [noDefer, e] at h

def dn (ds : List Deferred) (Q : Exit → Act → World → Prop) : Exit → Act → World → Prop := fun e a w => Q e { a with defers := a.defers ++ ds } w

theorem eval_defers (a : Act) (x : List Deferred) : ({ a with defers := x } : Act).eval = a.eval := by
  funext t; cases t <;> rfl

theorem opIn {ro : Option Nat} {P : Program} {o : Oper} {a : Act} {w : World} {next : Act → World → Prop} {Q Q1 : Exit → Act → World → Prop} {ds : List Deferred}
    (hn : ro = none ∨ noDefer o = true) (hout : ∀ a w, ¬ Q1 .outgrown a w) (hq : ∀ c a w, Q1 (.panic c) a w → Q (.panic c) { a with defers := a.defers ++ ds } w)
    (h : o.wp P a w (fun a w => next { a with defers := a.defers ++ ds } w) Q1) : o.wpIn (Fr ro) 0 P { a with defers := a.defers ++ ds } w next Q := by
  refine ⟨fun _ _ => trivial, ?_⟩
  have hs : o.semAt (Fr ro).round ({ a with defers := a.defers ++ ds } : Act).eval = execOp a.eval o := by
    rw [eval_defers]
    rcases hn with rfl | hn
    · rfl
    · exact Oper.semAt_eq _ _ _ (noDefer_ne hn)
  rw [hs]
  unfold Oper.wp at h
  generalize (execOp a.eval o).run P w = r at h ⊢
  cases r with
  | ok nx w' =>
    cases nx with
    | value v => cases hd : o.dst <;> simpa [Oper.upon, Oper.uponIn, Act.put, hd] using h
    | skip => cases hd : o.dst <;> simpa [Oper.upon, Oper.uponIn, Act.put, hd] using h
    | defer d => cases hd : o.dst <;> simpa [Oper.upon, Oper.uponIn, Act.put, hd] using h
    | enter f args =>
      refine ⟨fun hh => by simp [Fence.wide] at hh, ?_⟩
      refine CallsIn.mono (callsIn_wide.2 h : CallsIn Fence.wide _ P f args w' _) ?_
      intro e w'' q
      cases e with
      | returned v => cases hd : o.dst <;> simpa [Act.put, hd] using q
      | panicked c => exact hq _ _ _ q
      | outgrown => obtain ⟨a0, w0, q⟩ := q; exact absurd q (hout _ _)
    | row row args =>
      refine ⟨fun hh => by simp [Fence.wide] at hh, fun c cs _ => ?_⟩
      obtain ⟨v, w'', q, s⟩ := h c cs
      refine ⟨v, w'', ?_, stepsIn_wide.2 s⟩
      cases hd : o.dst <;> simpa [Act.put, hd] using q
    | _ => exact h.elim
  | halt hl w' =>
    cases hl with
    | panic v => exact hq _ _ _ h
    | _ => exact h.elim

theorem wpListIn_ofA {ro : Option Nat} {P : Program} {ops : Array Oper} {Q : Exit → Act → World → Prop} {ds : List Deferred} (l2 : List Oper) (hout : ∀ a w, ¬ Q .outgrown a w) :
    ∀ (l : List Oper), (ro = none ∨ l.all noDefer = true) → ∀ a w, wpList P ops (dn ds (Exit.then (wpListIn (Fr ro) 0 P ops Q l2) Q)) l a w → wpListIn (Fr ro) 0 P ops Q (l ++ l2) { a with defers := a.defers ++ ds } w
  | [], _, a, w, h => h
  | o :: rest, hn, a, w, h => by
    have hn1 : ro = none ∨ noDefer o = true := by rcases hn with h | h; exact .inl h; exact .inr (by simp at h; exact h.1)
    have hn2 : ro = none ∨ rest.all noDefer = true := by rcases hn with h | h; exact .inl h; exact .inr (by simp at h ⊢; exact h.2)
    rw [List.cons_append]
    unfold wpListIn
    unfold wpList at h
    have hout2 : ∀ a w, ¬ dn ds (Exit.then (wpListIn (Fr ro) 0 P ops Q l2) Q) .outgrown a w := fun a w q => hout _ _ q
    split at h
    · rename_i hw
      rw [if_pos hw]
      rcases h with h | ⟨_, a0, w0, h⟩
      · refine opIn (Q1 := dn ds (Exit.then (wpListIn (Fr ro) 0 P ops Q l2) Q)) hn1 hout2 (fun _ _ _ q => q) ?_
        have hm : ∀ a w, wpList P ops (dn ds (Exit.then (wpListIn (Fr ro) 0 P ops Q l2) Q)) rest a w → wpListIn (Fr ro) 0 P ops Q (rest ++ l2) { a with defers := a.defers ++ ds } w := wpListIn_ofA l2 hout rest hn2
        unfold Oper.wp at h ⊢
        generalize (execOp a.eval o).run P w = r at h ⊢
        cases r with
        | ok nx w' =>
          cases nx with
          | value v => exact hm _ _ h
          | skip => exact hm _ _ h
          | defer d => exact hm _ _ h
          | enter f args =>
            refine Calls.mono h ?_
            intro e w'' q
            cases e with
            | returned v => exact hm _ _ q
            | _ => exact q
          | row row args => exact Rows.mono h fun v w'' q => hm _ _ q
          | _ => exact h
        | halt hl w' => cases hl <;> exact h
      · exact absurd h (hout2 _ _)
    · rename_i hw
      rw [if_neg hw]
      refine ⟨fun _ _ => trivial, ?_⟩
      have := wpListIn_ofA l2 hout rest hn2 _ _ h
      cases hd : o.dst <;> simpa [Act.put, hd] using this

theorem then_self (Q : Exit → Act → World → Prop) : Exit.then (fun a w => Q .normal a w) Q = Q := by
  funext e a w; cases e <;> rfl
theorem wpListIn_of {ro : Option Nat} {P : Program} {ops : Array Oper} {Q : Exit → Act → World → Prop} {ds : List Deferred} (hout : ∀ a w, ¬ Q .outgrown a w)
    (l : List Oper) (hn : ro = none ∨ l.all noDefer = true) (a : Act) (w : World) (h : wpList P ops (dn ds Q) l a w) : wpListIn (Fr ro) 0 P ops Q l { a with defers := a.defers ++ ds } w := by
  have := wpListIn_ofA (ro := ro) (P := P) (ops := ops) (Q := Q) (ds := ds) [] hout l hn a w (by
    rw [show Exit.then (wpListIn (Fr ro) 0 P ops Q []) Q = Q from then_self Q]; exact h)
  rwa [List.append_nil] at this

def WI (ro : Option Nat) (P : Program) (N : Nat) (ds : List Deferred) (c : Code) (Q : Exit → Act → World → Prop) (st : St) (w : World) : Prop :=
  ∀ a, Fits N a st → c.wpIn (Fr ro) 0 P Q { a with defers := ds } w
def QI (N : Nat) (ds : List Deferred) (Q : Exit → Act → World → Prop) (e : Exit) (st : St) (w : World) : Prop :=
  ∀ a, Fits N a st → Q e { a with defers := ds } w

section
variable {P : Program} {N : Nat} {ro : Option Nat} {ds : List Deferred} {Q : Exit → Act → World → Prop} {st : St} {w : World}

theorem act_nil {N : Nat} {a : Act} {st : St} (h : Fits N a st) (ds : List Deferred) : ({ a with defers := a.defers ++ ds } : Act) = { a with defers := ds } := by rw [h.defers]; rfl
theorem act_of {N : Nat} {a : Act} {st : St} (h : Fits N a st) : ({ a with defers := [] } : Act) = a := by have := h.defers; cases a; simp_all

theorem QF.dn {e : Exit} (h : QI N ds Q e st w) : QF N (dn ds Q) e st w := fun a ha => by
  show Q e _ w
  rw [act_nil ha]; exact h a ha
theorem WI.region {id : Nat} {l : List Oper} (hn : ro = none ∨ l.all noDefer = true) (hout : ∀ a w, ¬ Q .outgrown a w) (h : WL P N l.toArray (dn ds Q) l st w) : WI ro P N ds (.region id l.toArray false) Q st w := fun a ha => by
  rw [← act_nil ha]
  exact wpIn_region_lit (wpListIn_of hout l hn a w (h a ha))
theorem WI.seq {x y : Code} (h : WI ro P N ds x (Exit.then (y.wpIn (Fr ro) 0 P Q) Q) st w) : WI ro P N ds (.seq x y) Q st w := fun a ha => wpIn_seq (h a ha)
theorem WI.skip (h : QI N ds Q .normal st w) : WI ro P N ds .skip Q st w := fun a ha => wpIn_skip (h a ha)
theorem WI.exit {id : Nat} (h : QI N ds Q (.exit id) st w) : WI ro P N ds (.exit id) Q st w := fun a ha => wpIn_exit (h a ha)
theorem WI.ret (h : QI N ds Q .ret st w) : WI ro P N ds .ret Q st w := fun a ha => wpIn_ret (h a ha)
theorem WI.block {id : Nat} {c : Code} (h : WI ro P N ds c (Exit.inBlock id Q) st w) : WI ro P N ds (.block id c) Q st w := fun a ha => wpIn_block (h a ha)
theorem Fits.evD {a : Act} (ha : Fits N a st) {x : Operand} {v : Value} (hx : VL.ev st x = some v) (ds : List Deferred) : ({ a with defers := ds } : Act).eval x = v := by rw [eval_defers]; exact ha.ev hx
theorem WI.cond {c : Operand} {x y : Code} {b : Bool} (hc : ev st c = some (.bool b)) (ht : b = true → WI ro P N ds x Q st w) (hf : b = false → WI ro P N ds y Q st w) : WI ro P N ds (.cond c x y) Q st w :=
  fun a ha => wpIn_cond_split (ha.evD hc ds) (fun e => ht e a ha) (fun e => hf e a ha)
theorem WI.condT {c : Operand} {x y : Code} {b : Bool} (hc : ev st c = some (.bool b)) (hb : b = true) (ht : WI ro P N ds x Q st w) : WI ro P N ds (.cond c x y) Q st w := by
  subst hb; exact fun a ha => wpIn_cond_true (ha.evD hc ds) (ht a ha)
theorem WI.condF {c : Operand} {x y : Code} {b : Bool} (hc : ev st c = some (.bool b)) (hb : b = false) (hf : WI ro P N ds y Q st w) : WI ro P N ds (.cond c x y) Q st w := by
  subst hb; exact fun a ha => wpIn_cond_false (ha.evD hc ds) (hf a ha)
theorem WI.weaken {c : Code} {st' : St} (hc : Cov st st') (h : WI ro P N ds c Q st' w) : WI ro P N ds c Q st w := fun a ha => h a (ha.cov hc)
theorem QI.weaken {e : Exit} {st' : St} (hc : Cov st st') (h : QI N ds Q e st' w) : QI N ds Q e st w := fun a ha => h a (ha.cov hc)

theorem QI.seqNext {y : Code} {Q' : Exit → Act → World → Prop} (h : WI ro P N ds y Q st w) : QI N ds (Exit.then (y.wpIn (Fr ro) 0 P Q) Q') .normal st w := h
theorem QI.thenExit {K : Act → World → Prop} {id : Nat} (h : QI N ds Q (.exit id) st w) : QI N ds (Exit.then K Q) (.exit id) st w := h
theorem QI.thenRet {K : Act → World → Prop} (h : QI N ds Q .ret st w) : QI N ds (Exit.then K Q) .ret st w := h
theorem QI.blockNormal {id : Nat} (h : QI N ds Q .normal st w) : QI N ds (Exit.inBlock id Q) .normal st w := h
theorem QI.blockRet {id : Nat} (h : QI N ds Q .ret st w) : QI N ds (Exit.inBlock id Q) .ret st w := h
theorem QI.blockHit {id : Nat} (h : QI N ds Q .normal st w) : QI N ds (Exit.inBlock id Q) (.exit id) st w := fun a ha => by
  show if id = id then _ else _
  rw [if_pos rfl]; exact h a ha
theorem QI.blockMiss {id id' : Nat} (hne : Nat.beq id' id = false) (h : QI N ds Q (.exit id') st w) : QI N ds (Exit.inBlock id Q) (.exit id') st w := fun a ha => by
  show if id' = id then _ else _
  rw [if_neg (fun e => by rw [e] at hne; simp at hne)]; exact h a ha

/-- A deferred call of a function: it lies ahead of the others. -/
theorem WL.deferLast {ops : Array Oper} {t : TypeId} {p : String} {e : Array Edge} {f : FuncId} {args : List Operand} {ats : Array TypeId} {vs : List Value} (hargs : evs st args = some vs)
    (h : QI N ({ target := .fn (.func f) #[], args := vs.toArray } :: ds) Q .normal st w) : WL P N ops (VL.dn ds Q) [⟨none, .defer ⟨.value (.func f), args.toArray, ats⟩, t, p, e, none⟩] st w := by
  refine WL.step rfl fun a ha => ?_
  unfold Oper.wp
  have hrun : (execOp a.eval ⟨none, .defer ⟨.value (.func f), args.toArray, ats⟩, t, p, e, none⟩).run P w = .ok (.defer { target := .fn (.func f) #[], args := vs.toArray }) w := by
    simp only [execOp, resolve, Act.eval, List.map_toArray]
    rw [ha.evs hargs]
    simp [Deferred.ofValue]
  rw [hrun]
  show Q .normal { (Act.put _ none _) with defers := _ } w
  simp only [Act.put, ha.defers]
  exact h a ha
end

theorem wpIn_loop_ghost {F : Fence} {n : Nat} {P : Program} {Q : Exit → Act → World → Prop} {a : Act} {w : World} {c : Code} (I : Nat → Act → World → Prop) (n0 : Nat) (h₀ : I n0 a w)
    (round : ∀ j a w, I j a w → c.wpIn F n P (Exit.then (fun a' w' => ∃ j', j' < j ∧ I j' a' w') Q) a w) : (Code.loop c).wpIn F n P Q a w := by
  intro b k cs hro hb hr
  have key : ∀ j a w, I j a w →
      ∃ e a' w', Q e a' w' ∧ ArrivesIn (Machine.fenced P F) P (lone (b.atR a (.code c :: .inLoop c :: k)) cs w) b k cs e a' w' := by
    intro j
    induction j using Nat.strongRecOn with
    | _ j ih =>
      intro a w hI
      obtain ⟨e, a₁, w₁, hq, harr⟩ := round j a w hI b (.inLoop c :: k) cs hro hb hr
      cases e with
      | normal =>
        obtain ⟨j', hlt, hI₁⟩ := hq
        obtain ⟨e₂, a₂, w₂, hq₂, harr₂⟩ := ih j' hlt a₁ w₁ hI₁
        exact ⟨e₂, a₂, w₂, hq₂, .of_steps (StepsIn.trans harr (.one (fenced_calm hb hr rfl) stepR_inLoop)) harr₂⟩
      | exit id => exact ⟨_, a₁, w₁, hq, .pass (x := .inLoop c) rfl (fun _ _ => .inl (by simp)) harr⟩
      | goto l => exact ⟨_, a₁, w₁, hq, .pass (x := .inLoop c) rfl (fun _ _ => .inl (by simp)) harr⟩
      | ret => exact ⟨_, a₁, w₁, hq, .pass (x := .inLoop c) rfl (fun _ _ => .inl (by simp)) harr⟩
      | panic ch => exact ⟨_, a₁, w₁, hq, .pass (x := .inLoop c) rfl (fun _ _ => .inl (by simp)) harr⟩
      | outgrown => exact ⟨_, a₁, w₁, hq, .pass (x := .inLoop c) rfl (fun _ _ => .inl (by simp)) harr⟩
  obtain ⟨e, a', w', hq, harr⟩ := key _ a w h₀
  exact ⟨e, a', w', hq, .of_steps (.one (fenced_calm hb hr rfl) stepR_loop) harr⟩

section
variable {P : Program} {N : Nat} {ro : Option Nat} {ds : List Deferred} {Q : Exit → Act → World → Prop} {st : St} {w : World}
theorem WI.loop {α : Type} {c : Code} (f : α → St) (g : α → World) (I : α → Prop) (μ : α → Nat) (x0 : α) (h0 : I x0) (hc : Cov st (f x0)) (hw : g x0 = w)
    (round : ∀ x, I x → WI ro P N ds c (Exit.then (fun a' w' => ∃ y, I y ∧ μ y < μ x ∧ (∃ a, a' = { a with defers := ds } ∧ Fits N a (f y)) ∧ g y = w') Q) (f x) (g x)) : WI ro P N ds (.loop c) Q st w := by
  intro a ha
  refine wpIn_loop_ghost (fun n a' w => ∃ y, I y ∧ μ y = n ∧ (∃ a, a' = { a with defers := ds } ∧ Fits N a (f y)) ∧ g y = w) (μ x0) ⟨x0, h0, rfl, ⟨a, rfl, ha.cov hc⟩, hw⟩ ?_
  rintro n _ w ⟨x, hI, rfl, ⟨a, rfl, hf⟩, rfl⟩
  refine wpIn_mono (round x hI a hf) ?_
  intro e a' w' hq
  cases e with
  | normal => obtain ⟨y, h1, h2, h3, h4⟩ := hq; exact ⟨μ y, h2, y, h1, rfl, h3, h4⟩
  | _ => exact hq
theorem QI.next {α : Type} {f : α → St} {g : α → World} {I : α → Prop} {m : Nat} {μ : α → Nat} (y : α) (h1 : I y) (h2 : μ y < m) (h3 : Cov st (f y)) (h4 : g y = w) :
    QI N ds (Exit.then (fun a' w' => ∃ y, I y ∧ μ y < m ∧ (∃ a, a' = { a with defers := ds } ∧ Fits N a (f y)) ∧ g y = w') Q) .normal st w := fun a ha => ⟨y, h1, h2, ⟨a, rfl, ha.cov h3⟩, h4⟩
end

/-! How a function leaves. -/
def retE (R : Value → World → Prop) : Ending → World → Prop
  | .returned v, w => R v w
  | _, _ => False

def Leave (P : Program) (N : Nat) (fn : Func) (R : Value → World → Prop) (ds : List Deferred) (st : St) (w : World) : Prop :=
  ∀ a, Fits N a st → LeavesInM Fence.wide 0 P fn a.tmps (retE R) ds .returning w

section
variable {P : Program} {N : Nat} {ds : List Deferred} {st : St} {w : World} {fn : Func} {R : Value → World → Prop}

theorem Ret.enterM {f : FuncId} {c : Code} {args : List Value} (hf : P.funcs[f]? = some fn) (hN : fn.ntmps = N) (hb : fn.body = some c) (hle : Nat.ble args.length N = true)
    (h : WI none P N [] c (bodyPostM Fence.wide 0 P fn (retE R)) (stOf 0 args) w) : Ret P f args w R := by
  have hst := fits_start (N := N) (args := args) hle (st := stOf 0 args) fun t v hv => by simpa using (sget_stOf args 0 t v hv).2
  have hw := h _ hst
  have h2 := callsIn_of_wp_marks (F := Fence.wide) (n := 0) (P := P) (f := f) (fn := fn) (c := c) (args := args.toArray) (w := w) (R := retE R) hf hb trivial (by rw [hN]; have : Fr none = Fence.wide := rfl; rw [this] at hw; simpa using hw)
  refine Calls.mono (callsIn_wide.1 h2) ?_
  intro e w' q
  cases e <;> exact q

theorem QI.leave (h : Leave P N fn R ds st w) : QI N ds (bodyPostM Fence.wide 0 P fn (retE R)) .ret st w := fun a ha => h a ha
theorem QI.fall (h : Leave P N fn R ds st w) : QI N ds (bodyPostM Fence.wide 0 P fn (retE R)) .normal st w := fun a ha => h a ha
theorem Leave.nil {v : Value} (hr : ∀ a : Act, Fits N a st → (results fn a.tmps).run P w = .ok v w) (h : R v w) : Leave P N fn R [] st w := fun a ha => ⟨v, hr a ha, h⟩
theorem Leave.done0 (hr : fn.results = #[]) (h : R (.tuple #[]) w) : Leave P N fn R [] st w := Leave.nil (fun a ha => by simp [results, hr]) h
theorem Leave.done1 {t : Tmp} {v : Value} (hr : fn.results = #[.tmp t]) (hv : sget st t = some v) (h : R v w) : Leave P N fn R [] st w :=
  Leave.nil (fun a ha => by have := ha.get _ _ hv; simp [results, hr, Array.getD_eq_getD_getElem?, this]) h
theorem Leave.doneC {t : Tmp} {T : TypeId} {q : Addr} {u : Value} (hr : fn.results = #[.cell t T]) (hv : sget st t = some (.pointer (some q))) (hc : w.cell? q = some u) (hT : (isAgg T).run P w = .ok false w) (h : R u w) : Leave P N fn R [] st w :=
  Leave.nil (fun a ha => by have := ha.get _ _ hv; simp [results, hr, Array.getD_eq_getD_getElem?, this, asAddr, loadVar, hT, hc]) h
theorem Leave.mark {D : Nat} (hD : w.heap[D]? = some (.deferred (some []))) (h : Leave P N fn R ds st (w.putObj D (.deferred none))) : Leave P N fn R ({ target := .collected D, args := #[] } :: ds) st w :=
  fun a ha => ⟨by simp, .inl ⟨D, _, rfl, run_takeDeferred hD, h a ha⟩⟩
theorem Leave.call {f : FuncId} {vs : List Value} {R' : Value → World → Prop} (hf : ∀ (args : Array Value) (w : World), (callFunc f args).run P w = .ok (.enter f args) w)
    (hc : CallsDIn Fence.wide 0 P f vs.toArray .returning w fun | .returned v, u, w' => u = .returning ∧ R' v w' | _, _, _ => False) (h : ∀ v w', R' v w' → Leave P N fn R ds st w') :
    Leave P N fn R ({ target := .fn (.func f) #[], args := vs.toArray } :: ds) st w :=
  fun a ha => ⟨by simp, .inr ⟨fun hh => by simp [Fence.wide] at hh, .func f, #[], f, vs.toArray, rfl, by simp [invoke, hf], fun _ _ => trivial, by
    refine CallsDIn.mono hc ?_
    intro e u w' q
    cases e with
    | returned v => obtain ⟨rfl, q⟩ := q; exact h v w' q a ha
    | panicked c => exact q.elim
    | outgrown => exact q.elim⟩⟩
end

/-! A loop over a function. -/
/-- What an iterator does: it hands over the elements of a list, one by one; 'Rd': what it reads. -/
def Iter {α : Type} (P : Program) (gf : Nat) (lb : List Value) (enc : α → Value) (xs : List α) (Rd : World → Prop) : Prop :=
  ∀ (l : Nat) (J : Nat → World → Prop) (Jx : World → Prop) (W : World), (∀ i W, J i W → Rd W) → (∀ i W W', J i W → Ext W W' → J i W') →
    (∀ i (hi : i < xs.length) W W', J i W → Ext W W' → YieldAt Fence.wide 0 P l #[enc xs[i]] W' fun e W2 => ((e = .returned (.bool true) ∧ J (i + 1) W2) ∨ (e = .returned (.bool false) ∧ Jx W2)) ∧ ∀ b, W.heap.size ≤ b → b < W'.heap.size → W2.heap[b]? = W'.heap[b]?) →
    J 0 W → Ret P gf (.func (.yield l) #[] #[] :: lb) W fun _ W' => J xs.length W' ∨ Jx W'

/-- A list of operations in a round, or in a function that leaves calls behind. -/
def WLI (ro : Option Nat) (P : Program) (N : Nat) (ds : List Deferred) (ops : Array Oper) (Q : Exit → Act → World → Prop) (l : List Oper) (st : St) (w : World) : Prop :=
  ∀ a, Fits N a st → wpListIn (Fr ro) 0 P ops Q l { a with defers := ds } w

section
variable {P : Program} {N : Nat} {ro : Option Nat} {ds : List Deferred} {Q : Exit → Act → World → Prop} {st : St} {w : World}
theorem WI.regionAt (i : Nat) {id : Nat} {l : List Oper} (hn : ro = none ∨ (l.take i).all noDefer = true) (hout : ∀ a w, ¬ Q .outgrown a w)
    (h : WL P N l.toArray (VL.dn ds (Exit.then (wpListIn (Fr ro) 0 P l.toArray Q (l.drop i)) Q)) (l.take i) st w) : WI ro P N ds (.region id l.toArray false) Q st w := fun a ha => by
  rw [← act_nil ha]
  refine wpIn_region_lit ?_
  have := wpListIn_ofA (l.drop i) hout (l.take i) hn a w (h a ha)
  rwa [List.take_append_drop] at this
theorem QI.list {ops : Array Oper} {l : List Oper} {Q' : Exit → Act → World → Prop} (h : WLI ro P N ds ops Q l st w) : QI N ds (Exit.then (wpListIn (Fr ro) 0 P ops Q l) Q') .normal st w := h
theorem WLI.wl {ops : Array Oper} {l : List Oper} (hn : ro = none ∨ l.all noDefer = true) (hout : ∀ a w, ¬ Q .outgrown a w) (h : WL P N ops (VL.dn ds Q) l st w) : WLI ro P N ds ops Q l st w := fun a ha => by
  rw [← act_nil ha]
  exact wpListIn_of hout l hn a w (h a ha)

/-- The iterator hands over an element. -/
theorem WLI.yield {ops : Array Oper} {rest : List Oper} {t : TypeId} {p : String} {e : Array Edge} {d : Nat} {x y : Operand} {ats : Array TypeId} {l : Nat} {u : Value} {R : Ending → World → Prop}
    (hx : ev st x = some (.func (.yield l) #[] #[])) (hy : ev st y = some u) (hc : YieldAt Fence.wide 0 P l #[u] w R) (hd : Nat.blt d N = true)
    (hR : ∀ e w', R e w' → ∃ v, e = .returned v)
    (h : ∀ v w', R (.returned v) w' → WLI none P N ds ops Q rest ((d, v) :: st) w') : WLI none P N ds ops Q (⟨some d, .call ⟨.value x, #[y], ats⟩, t, p, e, none⟩ :: rest) st w := by
  intro a ha
  unfold wpListIn
  rw [if_pos (wanted_none rfl _)]
  refine ⟨fun _ _ => trivial, ?_⟩
  obtain ⟨fn, tmps, assign, body, hy', hr⟩ := hc
  have hrun : (Oper.semAt (Fr none).round ({ a with defers := ds } : Act).eval ⟨some d, .call ⟨.value x, #[y], ats⟩, t, p, e, none⟩).run P w = .ok (.round l fn tmps assign body) w := by
    rw [eval_defers]
    rw [show (Fr none).round = none from rfl, Oper.semAt_none]
    simp only [execOp, resolve, List.map_toArray, List.map_cons, List.map_nil, ha.ev hx, ha.ev hy]
    simp [Deferred.ofValue, invoke, hy']
  rw [hrun]
  refine ⟨fun hh => by simp [Fence.wide] at hh, ?_⟩
  refine RoundIn.mono (hr : RoundIn Fence.wide _ P l fn tmps assign body w _) ?_
  intro e' w' q
  obtain ⟨v, rfl⟩ := hR _ _ q
  have := h v w' q _ (ha.put hd v)
  simpa [Act.put] using this
end

/-! The loop itself. -/
def roundQ (O : Nat → Nat) (w : World) (L : Nat) (I : (Nat → Nat) → World → Prop) (Ix : Code → (Nat → Nat) → World → Prop) : Exit → Act → World → Prop
  | .normal, _, w' => ∃ O', Upd (fun j => j ≠ 0 ∧ j ≠ L) O w O' w' ∧ I O' w'
  | .ret, _, w' => ∃ O', Upd (fun j => j ≠ 0 ∧ j ≠ L) O w O' w' ∧ Ix .ret O' w'
  | .exit id, _, w' => ∃ O', Upd (fun j => j ≠ 0 ∧ j ≠ L) O w O' w' ∧ Ix (.exit id) O' w'
  | _, _, _ => False

theorem Upd.putObj {O : Nat → Nat} {w : World} {L b : Nat} (hL : L ≠ 0) (h : O b = L) (o : Obj) : Upd (fun j => j = L) O w O (w.putObj b o) :=
  ⟨rfl, rfl, rfl, by simp, fun k _ hn => World.putObj_heap_other (fun e => hn (by rw [e]; exact h)), fun _ _ => rfl, fun _ h => .inl h, fun e => hL e.symm⟩

theorem QI.roundNext {N : Nat} {st : St} {O : Nat → Nat} {w w' : World} {L : Nat} {I : (Nat → Nat) → World → Prop} {Ix : Code → (Nat → Nat) → World → Prop} (O' : Nat → Nat) (h : Upd (fun j => j ≠ 0 ∧ j ≠ L) O w O' w') (h2 : I O' w') :
    QI N [] (roundQ O w L I Ix) .normal st w' := fun _ _ => ⟨O', h, h2⟩
theorem QI.roundRet {N : Nat} {st : St} {O : Nat → Nat} {w w' : World} {L : Nat} {I : (Nat → Nat) → World → Prop} {Ix : Code → (Nat → Nat) → World → Prop} (O' : Nat → Nat) (h : Upd (fun j => j ≠ 0 ∧ j ≠ L) O w O' w') (h2 : Ix .ret O' w') :
    QI N [] (roundQ O w L I Ix) .ret st w' := fun _ _ => ⟨O', h, h2⟩

theorem Upd.ofDrew' {S : Nat → Prop} {O O' : Nat → Nat} {w w' : World} (h : Upd S O w.drew O' w') : Upd S O w O' w' := ⟨h.os, h.tape, h.output, h.size, h.blk, h.tag, h.new, h.z⟩
/-- What was there when the owners began is there. -/
theorem Ext.trans' {S : Nat → Prop} {O O' : Nat → Nat} {w w1 w2 : World} (h : Ext w w1) (u : Upd S O w1 O' w2) (r : Rng w.heap.size O w1) : Ext w w2 := Below.trans h (u.below r)

/-- A cell that nobody owns. -/
structure Fixed (O : Nat → Nat) (w : World) (q : Addr) (u : Value) : Prop where
  cell : w.cell? q = some u
  free : O q.block = 0
theorem Upd.zero {S : Nat → Prop} {O O' : Nat → Nat} {w w' : World} (h : Upd S O w O' w') {b : Nat} (hb : b < w.heap.size) (h0 : O b = 0) : O' b = 0 :=
  Classical.byContradiction fun hne => by
    rcases h.new b hne with h1 | h1
    · exact h1 h0
    · omega
theorem Fixed.upd {S : Nat → Prop} {O O' : Nat → Nat} {w w' : World} {q : Addr} {u : Value} (h : Fixed O w q u) (k : Upd S O w O' w') : Fixed O' w' q u := by
  have hlt := World.block_lt_of_cell? w q h.cell
  have hb := k.blk q.block hlt (by rw [h.free]; exact k.z)
  refine ⟨?_, k.zero hlt h.free⟩
  have := h.cell
  unfold World.cell? at this ⊢
  rw [hb]; exact this
theorem Fixed.drew {O : Nat → Nat} {w : World} {q : Addr} {u : Value} (h : Fixed O w q u) : Fixed O w.drew q u := ⟨h.cell, h.free⟩

/-- What a round's body has in hand: the loop's variable in a box of its own. -/
theorem WI.rangeFunc {P : Program} {N : Nat} {ds : List Deferred} {Q : Exit → Act → World → Prop} {st : St} {w : World} {α : Type} {g : Operand} {p0 d0 : Nat} {T : TypeId} {id : Nat} {e1 e2 : Array Edge} {q1 q2 : String} {t1 t2 : TypeId} {body : Code}
    {gf : Nat} {lb : List Value} {enc : α → Value} {xs : List α} {Rd : World → Prop}
    (hg : ev st g = some (.func (.func gf) #[] lb.toArray)) (eg : ∀ args w, (callFunc gf args).run P w = .ok (.enter gf args) w) (it : Iter P gf lb enc xs Rd)
    (hp0 : Nat.blt p0 N = true) (hd0 : Nat.blt d0 N = true) {z : Value} (hz : ∀ W : World, (zeroValue T).run P W = .ok z W) 
    {B : Nat} {O : Nat → Nat} (r : Rng B O w) (L K : Nat) (hL : L ≠ 0) (hK : K ≠ 0) (hLK : L ≠ K)
    (hstore : ∀ (W : World) (O' : Nat → Nat) (b : Nat) (x : α) (ops : Array Oper) (Q' : Exit → Act → World → Prop), BlkO O' W K b z.cells T →
      (∀ w2, BlkO O' w2 K b (enc x).cells T → Upd (fun j => j = K) O' W O' w2 → WL P N ops Q' [] ((d0, .pointer (some ⟨b, 0, none⟩)) :: (p0, enc x) :: st) w2) →
      WL P N ops Q' [⟨none, .store T (.tmp d0) (.tmp p0), t2, q2, e2, none⟩] ((d0, .pointer (some ⟨b, 0, none⟩)) :: (p0, enc x) :: st) W)
    (I : Nat → (Nat → Nat) → World → Prop) (Ix : Code → (Nat → Nat) → World → Prop)
    (hI : ∀ i O W O' W', I i O W → Upd (fun j => j = L ∨ j = K) O W O' W' → I i O' W') (hIx : ∀ c O W O' W', Ix c O W → Upd (fun j => j = L) O W O' W' → Ix c O' W')
    (hRd : ∀ i O W, I i O W → Rd W) (h0 : I 0 O w)
    (hbody : ∀ l i (hi : i < xs.length) b O' W, Rng B O' W → I i O' W → BlkO O' W K b (enc xs[i]).cells T →
      WI (some l) P N [] body (roundQ O' W L (I (i + 1)) Ix) ((d0, .pointer (some ⟨b, 0, none⟩)) :: (p0, enc xs[i]) :: st) W)
    (hdone : ∀ D O' W, Rng B O' W → O' D = L → I xs.length O' W → W.heap[D]? = some (.deferred (some [])) → QI N ({ target := .collected D, args := #[] } :: ds) Q .normal st W)
    (hstop : ∀ D c O' W, Rng B O' W → O' D = L → Ix c O' W → W.heap[D]? = some (.deferred (some [])) → WI none P N ({ target := .collected D, args := #[] } :: ds) c Q st W) :
    WI none P N ds (.rangeFunc g #[p0] (.region id #[⟨some d0, .alloc T, t1, q1, e1, none⟩, ⟨none, .store T (.tmp d0) (.tmp p0), t2, q2, e2, none⟩] false) body) Q st w := by
  intro a ha
  refine wpIn_rangeFunc ?_
  intro fn hfn
  rw [show (Fr none).round = none from rfl]
  obtain ⟨D, hD⟩ : ∃ D, D = w.heap.size := ⟨_, rfl⟩
  obtain ⟨asg, hasg⟩ : ∃ c, c = Code.region id #[⟨some d0, .alloc T, t1, q1, e1, none⟩, ⟨none, .store T (.tmp d0) (.tmp p0), t2, q2, e2, none⟩] false := ⟨_, rfl⟩
  rw [← hasg]
  obtain ⟨rec, hrec⟩ : ∃ rec : LoopState → Option Code → Loop, rec = fun st pe => { state := st, pending := pe, fn, tmps := a.tmps, params := #[p0], assign := asg, body, defers := D } := ⟨_, rfl⟩
  obtain ⟨W1, hW1⟩ : ∃ W1, (w.alloc (.deferred (some []))).alloc (.loop (rec .ready none)) = W1 := ⟨_, rfl⟩
  obtain ⟨O1, hO1⟩ : ∃ O1, own1 (own1 O D L) (D + 1) L = O1 := ⟨_, rfl⟩
  have hzL : ¬ (fun j => j = L) 0 := fun e => hL e.symm
  have hUa : Upd (fun j => j = L) O w (own1 O D L) (w.alloc (.deferred (some []))) := by rw [hD]; exact Upd.alloc hzL r _ L
  have hU1 : Upd (fun j => j = L) O w O1 W1 := by
    rw [← hW1, ← hO1]
    refine hUa.trans ?_
    have := Upd.alloc (S := fun j => j = L) hzL (r.upd hUa) (.loop (rec .ready none)) L
    rwa [World.size_alloc, ← hD] at this
  have hR1 : Rng B O1 W1 := r.upd hU1
  have hL1 : W1.heap[D + 1]? = some (.loop (rec .ready none)) := by
    rw [← hW1, hD]; have := World.alloc_heap_new (w.alloc (.deferred (some []))) (.loop (rec .ready none)); rwa [World.size_alloc] at this
  have hK1 : W1.heap[D]? = some (.deferred (some [])) := by
    rw [← hW1, hD]; exact (Below.heap_alloc _ _ _ (by simp)).trans (World.alloc_heap_new w _)
  have hO1D : O1 D = L := by rw [← hO1]; unfold own1; rw [if_neg (by omega), if_pos rfl]
  have hO1L : O1 (D + 1) = L := by rw [← hO1]; exact own1_at _ _ _
  have hI1 : I 0 O1 W1 := hI _ _ _ _ _ h0 (hU1.mono (fun _ h => .inl h) (by rintro (h | h); exact hL h.symm; exact hK h.symm))
  refine ⟨D + 1, [{ target := .collected D, args := #[] }], W1, { target := .fn (.func gf) lb.toArray, args := #[.func (.yield (D + 1)) #[] #[]] }, W1, gf,
    #[.func (.yield (D + 1)) #[] #[]] ++ lb.toArray, W1, ?_, ?_, fun _ _ => trivial, ?_, fun hh => by simp [Fence.wide] at hh, ?_⟩
  · rw [← hW1, hrec, hD]; exact run_enterLoop_outer _ _ _ _ _
  · simp only [resolve, ha.evD hg ds]
    simp [go_sem]
  · simp [invoke, go_sem, eg]
  · have hJ := it (D + 1)
      (fun i W => ∃ O', Rng B O' W ∧ O' D = L ∧ O' (D + 1) = L ∧ I i O' W ∧ W.heap[D + 1]? = some (.loop (rec .ready none)) ∧ W.heap[D]? = some (.deferred (some [])))
      (fun W => ∃ c O', Rng B O' W ∧ O' D = L ∧ O' (D + 1) = L ∧ Ix c O' W ∧ W.heap[D + 1]? = some (.loop (rec .done (some c))) ∧ W.heap[D]? = some (.deferred (some [])))
      W1 (fun i W ⟨O', _, _, _, h, _⟩ => hRd i O' W h) (fun i W W' ⟨O', h1, h2, h3, h4, h5, h6⟩ hE => ⟨O', h1.ext hE, h2, h3, hI _ _ _ _ _ h4 (Upd.of_ext (by rintro (h | h); exact hL h.symm; exact hK h.symm) _ hE), (hE.block _ (heap_lt h5)).trans h5, (hE.block _ (heap_lt h6)).trans h6⟩) ?_ ⟨O1, hR1, hO1D, hO1L, hI1, hL1, hK1⟩
    · unfold Ret at hJ
      rw [show (Value.func (.yield (D + 1)) #[] #[] :: lb).toArray = #[.func (.yield (D + 1)) #[] #[]] ++ lb.toArray from by simp] at hJ
      refine CallsIn.mono (callsIn_wide.2 hJ : CallsIn Fence.wide _ P gf _ W1 _) ?_
      rintro e W2 q
      cases e with
      | returned v =>
        rcases q with ⟨O', hR', hoD, hoL, hi, hl, hk⟩ | ⟨c, O', hR', hoD, hoL, hi, hl, hk⟩
        · refine ⟨none, _, by have := run_endLoop (P := P) hl (by rw [hrec]; simp); rw [hrec] at this; exact this, ?_⟩
          have hUp := Upd.putObj hL hoL (w := W2) (.loop { rec .ready none with state := .exhausted })
          rw [hrec] at hUp
          have := hdone D O' _ (hR'.upd hUp) hoD (hI _ _ _ _ _ hi (hUp.mono (fun _ h => .inl h) (by rintro (h | h); exact hL h.symm; exact hK h.symm))) ((World.putObj_heap_other (by omega)).trans hk) a ha
          exact this
        · refine ⟨some c, _, by have := run_endLoop (P := P) hl (by rw [hrec]; simp); rw [hrec] at this; exact this, ?_⟩
          have hUp := Upd.putObj hL hoL (w := W2) (.loop { rec .done (some c) with state := .exhausted })
          rw [hrec] at hUp
          exact hstop D c O' _ (hR'.upd hUp) hoD (hIx _ _ _ _ _ hi hUp) ((World.putObj_heap_other (by omega)).trans hk) a ha
      | panicked c => exact q.elim
      | outgrown => exact q.elim
    · rintro i hi W0 W ⟨O', hR0, hoD, hoL, hii0, hl0, hk0⟩ hE0
      have hR' := hR0.ext hE0
      have hii := hI _ _ _ _ _ hii0 (Upd.of_ext (S := fun j => j = L ∨ j = K) (by rintro (h | h); exact hL h.symm; exact hK h.symm) O' hE0)
      have hl := (hE0.block _ (heap_lt hl0)).trans hl0
      have hk := (hE0.block _ (heap_lt hk0)).trans hk0
      have hDW0 := heap_lt hl0
      have hy := run_yield (P := P) (args := #[enc xs[i]]) hl (by rw [hrec]; rfl)
      rw [hrec] at hy
      refine ⟨fn, _, asg, body, hy, roundIn_of_wpIn trivial ?_⟩
      have hfit : Fits N (a.put (some p0) (enc xs[i])) ((p0, enc xs[i]) :: st) := ha.put hp0 _
      have hact : ({ tmps := (#[p0].zip #[enc xs[i]]).foldl (fun tmps (t, a) => tmps.setIfInBounds t a) a.tmps, defers := [] } : Act) = { a.put (some p0) (enc xs[i]) with defers := [] } := by simp [Act.put]
      rw [hact]
      rw [hasg]
      refine (WI.region (ro := some (D + 1)) (ds := []) (P := P) (N := N) (.inr rfl) (fun _ _ h => h) ?_ : WI (some (D + 1)) P N [] _ _ ((p0, enc xs[i]) :: st) W) _ hfit
      refine WL.allocO hR' K hK (hz W) hd0 ?_
      intro b w1 O2 hb hUb hRb hEb
      refine hstore w1 O2 b xs[i] _ _ hb ?_
      intro w2 hb2 hUs
      refine WL.nil (QF.dn ?_)
      intro a3 ha3
      have hltD : D + 1 < W.heap.size := (Array.getElem?_eq_some_iff.1 hl).1
      have hUk : Upd (fun j => j = K) O' W O2 w2 := hUb.trans hUs
      have hl2 : w2.heap[D + 1]? = some (.loop (rec .ready none)) := (hUk.blk (D + 1) hltD (by rw [hoL]; exact hLK)).trans hl
      have hk2 : w2.heap[D]? = some (.deferred (some [])) := (hUk.blk D (by omega) (by rw [hoD]; exact hLK)).trans hk
      have ho2L : O2 (D + 1) = L := (hUk.tag (D + 1) (by rw [hoL]; exact hL)).trans hoL
      have ho2D : O2 D = L := (hUk.tag D (by rw [hoD]; exact hL)).trans hoD
      refine ⟨_, run_beginRound hl2 (by rw [hrec]), ?_⟩
      have hUq := Upd.putObj hL ho2L (w := w2) (.loop { rec .ready none with state := .busy })
      have hzLK : ¬ (fun j => j = L ∨ j = K) 0 := by rintro (h | h); exact hL h.symm; exact hK h.symm
      have hUall : Upd (fun j => j = L ∨ j = K) O' W O2 (w2.putObj (D + 1) (.loop { rec .ready none with state := .busy })) := (hUk.mono (fun _ h => .inr h) hzLK).trans (hUq.mono (fun _ h => .inl h) hzLK)
      have hl3 : (w2.putObj (D + 1) (.loop { rec .ready none with state := .busy })).heap[D + 1]? = some (.loop { rec .ready none with state := .busy }) := World.putObj_heap_same (heap_lt hl2)
      have hk3 : (w2.putObj (D + 1) (.loop { rec .ready none with state := .busy })).heap[D]? = some (.deferred (some [])) := (World.putObj_heap_other (by omega)).trans hk2
      have hbod := hbody (D + 1) i hi b O2 _ (hR'.upd hUall) (hI _ _ _ _ _ hii hUall) (hb2.upd hUq hK (fun e => hLK e.symm)) a3 ha3
      generalize w2.putObj (D + 1) (.loop { rec .ready none with state := .busy }) = w3 at *
      refine wpIn_mono hbod ?_
      have fin : ∀ (jump : Option Code) (O4 : Nat → Nat) (w4 : World), Upd (fun j => j ≠ 0 ∧ j ≠ L) O2 w3 O4 w4 →
          (Instr.endRound (D + 1) jump).run P w4 = .ok (.bool jump.isNone) (w4.putObj (D + 1) (.loop (rec (if jump.isNone then .ready else .done) jump))) ∧
          Upd (fun j => j = L) O4 w4 O4 (w4.putObj (D + 1) (.loop (rec (if jump.isNone then .ready else .done) jump))) ∧ O4 D = L ∧ O4 (D + 1) = L ∧
          (w4.putObj (D + 1) (.loop (rec (if jump.isNone then .ready else .done) jump))).heap[D + 1]? = some (.loop (rec (if jump.isNone then .ready else .done) jump)) ∧
          (w4.putObj (D + 1) (.loop (rec (if jump.isNone then .ready else .done) jump))).heap[D]? = some (.deferred (some [])) := by
        intro jump O4 w4 hU4
        have hl4 := (hU4.blk (D + 1) (heap_lt hl3) (by rw [ho2L]; exact fun h => h.2 rfl)).trans hl3
        have hk4 := (hU4.blk D (heap_lt hk3) (by rw [ho2D]; exact fun h => h.2 rfl)).trans hk3
        have ho4D : O4 D = L := (hU4.tag D (by rw [ho2D]; exact hL)).trans ho2D
        have ho4L : O4 (D + 1) = L := (hU4.tag (D + 1) (by rw [ho2L]; exact hL)).trans ho2L
        have := run_endRound (P := P) jump hl4
        rw [hrec] at this ⊢
        exact ⟨this, Upd.putObj hL ho4L _, ho4D, ho4L, World.putObj_heap_same (heap_lt hl4), (World.putObj_heap_other (by omega)).trans hk4⟩
      have keep : ∀ (O4 : Nat → Nat) (w4 : World) (o : Obj), Upd (fun j => j ≠ 0 ∧ j ≠ L) O2 w3 O4 w4 → ∀ b, W0.heap.size ≤ b → b < W.heap.size → (w4.putObj (D + 1) o).heap[b]? = W.heap[b]? := by
        intro O4 w4 o hU4 b hb1 hb2
        have hb0 : O' b = 0 := Classical.byContradiction fun hne => by have := (hR0.rng b hne).2; omega
        have hb3 := hUall.zero hb2 hb0
        have e1 := hUall.blk b hb2 (by rw [hb0]; rintro (h | h); exact hL h.symm; exact hK h.symm)
        have e2 := hU4.blk b (Nat.lt_of_lt_of_le hb2 hUall.size) (by rw [hb3]; exact fun h => h.1 rfl)
        rw [World.putObj_heap_other (by omega), e2, e1]
      rintro e a4 w4 q
      cases e with
      | normal =>
        obtain ⟨O4, hU4, hi4⟩ := q
        obtain ⟨hr, hUe, h1, h2, h3, h4⟩ := fin none O4 w4 hU4
        exact ⟨_, _, hr, .inl ⟨rfl, O4, ((hR'.upd hUall).upd hU4).upd hUe, h1, h2, hI _ _ _ _ _ hi4 (hUe.mono (fun _ h => .inl h) hzLK), h3, h4⟩, keep O4 w4 _ hU4⟩
      | ret =>
        obtain ⟨O4, hU4, hi4⟩ := q
        obtain ⟨hr, hUe, h1, h2, h3, h4⟩ := fin (some .ret) O4 w4 hU4
        exact ⟨_, _, hr, .inr ⟨rfl, .ret, O4, ((hR'.upd hUall).upd hU4).upd hUe, h1, h2, hIx _ _ _ _ _ hi4 hUe, h3, h4⟩, keep O4 w4 _ hU4⟩
      | exit id' =>
        obtain ⟨O4, hU4, hi4⟩ := q
        obtain ⟨hr, hUe, h1, h2, h3, h4⟩ := fin (some (.exit id')) O4 w4 hU4
        exact ⟨_, _, hr, .inr ⟨rfl, .exit id', O4, ((hR'.upd hUall).upd hU4).upd hUe, h1, h2, hIx _ _ _ _ _ hi4 hUe, h3, h4⟩, keep O4 w4 _ hU4⟩
      | _ => exact q.elim
end Go.VL
