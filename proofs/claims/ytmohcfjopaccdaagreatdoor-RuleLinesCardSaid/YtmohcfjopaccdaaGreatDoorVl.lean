/- A small calculus for walks, over any program: what a stretch of code does to the slots that matter and to the world, one operation a rule. Nothing here speaks of a particular program. -/
import Derived.Calls
import Derived.Tactics
import Derived.Deep.Quiet
import Derived.Below
import Derived.OwnWalk
import Derived.IntWalk
import Derived.Deep.LoopGhost
namespace Go.VL

/-- The slots that matter: the newest first. -/
abbrev St := List (Nat × Value)

def sget : St → Nat → Option Value
  | [], _ => none
  | (k, v) :: r, t => bif Nat.beq k t then some v else sget r t

structure Fits (N : Nat) (a : Act) (st : St) : Prop where
  size : a.tmps.size = N
  defers : a.defers = []
  get : ∀ t v, sget st t = some v → a.tmps[t]? = some v

def ev (st : St) : Operand → Option Value
  | .tmp t => sget st t
  | .const v => some v
  | .global g => some (.pointer (some ⟨g, 0, none⟩))
  | .func f => some (.func (.func f) #[] #[])

/-- All of a second list's slots read so in the first. -/
def Cov (st : St) : St → Prop
  | [] => True
  | (t, v) :: r => sget st t = some v ∧ Cov st r

theorem Fits.ev {N : Nat} {a : Act} {st : St} (h : Fits N a st) {x : Operand} {v : Value} (he : ev st x = some v) : a.eval x = v := by
  cases x with
  | tmp t =>
    have := h.get t v he
    simp [Act.eval, Array.getD_eq_getD_getElem?, this]
  | const u => simpa [VL.ev, Act.eval] using he
  | global g => simpa [VL.ev, Act.eval] using he
  | func f => simpa [VL.ev, Act.eval] using he

theorem Fits.cov {N : Nat} {a : Act} {st : St} (h : Fits N a st) : ∀ {st' : St}, Cov st st' → Fits N a st' := by
  intro st' hc
  refine ⟨h.size, h.defers, ?_⟩
  induction st' with
  | nil => intro t v hv; simp [sget] at hv
  | cons p r ih =>
    obtain ⟨k, u⟩ := p
    obtain ⟨h1, h2⟩ := hc
    intro t v hv
    simp only [sget] at hv
    cases hb : Nat.beq k t with
    | true =>
      rw [hb] at hv
      have : k = t := Nat.eq_of_beq_eq_true hb
      simp at hv
      subst this; subst hv
      exact h.get _ _ h1
    | false => rw [hb] at hv; exact ih h2 t v hv

theorem Fits.put {N : Nat} {a : Act} {st : St} (h : Fits N a st) {d : Nat} (hd : Nat.blt d N = true) (v : Value) : Fits N (a.put (some d) v) ((d, v) :: st) := by
  have hd' : d < a.tmps.size := by rw [h.size]; exact Nat.le_of_ble_eq_true hd
  refine ⟨by simp [Act.put, h.size], h.defers, ?_⟩
  intro t u hu
  simp only [sget] at hu
  simp only [Act.put, Array.getElem?_setIfInBounds]
  cases hb : Nat.beq d t with
  | true =>
    have : d = t := Nat.eq_of_beq_eq_true hb
    rw [hb] at hu
    simp at hu
    subst this; subst hu
    simp [hd']
  | false =>
    have : d ≠ t := fun e => by rw [e] at hb; simp at hb
    rw [hb] at hu
    rw [if_neg this]
    exact h.get t u hu

theorem Fits.put_none {N : Nat} {a : Act} {st : St} (h : Fits N a st) (v : Value) : Fits N (a.put none v) st := h

section
variable (P : Program) (N : Nat)

def WL (ops : Array Oper) (Q : Exit → Act → World → Prop) (l : List Oper) (st : St) (w : World) : Prop := ∀ a, Fits N a st → wpList P ops Q l a w
def WC (c : Code) (Q : Exit → Act → World → Prop) (st : St) (w : World) : Prop := ∀ a, Fits N a st → c.wp P Q a w
def QF (Q : Exit → Act → World → Prop) (e : Exit) (st : St) (w : World) : Prop := ∀ a, Fits N a st → Q e a w
end

section
variable {P : Program} {N : Nat} {ops : Array Oper} {Q : Exit → Act → World → Prop} {rest : List Oper} {st : St} {w : World}

/-! Control. -/
theorem WC.region {id : Nat} {l : List Oper} (h : WL P N l.toArray Q l st w) : WC P N (Code.region id l.toArray false) Q st w := fun a ha => wp_region_lit (h a ha)
theorem WL.nil (h : QF N Q .normal st w) : WL P N ops Q [] st w := h
theorem WC.seq {x y : Code} (h : WC P N x (Exit.then (y.wp P Q) Q) st w) : WC P N (.seq x y) Q st w := fun a ha => wp_seq (h a ha)
theorem WC.skip (h : QF N Q .normal st w) : WC P N .skip Q st w := fun a ha => wp_skip (h a ha)
theorem WC.exit {id : Nat} (h : QF N Q (.exit id) st w) : WC P N (.exit id) Q st w := fun a ha => wp_exit (h a ha)
theorem WC.ret (h : QF N Q .ret st w) : WC P N .ret Q st w := fun a ha => wp_ret (h a ha)
theorem WC.block {id : Nat} {c : Code} (h : WC P N c (Exit.inBlock id Q) st w) : WC P N (.block id c) Q st w := fun a ha => wp_block (h a ha)
theorem WC.cond {c : Operand} {x y : Code} {b : Bool} (hc : ev st c = some (.bool b)) (ht : b = true → WC P N x Q st w) (hf : b = false → WC P N y Q st w) : WC P N (.cond c x y) Q st w :=
  fun a ha => wp_cond_split (ha.ev hc) (fun e => ht e a ha) (fun e => hf e a ha)
theorem WC.cond_t {c : Operand} {x y : Code} (hc : ev st c = some (.bool true)) (ht : WC P N x Q st w) : WC P N (.cond c x y) Q st w :=
  fun a ha => wp_cond_true (ha.ev hc) (ht a ha)
theorem WC.cond_f {c : Operand} {x y : Code} (hc : ev st c = some (.bool false)) (hf : WC P N y Q st w) : WC P N (.cond c x y) Q st w :=
  fun a ha => wp_cond_false (ha.ev hc) (hf a ha)

theorem QF.seqNext {y : Code} {Q' : Exit → Act → World → Prop} (h : WC P N y Q st w) : QF N (Exit.then (y.wp P Q) Q') .normal st w := h
theorem QF.thenExit {K : Act → World → Prop} {id : Nat} (h : QF N Q (.exit id) st w) : QF N (Exit.then K Q) (.exit id) st w := h
theorem QF.thenRet {K : Act → World → Prop} (h : QF N Q .ret st w) : QF N (Exit.then K Q) .ret st w := h
theorem QF.blockNormal {id : Nat} (h : QF N Q .normal st w) : QF N (Exit.inBlock id Q) .normal st w := h
theorem QF.blockRet {id : Nat} (h : QF N Q .ret st w) : QF N (Exit.inBlock id Q) .ret st w := h
theorem QF.blockHit {id : Nat} (h : QF N Q .normal st w) : QF N (Exit.inBlock id Q) (.exit id) st w := fun a ha => by
  show if id = id then _ else _
  rw [if_pos rfl]; exact h a ha
theorem QF.blockMiss {id id' : Nat} (hne : Nat.beq id' id = false) (h : QF N Q (.exit id') st w) : QF N (Exit.inBlock id Q) (.exit id') st w := fun a ha => by
  show if id' = id then _ else _
  rw [if_neg (fun e => by rw [e] at hne; simp at hne)]; exact h a ha

/-- Fewer slots are enough. -/
theorem WC.weaken {c : Code} {st' : St} (hc : Cov st st') (h : WC P N c Q st' w) : WC P N c Q st w := fun a ha => h a (ha.cov hc)
theorem WL.weaken {l : List Oper} {st' : St} (hc : Cov st st') (h : WL P N ops Q l st' w) : WL P N ops Q l st w := fun a ha => h a (ha.cov hc)

/-- A slot's truth value, known by another name. -/
theorem WL.know {d : Nat} {b b' : Bool} {l : List Oper} (hs : sget st d = some (.bool b)) (hb : b = b') (h : WL P N ops Q l ((d, .bool b') :: st) w) : WL P N ops Q l st w := by
  subst hb
  refine fun a ha => h a ⟨ha.size, ha.defers, fun t v hv => ?_⟩
  simp only [sget] at hv
  cases hb : Nat.beq d t with
  | true => rw [hb] at hv; have := Nat.eq_of_beq_eq_true hb; subst this; simp at hv; subst hv; exact ha.get _ _ hs
  | false => rw [hb] at hv; exact ha.get _ _ hv
theorem WC.condT {c : Operand} {x y : Code} {b : Bool} (hc : ev st c = some (.bool b)) (hb : b = true) (ht : WC P N x Q st w) : WC P N (.cond c x y) Q st w := by
  subst hb; exact WC.cond_t hc ht
theorem WC.condF {c : Operand} {x y : Code} {b : Bool} (hc : ev st c = some (.bool b)) (hb : b = false) (hf : WC P N y Q st w) : WC P N (.cond c x y) Q st w := by
  subst hb; exact WC.cond_f hc hf
theorem QF.weaken {e : Exit} {st' : St} (hc : Cov st st') (h : QF N Q e st' w) : QF N Q e st w := fun a ha => h a (ha.cov hc)

/-- A loop: its state is told by something of a type of one's own. -/
theorem WC.loop {α : Type} {c : Code} (f : α → St) (g : α → World) (I : α → Prop) (μ : α → Nat) (x0 : α) (h0 : I x0) (hc : Cov st (f x0)) (hw : g x0 = w)
    (round : ∀ x, I x → WC P N c (Exit.then (fun a' w' => ∃ y, I y ∧ μ y < μ x ∧ Fits N a' (f y) ∧ g y = w') Q) (f x) (g x)) : WC P N (.loop c) Q st w := by
  intro a ha
  refine wp_loop_ghost (fun n a w => ∃ y, I y ∧ μ y = n ∧ Fits N a (f y) ∧ g y = w) (μ x0) ⟨x0, h0, rfl, ha.cov hc, hw⟩ ?_
  rintro n a w ⟨x, hI, rfl, hf, rfl⟩
  refine wp_mono (round x hI a hf) ?_
  intro e a' w' hq
  cases e with
  | normal => obtain ⟨y, h1, h2, h3, h4⟩ := hq; exact ⟨μ y, h2, y, h1, rfl, h3, h4⟩
  | _ => exact hq

theorem QF.next {α : Type} {f : α → St} {g : α → World} {I : α → Prop} {m : Nat} {μ : α → Nat} (y : α) (h1 : I y) (h2 : μ y < m) (h3 : Cov st (f y)) (h4 : g y = w) :
    QF N (Exit.then (fun a' w' => ∃ y, I y ∧ μ y < m ∧ Fits N a' (f y) ∧ g y = w') Q) .normal st w := fun _ ha => ⟨y, h1, h2, ha.cov h3, h4⟩

/-- Two ways meet: what holds behind a piece of code, told by something of a type of one's own. -/
theorem WC.cut {α : Type} {x y : Code} (f : α → St) (g : α → World) (I : α → Prop)
    (h1 : ∀ Q', (∀ z, I z → QF N Q' .normal (f z) (g z)) → (∀ e st w, e ≠ Exit.normal → QF N Q e st w → QF N Q' e st w) → WC P N x Q' st w)
    (h2 : ∀ z, I z → WC P N y Q (f z) (g z)) : WC P N (.seq x y) Q st w := by
  refine WC.seq (h1 _ (fun z hz a ha => h2 z hz a ha) ?_)
  intro e st w he h a ha
  cases e with
  | normal => exact absurd rfl he
  | _ => exact h a ha

/-! Operations. -/
theorem wanted_none {o : Oper} (h : o.guard = none) (y : Nat → Option Bool) : Region.wanted o y = true := by simp [Region.wanted, h]

theorem WL.step {o : Oper} (hg : o.guard = none) (h : ∀ a, Fits N a st → o.wp P a w (wpList P ops Q rest) Q) : WL P N ops Q (o :: rest) st w := by
  intro a ha
  unfold wpList
  rw [if_pos (wanted_none hg _)]
  exact .inl (h a ha)

theorem WL.val {op : Op} {t : TypeId} {p : String} {e : Array Edge} {d : Nat} {v : Value} {w' : World} (hd : Nat.blt d N = true)
    (hrun : ∀ a : Act, Fits N a st → (execOp a.eval ⟨some d, op, t, p, e, none⟩).run P w = .ok (.value v) w')
    (h : WL P N ops Q rest ((d, v) :: st) w') : WL P N ops Q (⟨some d, op, t, p, e, none⟩ :: rest) st w := by
  refine WL.step rfl fun a ha => ?_
  unfold Oper.wp
  rw [hrun a ha]
  exact h _ (ha.put hd v)

theorem WL.unit {op : Op} {t : TypeId} {p : String} {e : Array Edge} {w' : World}
    (hrun : ∀ a : Act, Fits N a st → (execOp a.eval ⟨none, op, t, p, e, none⟩).run P w = .ok .skip w')
    (h : WL P N ops Q rest st w') : WL P N ops Q (⟨none, op, t, p, e, none⟩ :: rest) st w := by
  refine WL.step rfl fun a ha => ?_
  unfold Oper.wp
  rw [hrun a ha]
  exact h _ ha

/-- What an operation's guard says, by looking. -/
def said (ops : Array Oper) (st : St) (j : Nat) : Option Bool :=
  match (ops[j]?).bind (·.dst) with
  | some d => match sget st d with
    | some (.bool b) => some b
    | _ => none
  | none => none

theorem yielded_of_said {a : Act} (ha : Fits N a st) {j : Nat} {b : Bool} (h : said ops st j = some b) : yielded ops a.tmps j = some b := by
  unfold said at h
  unfold yielded
  cases hd : (ops[j]?).bind (·.dst) with
  | none => rw [hd] at h; simp at h
  | some d =>
    rw [hd] at h
    simp only at h
    cases hs : sget st d with
    | none => rw [hs] at h; simp at h
    | some v =>
      rw [hs] at h
      cases v <;> simp at h
      subst h
      simp [ha.get _ _ hs]

theorem WL.on {op : Op} {t : TypeId} {p : String} {e : Array Edge} {d : Option Tmp} {j : Nat} {b : Bool} (hs : said ops st j = some b)
    (h : WL P N ops Q (⟨d, op, t, p, e, none⟩ :: rest) st w) : WL P N ops Q (⟨d, op, t, p, e, some (j, b)⟩ :: rest) st w := by
  intro a ha
  have h1 := h a ha
  unfold wpList at h1 ⊢
  rw [if_pos (by simp [Region.wanted])] at h1
  rw [if_pos (by simp [Region.wanted, yielded_of_said ha hs])]
  exact h1

theorem WL.off {op : Op} {t : TypeId} {p : String} {e : Array Edge} {d : Nat} {j : Nat} {b b' : Bool} (hs : said ops st j = some b') (hne : (b' == b) = false) (hd : Nat.blt d N = true)
    (h : WL P N ops Q rest ((d, undef) :: st) w) : WL P N ops Q (⟨some d, op, t, p, e, some (j, b)⟩ :: rest) st w := by
  intro a ha
  unfold wpList
  rw [if_neg (by simp [Region.wanted, yielded_of_said ha hs]; simpa using hne)]
  exact h _ (ha.put hd undef)

/-- A guard on something that was itself passed over. -/
def saidNot (ops : Array Oper) (st : St) (j : Nat) : Bool :=
  match (ops[j]?).bind (·.dst) with
  | some d => match sget st d with
    | some (.tuple _) => true
    | _ => false
  | none => false

theorem WL.offU {op : Op} {t : TypeId} {p : String} {e : Array Edge} {d : Nat} {j : Nat} {b : Bool} (hs : saidNot ops st j = true) (hd : Nat.blt d N = true)
    (h : WL P N ops Q rest ((d, undef) :: st) w) : WL P N ops Q (⟨some d, op, t, p, e, some (j, b)⟩ :: rest) st w := by
  intro a ha
  unfold wpList
  rw [if_neg ?_]
  · exact h _ (ha.put hd undef)
  · unfold saidNot at hs
    simp only [Region.wanted, yielded]
    cases hd : (ops[j]?).bind (·.dst) with
    | none => rw [hd] at hs; simp at hs
    | some d =>
      rw [hd] at hs
      simp only at hs
      cases hx : sget st d with
      | none => rw [hx] at hs; simp at hs
      | some v =>
        rw [hx] at hs
        cases v <;> simp at hs
        simp [ha.get _ _ hx]

/-- An operation that only tells: what it leaves in its slot, the world being as it was. -/
def RV (P : Program) (N : Nat) (op : Op) (t : TypeId) (st : St) (w : World) (v : Value) : Prop :=
  ∀ a : Act, Fits N a st → ∀ (dst : Option Tmp) (p : String) (e : Array Edge) (g : Option (Nat × Bool)), (execOp a.eval ⟨dst, op, t, p, e, g⟩).run P w = .ok (.value v) w

theorem WL.v {op : Op} {t : TypeId} {p : String} {e : Array Edge} {d : Nat} {v : Value} (hv : RV P N op t st w v) (hd : Nat.blt d N = true)
    (h : WL P N ops Q rest ((d, v) :: st) w) : WL P N ops Q (⟨some d, op, t, p, e, none⟩ :: rest) st w := WL.val hd (fun a ha => hv a ha _ _ _ _) h

section
variable {t : TypeId} {p : String} {e : Array Edge} {d : Nat} {x y z : Operand}

theorem RV.move {v : Value} (hx : ev st x = some v) : RV P N (.move x) t st w (v) :=
  fun a ha dst p e g => by simp only [execOp, ha.ev hx]; rfl
theorem RV.assign {v : Value} (hx : ev st x = some v) : RV P N (.assign x) t st w (v) :=
  fun a ha dst p e g => by simp only [execOp, ha.ev hx]; rfl
theorem run_pick {a : Act} {b : Bool} {dst : Option Tmp} {g : Option (Nat × Bool)} (hx : a.eval x = .bool b) : (execOp a.eval ⟨dst, .pick x y z, t, p, e, g⟩).run P w = .ok (.value (bif b then a.eval y else a.eval z)) w := by
  simp only [execOp, hx]; cases b <;> rfl
theorem RV.pick {b : Bool} {v u : Value} (hc : ev st x = some (.bool b)) (hy : ev st y = some v) (hz : ev st z = some u) : RV P N (.pick x y z) t st w (bif b then v else u) :=
  fun a ha dst p e g => by rw [run_pick (ha.ev hc), ha.ev hy, ha.ev hz]
theorem RV.pickAnd {b c : Bool} (hc : ev st x = some (.bool b)) (hy : ev st y = some (.bool c)) : RV P N (.pick x y (.const (.bool false))) t st w (.bool (b && c)) :=
  fun a ha dst p e g => by rw [run_pick (ha.ev hc), ha.ev hy]; cases b <;> rfl
theorem RV.pickOr {b c : Bool} (hc : ev st x = some (.bool b)) (hz : ev st z = some (.bool c)) : RV P N (.pick x (.const (.bool true)) z) t st w (.bool (b || c)) :=
  fun a ha dst p e g => by rw [run_pick (ha.ev hc), ha.ev hz]; cases b <;> rfl
theorem RV.pickF {u : Value} (hc : ev st x = some (.bool false)) (hz : ev st z = some u) : RV P N (.pick x y z) t st w (u) :=
  fun a ha dst p e g => by rw [run_pick (ha.ev hc), ha.ev hz]; rfl
theorem RV.pickT {v : Value} (hc : ev st x = some (.bool true)) (hy : ev st y = some v) : RV P N (.pick x y z) t st w (v) :=
  fun a ha dst p e g => by rw [run_pick (ha.ev hc), ha.ev hy]; rfl
theorem RV.nilPtr {q : Addr} (hx : ev st x = some (.pointer (some q))) : RV P N (.nilCheck x) t st w (.pointer (some q)) :=
  fun a ha dst p e g => by simp only [execOp, ha.ev hx]; rfl
theorem RV.nilFn {f : FuncId} {c1 c2 : Array Value} (hx : ev st x = some (.func (.func f) c1 c2)) : RV P N (.nilCheck x) t st w (.func (.func f) c1 c2) :=
  fun a ha dst p e g => by simp only [execOp, ha.ev hx]; rfl
/-! Integers. -/
section
variable {k : IntKind} {m n : Int} {xt yt : TypeId}
theorem run_bin_int {op : BinOp} {k k' : IntKind} {m n : Int} {a : Act} {dst : Option Tmp} {g : Option (Nat × Bool)} (hx : a.eval x = .int k m) (hy : a.eval y = .int k' n) {v : Value} (h : (binOp op xt (.int k m) (.int k' n)).run P w = .ok v w) :
    (execOp a.eval ⟨dst, .binOp op xt x y yt, t, p, e, g⟩).run P w = .ok (.value v) w := by
  simp only [execOp, hx, hy]
  have hg : (eqGuard op xt x y (.int k m) (.int k' n)) = pure () := by
    unfold eqGuard; cases op <;> rfl
  rw [hg]
  simp [h]

theorem RV.bin {op : BinOp} {k' : IntKind} {v : Value} (hx : ev st x = some (.int k m)) (hy : ev st y = some (.int k' n)) (hv : (binOp op xt (.int k m) (.int k' n)).run P w = .ok v w) : RV P N (.binOp op xt x y yt) t st w (v) :=
  fun _ ha _ _ _ _ => run_bin_int (ha.ev hx) (ha.ev hy) hv
theorem run_add : (binOp .add xt (.int k m) (.int k n)).run P w = .ok (.int k (k.wrap (m + n))) w := by simp [binOp, Op.intArith, pure]
theorem run_sub : (binOp .sub xt (.int k m) (.int k n)).run P w = .ok (.int k (k.wrap (m - n))) w := by simp [binOp, Op.intArith, pure]
theorem run_mul : (binOp .mul xt (.int k m) (.int k n)).run P w = .ok (.int k (k.wrap (m * n))) w := by simp [binOp, Op.intArith, pure]
theorem run_quo (hn : n ≠ 0) : (binOp .quo xt (.int k m) (.int k n)).run P w = .ok (.int k (k.wrap (m.tdiv n))) w := by simp [binOp, Op.intDiv, hn, pure]
theorem run_rem (hn : n ≠ 0) : (binOp .rem xt (.int k m) (.int k n)).run P w = .ok (.int k (m.tmod n)) w := by simp [binOp, Op.intDiv, hn, pure]
theorem run_lss : (binOp .lss xt (.int k m) (.int k n)).run P w = .ok (.bool (decide (m < n))) w := by simp [binOp, Op.intCmp, pure]
theorem run_leq : (binOp .leq xt (.int k m) (.int k n)).run P w = .ok (.bool (decide (m ≤ n))) w := by simp [binOp, Op.intCmp, pure]
theorem run_gtr : (binOp .gtr xt (.int k m) (.int k n)).run P w = .ok (.bool (decide (n < m))) w := by simp [binOp, Op.intCmp, pure]
theorem run_geq : (binOp .geq xt (.int k m) (.int k n)).run P w = .ok (.bool (decide (n ≤ m))) w := by simp [binOp, Op.intCmp, pure]
theorem run_eql : (binOp .eql xt (.int k m) (.int k n)).run P w = .ok (.bool (m == n)) w := by simp [binOp, Op.intCmp, pure]
theorem run_neq : (binOp .neq xt (.int k m) (.int k n)).run P w = .ok (.bool (m != n)) w := by simp [binOp, Op.intCmp, pure]

/-- Sums that fit their kind. -/
def Fit (k : IntKind) (r : Int) : Prop := k.wrap r = r
theorem Fit.i64 {r : Int} (h : -9223372036854775808 ≤ r ∧ r ≤ 9223372036854775807) : Fit .i64 r := IntWalk.i64_in r h
theorem Fit.i32 {r : Int} (h : -2147483648 ≤ r ∧ r ≤ 2147483647) : Fit .i32 r := IntWalk.i32_in r h
theorem Fit.u8 {r : Int} (h : 0 ≤ r ∧ r ≤ 255) : Fit .u8 r := IntWalk.u8_in r h
theorem Fit.u16 {r : Int} (h : 0 ≤ r ∧ r ≤ 65535) : Fit .u16 r := IntWalk.u16_in r h
theorem Fit.u32 {r : Int} (h : 0 ≤ r ∧ r ≤ 4294967295) : Fit .u32 r := IntWalk.u32_in r h
theorem Fit.u64 {r : Int} (h : 0 ≤ r ∧ r ≤ 18446744073709551615) : Fit .u64 r := IntWalk.u64_in r h

theorem RV.add (hx : ev st x = some (.int k m)) (hy : ev st y = some (.int k n)) (hr : Fit k (m + n)) : RV P N (.binOp .add xt x y yt) t st w (.int k (m + n)) :=
  RV.bin hx hy (by rw [run_add, hr])
theorem RV.sub (hx : ev st x = some (.int k m)) (hy : ev st y = some (.int k n)) (hr : Fit k (m - n)) : RV P N (.binOp .sub xt x y yt) t st w (.int k (m - n)) :=
  RV.bin hx hy (by rw [run_sub, hr])
theorem RV.mul (hx : ev st x = some (.int k m)) (hy : ev st y = some (.int k n)) (hr : Fit k (m * n)) : RV P N (.binOp .mul xt x y yt) t st w (.int k (m * n)) :=
  RV.bin hx hy (by rw [run_mul, hr])
theorem RV.addW (hx : ev st x = some (.int k m)) (hy : ev st y = some (.int k n)) : RV P N (.binOp .add xt x y yt) t st w (.int k (k.wrap (m + n))) :=
  RV.bin hx hy run_add
theorem RV.subW (hx : ev st x = some (.int k m)) (hy : ev st y = some (.int k n)) : RV P N (.binOp .sub xt x y yt) t st w (.int k (k.wrap (m - n))) :=
  RV.bin hx hy run_sub
theorem RV.lss (hx : ev st x = some (.int k m)) (hy : ev st y = some (.int k n)) : RV P N (.binOp .lss xt x y yt) t st w (.bool (decide (m < n))) :=
  RV.bin hx hy run_lss
theorem RV.leq (hx : ev st x = some (.int k m)) (hy : ev st y = some (.int k n)) : RV P N (.binOp .leq xt x y yt) t st w (.bool (decide (m ≤ n))) :=
  RV.bin hx hy run_leq
theorem RV.gtr (hx : ev st x = some (.int k m)) (hy : ev st y = some (.int k n)) : RV P N (.binOp .gtr xt x y yt) t st w (.bool (decide (n < m))) :=
  RV.bin hx hy run_gtr
theorem RV.geq (hx : ev st x = some (.int k m)) (hy : ev st y = some (.int k n)) : RV P N (.binOp .geq xt x y yt) t st w (.bool (decide (n ≤ m))) :=
  RV.bin hx hy run_geq
theorem RV.eql (hx : ev st x = some (.int k m)) (hy : ev st y = some (.int k n)) : RV P N (.binOp .eql xt x y yt) t st w (.bool (m == n)) :=
  RV.bin hx hy run_eql
theorem RV.neq (hx : ev st x = some (.int k m)) (hy : ev st y = some (.int k n)) : RV P N (.binOp .neq xt x y yt) t st w (.bool (m != n)) :=
  RV.bin hx hy run_neq
theorem RV.not {b : Bool} (hx : ev st x = some (.bool b)) : RV P N (.unOp .not xt x) t st w (.bool (!b)) :=
  fun a ha dst p e g => by simp only [execOp, ha.ev hx]; rfl
theorem RV.conv {k' : IntKind} {st' : TypeDesc} (hs : P.underlying xt = some st') (hd' : P.underlying yt = some (.int k')) (hx : ev st x = some (.int k m)) (hr : Fit k' m) : RV P N (.convert xt yt x) t st w (.int k' m) :=
  fun a ha dst p e g => by
    have hr' : k'.wrap m = m := hr
    simp only [execOp, ha.ev hx]
    simp [convert, run_underlying hs, run_underlying hd', Conv.intToInt, hr']
theorem RV.convW {k' : IntKind} {st' : TypeDesc} (hs : P.underlying xt = some st') (hd' : P.underlying yt = some (.int k')) (hx : ev st x = some (.int k m)) : RV P N (.convert xt yt x) t st w (.int k' (k'.wrap m)) :=
  fun a ha dst p e g => by
    simp only [execOp, ha.ev hx]
    simp [convert, run_underlying hs, run_underlying hd', Conv.intToInt]
end

/-! Tuples, functions as values, boxes. -/
theorem RV.extract {vs : Array Value} {i : Nat} {v : Value} (hx : ev st x = some (.tuple vs)) (hv : vs[i]? = some v) : RV P N (.extract x i) t st w (v) :=
  fun a ha dst p e g => by simp only [execOp, ha.ev hx]; simp [Instr.extract, hv]
def evs (st : St) : List Operand → Option (List Value)
  | [] => some []
  | x :: r => match ev st x, evs st r with
    | some v, some vs => some (v :: vs)
    | _, _ => none

theorem Fits.evs {a : Act} (ha : Fits N a st) : ∀ {l : List Operand} {vs : List Value}, evs st l = some vs → l.map a.eval = vs := by
  intro l
  induction l with
  | nil => intro vs h; simpa [VL.evs] using h.symm
  | cons x r ih =>
    intro vs h
    simp only [VL.evs] at h
    cases h1 : VL.ev st x with
    | none => rw [h1] at h; simp at h
    | some v =>
      cases h2 : VL.evs st r with
      | none => rw [h1, h2] at h; simp at h
      | some vs' =>
        rw [h1, h2] at h
        simp at h
        subst h
        rw [List.map_cons, ha.ev h1, ih h2]

theorem RV.mkFunc {fn : Fn} {f c : List Operand} {fs cs : List Value} (hf : evs st f = some fs) (hc : evs st c = some cs) : RV P N (.makeFunc fn f.toArray c.toArray) t st w (.func fn fs.toArray cs.toArray) :=
  fun a ha dst p e g => by simp only [execOp, Instr.makeFunc, List.map_toArray, ha.evs hf, ha.evs hc]; rfl
theorem WL.box {E : TypeId} {v : Value} (hx : ev st x = some v) (hd : Nat.blt d N = true)
    (h : WL P N ops Q rest ((d, .pointer (some ⟨w.heap.size, 0, none⟩)) :: st) (w.alloc (.cells v.cells E))) : WL P N ops Q (⟨some d, .box E x, t, p, e, none⟩ :: rest) st w :=
  WL.val hd (fun a ha => by simp only [execOp, ha.ev hx]; rfl) h

theorem WL.alloc {E : TypeId} {z : Value} (hz : (zeroValue E).run P w = .ok z w) (hd : Nat.blt d N = true)
    (h : WL P N ops Q rest ((d, .pointer (some ⟨w.heap.size, 0, none⟩)) :: st) (w.alloc (.cells z.cells E))) : WL P N ops Q (⟨some d, .alloc E, t, p, e, none⟩ :: rest) st w :=
  WL.val hd (fun a ha => by
    simp only [execOp, Instr.alloc]
    simp [hz, newVar, newRow, newObj]; rfl) h

/-! Calls. -/
/-- A call comes back with a value. -/
def Ret (P : Program) (f : FuncId) (args : List Value) (w : World) (R : Value → World → Prop) : Prop :=
  Calls P f args.toArray w fun | .returned v, w' => R v w' | _, _ => False

theorem Ret.mono {f : FuncId} {args : List Value} {w : World} {R R' : Value → World → Prop} (h : Ret P f args w R) (hr : ∀ v w', R v w' → R' v w') : Ret P f args w R' :=
  Calls.mono h fun e w' q => by cases e <;> first | exact hr _ _ q | exact q.elim

theorem WL.call {f : FuncId} {args : List Operand} {ats : Array TypeId} {vs : List Value} {R : Value → World → Prop}
    (hf : ∀ (args : Array Value) (w : World), (callFunc f args).run P w = .ok (.enter f args) w) (hargs : evs st args = some vs) (hc : Ret P f vs w R) (hd : Nat.blt d N = true)
    (h : ∀ v w', R v w' → WL P N ops Q rest ((d, v) :: st) w') : WL P N ops Q (⟨some d, .call ⟨.value (.func f), args.toArray, ats⟩, t, p, e, none⟩ :: rest) st w := by
  refine WL.step rfl fun a ha => ?_
  unfold Oper.wp
  have hrun : (execOp a.eval ⟨some d, .call ⟨.value (.func f), args.toArray, ats⟩, t, p, e, none⟩).run P w = .ok (.enter f vs.toArray) w := by
    simp only [execOp, resolve, Act.eval, List.map_toArray]
    rw [ha.evs hargs]
    simp [Deferred.ofValue, invoke, hf]
  rw [hrun]
  exact Calls.mono hc fun e w' q => by
    cases e with
    | returned v => exact h v w' q _ (ha.put hd v)
    | panicked c => exact q.elim
    | outgrown => exact q.elim

/-- A call of a function that hands back nothing. -/
theorem WL.callU {f : FuncId} {args : List Operand} {ats : Array TypeId} {vs : List Value} {R : Value → World → Prop}
    (hf : ∀ (args : Array Value) (w : World), (callFunc f args).run P w = .ok (.enter f args) w) (hargs : evs st args = some vs) (hc : Ret P f vs w R)
    (h : ∀ v w', R v w' → WL P N ops Q rest st w') : WL P N ops Q (⟨none, .call ⟨.value (.func f), args.toArray, ats⟩, t, p, e, none⟩ :: rest) st w := by
  refine WL.step rfl fun a ha => ?_
  unfold Oper.wp
  have hrun : (execOp a.eval ⟨none, .call ⟨.value (.func f), args.toArray, ats⟩, t, p, e, none⟩).run P w = .ok (.enter f vs.toArray) w := by
    simp only [execOp, resolve, Act.eval, List.map_toArray]
    rw [ha.evs hargs]
    simp [Deferred.ofValue, invoke, hf]
  rw [hrun]
  exact Calls.mono hc fun e w' q => by
    cases e with
    | returned v => exact h v w' q _ ha
    | panicked c => exact q.elim
    | outgrown => exact q.elim

/-- A call of a function value. -/
theorem WL.callV {f : FuncId} {args : List Operand} {ats : Array TypeId} {vs : List Value} {cs : Array Value} {R : Value → World → Prop}
    (hx : ev st x = some (.func (.func f) #[] cs))
    (hf : ∀ (args : Array Value) (w : World), (callFunc f args).run P w = .ok (.enter f args) w) (hargs : evs st args = some vs) (hc : Ret P f (vs ++ cs.toList) w R) (hd : Nat.blt d N = true)
    (h : ∀ v w', R v w' → WL P N ops Q rest ((d, v) :: st) w') : WL P N ops Q (⟨some d, .call ⟨.value x, args.toArray, ats⟩, t, p, e, none⟩ :: rest) st w := by
  refine WL.step rfl fun a ha => ?_
  unfold Oper.wp
  have hrun : (execOp a.eval ⟨some d, .call ⟨.value x, args.toArray, ats⟩, t, p, e, none⟩).run P w = .ok (.enter f (vs ++ cs.toList).toArray) w := by
    simp only [execOp, resolve, List.map_toArray, ha.evs hargs, ha.ev hx]
    simp [Deferred.ofValue, invoke, hf]
  rw [hrun]
  exact Calls.mono hc fun e w' q => by
    cases e with
    | returned v => exact h v w' q _ (ha.put hd v)
    | panicked c => exact q.elim
    | outgrown => exact q.elim
end
end

/-! A body. -/
def RP (P : Program) (fn : Func) (R : Value → World → Prop) : Exit → Act → World → Prop
  | .normal, a, w | .ret, a, w => a.defers = [] ∧ ∃ v, (results fn a.tmps).run P w = .ok v w ∧ R v w
  | _, _, _ => False

theorem Ret.body {P : Program} {N : Nat} {f : FuncId} {fn : Func} {c : Code} {args : List Value} {st : St} {w : World} {R : Value → World → Prop}
    (hf : P.funcs[f]? = some fn) (hb : fn.body = some c) (hN : fn.ntmps = N) (hst : Fits N { tmps := args.toArray ++ Array.replicate (N - args.length) undef, defers := [] } st)
    (h : WC P N c (RP P fn R) st w) : Ret P f args w R := by
  refine calls_of_wp hf hb ?_
  rw [hN]
  refine wp_mono (h _ (by simpa using hst)) ?_
  intro e a w' q
  cases e <;> first | exact q | exact q.elim

theorem fits_start {N : Nat} : ∀ {args : List Value} (_ : Nat.ble args.length N = true) {st : St} (_ : ∀ t v, sget st t = some v → args[t]? = some v),
    Fits N { tmps := args.toArray ++ Array.replicate (N - args.length) undef, defers := [] } st := by
  intro args hN st h
  have hle : args.length ≤ N := Nat.le_of_ble_eq_true hN
  refine ⟨by simp; omega, rfl, fun t v hv => ?_⟩
  have := h t v hv
  have hlt : t < args.length := (List.getElem?_eq_some_iff.1 this).1
  rw [Array.getElem?_append_left (by simpa using hlt)]
  simpa using this

def stOf : Nat → List Value → St
  | _, [] => []
  | k, v :: r => (k, v) :: stOf (k + 1) r

theorem sget_stOf : ∀ (args : List Value) (k t : Nat) (v : Value), sget (stOf k args) t = some v → k ≤ t ∧ args[t - k]? = some v
  | [], k, t, v, h => by simp [stOf, sget] at h
  | u :: r, k, t, v, h => by
    simp only [stOf, sget] at h
    cases hb : Nat.beq k t with
    | true =>
      rw [hb] at h
      have : k = t := Nat.eq_of_beq_eq_true hb
      subst this
      simpa using h
    | false =>
      rw [hb] at h
      obtain ⟨h1, h2⟩ := sget_stOf r (k + 1) t v h
      refine ⟨by omega, ?_⟩
      rw [show t - k = (t - (k + 1)) + 1 from by omega]
      simpa using h2

theorem Ret.enter {P : Program} {N : Nat} {f : FuncId} {fn : Func} {c : Code} {args : List Value} {w : World} {R : Value → World → Prop}
    (hf : P.funcs[f]? = some fn) (hN : fn.ntmps = N) (hb : fn.body = some c) (hle : Nat.ble args.length N = true)
    (h : WC P N c (RP P fn R) (stOf 0 args) w) : Ret P f args w R :=
  Ret.body hf hb hN (fits_start hle fun t v hv => by simpa using (sget_stOf args 0 t v hv).2) h

section
variable {P : Program} {N : Nat} {st : St} {w : World} {fn : Func} {R : Value → World → Prop}
theorem QF.done1 {t : Tmp} {v : Value} (hr : fn.results = #[.tmp t]) (hv : sget st t = some v) (h : R v w) : QF N (RP P fn R) .ret st w := fun a ha =>
  ⟨ha.defers, v, by have := ha.get _ _ hv; simp [results, hr, Array.getD_eq_getD_getElem?, this], h⟩
theorem QF.end0 (hr : fn.results = #[]) (h : R (.tuple #[]) w) : QF N (RP P fn R) .normal st w := fun a ha => ⟨ha.defers, _, by simp [results, hr], h⟩
theorem QF.done0 (hr : fn.results = #[]) (h : R (.tuple #[]) w) : QF N (RP P fn R) .ret st w := fun a ha => ⟨ha.defers, _, by simp [results, hr], h⟩
theorem QF.done2 {t u : Tmp} {v v' : Value} (hr : fn.results = #[.tmp t, .tmp u]) (hv : sget st t = some v) (hv' : sget st u = some v') (h : R (.tuple #[v, v']) w) : QF N (RP P fn R) .ret st w := fun a ha =>
  ⟨ha.defers, _, by have := ha.get _ _ hv; have h2 := ha.get _ _ hv'; simp [results, hr, Array.getD_eq_getD_getElem?, this, h2], h⟩
end

/-! Memory. -/
open Go.RowKit (Below)

/-- All that was there is there. -/
def Ext (w w' : World) : Prop := Below w.heap.size w w'
theorem Ext.refl (w : World) : Ext w w := Below.refl _ _
theorem Ext.trans {a b c : World} (h : Ext a b) (k : Ext b c) : Ext a c := Below.trans h (Below.mono k h.size)
theorem Ext.alloc (w : World) (o : Obj) : Ext w (w.alloc o) := (Below.refl _ _).alloc (Nat.le_refl _) o
theorem Ext.drewN (w : World) (n : Nat) : Ext w (w.drewN n) := ⟨rfl, rfl, rfl, Nat.le_refl _, fun _ _ => rfl⟩
theorem Ext.drew {w w' : World} (h : Ext w w') : Ext w w'.drew := ⟨h.os, h.tape, h.output, h.size, h.block⟩
theorem Ext.below {B : Nat} {a b c : World} (h : Below B a b) (hB : B ≤ b.heap.size) (k : Ext b c) : Below B a c := Below.trans h (Below.mono k hB)
theorem Ext.cell {w w' : World} (h : Ext w w') {a : Addr} {v : Value} (hc : w.cell? a = some v) : w'.cell? a = some v :=
  (Below.cell h (World.block_lt_of_cell? w a hc)).trans hc

/-- The address of an element of a slice. -/
def adr (v : Value) (sz i : Nat) : Addr :=
  match v with
  | .slice (some a) _ _ => ⟨a.block, a.off + i * sz, none⟩
  | _ => default

def nth {α : Type} [Inhabited α] (xs : List α) (i : Nat) : α := xs.getD i default

theorem nth_eq {α : Type} [Inhabited α] {xs : List α} {i : Nat} (h : i < xs.length) : nth xs i = xs[i] := by
  simp [nth, List.getD_eq_getElem?_getD, h]

theorem nth_cons0 {α : Type} [Inhabited α] (a : α) (l : List α) : nth (a :: l) 0 = a := rfl
theorem nth_cons {α : Type} [Inhabited α] (a : α) (l : List α) (i : Nat) : nth (a :: l) (i + 1) = nth l i := rfl
attribute [irreducible] nth

/-- A slice reads as a list: each element is so many cells. -/
structure Sl {α : Type} (enc : α → List Value) (sz : Nat) (w : World) (v : Value) (xs : List α) : Prop where
  shape : ∃ a c, v = .slice a xs.length c ∧ xs.length ≤ c ∧ c ≤ 9223372036854775807 ∧ (xs.length ≠ 0 → ∃ b o, a = some ⟨b, o, none⟩)
  cells : ∀ i (h : i < xs.length) j u, (enc xs[i])[j]? = some u → w.cell? ((adr v sz i).add j) = some u

theorem Sl.of_cells {α : Type} {enc : α → List Value} {sz : Nat} {w w' : World} {v : Value} {xs : List α} (h : Sl enc sz w v xs) (hc : ∀ a u, w.cell? a = some u → w'.cell? a = some u) : Sl enc sz w' v xs :=
  ⟨h.shape, fun i hi j u hu => hc _ _ (h.cells i hi j u hu)⟩
theorem Sl.ext {α : Type} {enc : α → List Value} {sz : Nat} {w w' : World} {v : Value} {xs : List α} (h : Sl enc sz w v xs) (e : Ext w w') : Sl enc sz w' v xs := h.of_cells fun _ _ => e.cell
theorem Sl.drew {α : Type} {enc : α → List Value} {sz : Nat} {w : World} {v : Value} {xs : List α} (h : Sl enc sz w v xs) : Sl enc sz w.drew v xs := h.of_cells fun _ _ h => h
theorem Sl.one {α : Type} {enc : α → List Value} {sz : Nat} {w : World} {v : Value} {xs : List α} (h : Sl enc sz w v xs) : v.oneCell' = true := by
  obtain ⟨_, _, rfl, _⟩ := h.shape; rfl
theorem Sl.len_le {α : Type} {enc : α → List Value} {sz : Nat} {w : World} {v : Value} {xs : List α} (h : Sl enc sz w v xs) : xs.length ≤ 9223372036854775807 := by
  obtain ⟨a, c, _, h1, h2, _⟩ := h.shape; omega
theorem Sl.cell {α : Type} [Inhabited α] {enc : α → List Value} {sz : Nat} {w : World} {v : Value} {xs : List α} (h : Sl enc sz w v xs) {i j : Nat} {u : Value} (hi : i < xs.length) (hu : (enc (nth xs i))[j]? = some u) : w.cell? ((adr v sz i).add j) = some u :=
  h.cells i hi j u (by rw [← nth_eq hi]; exact hu)
theorem adr_add0 (v : Value) (sz i : Nat) : (adr v sz i).add 0 = adr v sz i := rfl
theorem Sl.ld {α : Type} [Inhabited α] {val : α → Value} {sz : Nat} {w : World} {v : Value} {xs : List α} (h : Sl (fun x => [val x]) sz w v xs) {i : Nat} (hi : i < xs.length) : w.cell? (adr v sz i) = some (val (nth xs i)) :=
  h.cell (j := 0) hi rfl

/-- Slices of whole numbers. -/
abbrev Ints (w : World) (v : Value) (xs : List Int) : Prop := Sl (fun (x : Int) => [Value.int .i64 x]) 1 w v xs
abbrev Nats (w : World) (v : Value) (xs : List Nat) : Prop := Sl (fun (x : Nat) => [Value.int .i64 (x : Int)]) 1 w v xs

section
variable {P : Program} {N : Nat} {ops : Array Oper} {Q : Exit → Act → World → Prop} {rest : List Oper} {st : St} {w : World}
variable {t : TypeId} {p : String} {e : Array Edge} {d : Nat} {x y z : Operand}

theorem RV.len {T E : TypeId} {α : Type} {enc : α → List Value} {sz : Nat} {v : Value} {xs : List α} (hs : Sl enc sz w v xs) (hu : P.underlying T = some (.slice E)) (hx : ev st x = some v) : RV P N (.call ⟨.builtin .len, #[x], #[T]⟩) t st w (.int .i64 (xs.length : Int)) :=
  fun a ha dst p e g => by
    obtain ⟨ad, c, hv, _⟩ := hs.shape
    simp only [execOp, resolve, List.map_toArray, List.map_cons, List.map_nil, ha.ev hx]
    subst hv
    simp [invoke, Go.builtin, Builtin.len_, run_underlying hu, goInt]
theorem RV.indexAddr {T E : TypeId} {α : Type} {enc : α → List Value} {sz : Nat} {v : Value} {xs : List α} {k : IntKind} {i : Int} (hs : Sl enc sz w v xs) (hu : P.underlying T = some (.slice E)) (hE : (sizeOf E).run P w = .ok sz w)
    (hx : ev st x = some v) (hy : ev st y = some (.int k i)) (n : Nat) (hi : i = n) (hn : n < xs.length) : RV P N (.indexAddr T x y) t st w (.pointer (some (adr v sz n))) :=
  fun a ha dst p e g => by
    obtain ⟨ad, c, hv, _, _, hb⟩ := hs.shape
    obtain ⟨b, o, rfl⟩ := hb (by omega)
    simp only [execOp, ha.ev hx, ha.ev hy]
    subst hv; subst hi
    have : ((n : Int) < (xs.length : Int)) := by omega
    simp only [adr]
    have he : (if n * sz = 0 then (⟨b, o, none⟩ : Addr) else ⟨b, o + n * sz, none⟩) = ⟨b, o + n * sz, none⟩ := by split <;> simp_all
    simp [Instr.indexAt, asIntOf, run_underlying hu, hE, Addr.add, hn, he]
/-- The shape of a slice alone. -/
def Shape (v : Value) (n : Nat) : Prop := ∃ a c, v = .slice a n c ∧ (n ≠ 0 → ∃ b o, a = some ⟨b, o, none⟩)
theorem Sl.sh {α : Type} {enc : α → List Value} {sz : Nat} {w : World} {v : Value} {xs : List α} (h : Sl enc sz w v xs) : Shape v xs.length := by
  obtain ⟨a, c, h1, _, _, h2⟩ := h.shape; exact ⟨a, c, h1, h2⟩

theorem RV.indexAddrSh {T E : TypeId} {sz m : Nat} {v : Value} {k : IntKind} {i : Int} (hs : Shape v m) (hu : P.underlying T = some (.slice E)) (hE : (sizeOf E).run P w = .ok sz w)
    (hx : ev st x = some v) (hy : ev st y = some (.int k i)) (n : Nat) (hi : i = n) (hn : n < m) : RV P N (.indexAddr T x y) t st w (.pointer (some (adr v sz n))) :=
  fun a ha dst p e g => by
    obtain ⟨ad, c, hv, hb⟩ := hs
    obtain ⟨b, o, rfl⟩ := hb (by omega)
    simp only [execOp, ha.ev hx, ha.ev hy]
    subst hv; subst hi
    simp only [adr]
    have he : (if n * sz = 0 then (⟨b, o, none⟩ : Addr) else ⟨b, o + n * sz, none⟩) = ⟨b, o + n * sz, none⟩ := by split <;> simp_all
    simp [Instr.indexAt, asIntOf, run_underlying hu, hE, Addr.add, hn, he]

theorem RV.load {T : TypeId} {q : Addr} {u : Value} (hc : w.cell? q = some u) (hT : (isAgg T).run P w = .ok false w) (hx : ev st x = some (.pointer (some q))) : RV P N (.load T x) t st w (u) :=
  fun a ha dst p e g => by
    simp only [execOp, ha.ev hx]
    simp [Instr.loadAt, Instr.sureAddr, loadVar, hT, hc]
theorem run_loadCellsFrom {q : Addr} : ∀ (us : List Value) (i : Nat) (acc : Array Value), (∀ j u, us[j]? = some u → w.cell? (q.add (i + j)) = some u) → (loadCellsFrom q i us.length acc).run P w = .ok (acc ++ us.toArray) w
  | [], i, acc, _ => by simp [loadCellsFrom]
  | u :: r, i, acc, h => by
    have h0 := h 0 u rfl
    have ih := run_loadCellsFrom r (i + 1) (acc.push u) (fun j v hv => by have := h (j + 1) v (by simpa using hv); rwa [show i + 1 + j = i + (j + 1) from by omega])
    simp only [Nat.add_zero] at h0
    simp [loadCellsFrom, h0, ih]

theorem RV.loadAgg {T : TypeId} {q : Addr} {us : List Value} (hc : ∀ j u, us[j]? = some u → w.cell? (q.add j) = some u) (hT : (isAgg T).run P w = .ok true w) (hn : (sizeOf T).run P w = .ok us.length w) (hx : ev st x = some (.pointer (some q))) : RV P N (.load T x) t st w (.agg us.toArray) :=
  fun a ha dst p e g => by
    simp only [execOp, ha.ev hx]
    have := run_loadCellsFrom (P := P) us 0 #[] (q := q) (w := w) (by simpa using hc)
    simp [Instr.loadAt, Instr.sureAddr, loadVar, hT, hn, loadCells, this]
theorem RV.fieldAddr {S : TypeId} {fs : Array Field} {f m : Nat} {fd : Field} {q : Addr} (o : Nat) (hu : P.underlying S = some (.struct fs)) (hf : fs[f]? = some fd) (ho : fd.offset = o) (hz : (sizeOf fd.type).run P w = .ok m w) (hm : m ≠ 0)
    (hx : ev st x = some (.pointer (some q))) : RV P N (.fieldAddr S x f) t st w (.pointer (some (q.add o))) :=
  fun a ha dst p e g => by
    subst ho
    simp only [execOp, ha.ev hx]
    simp [Instr.fieldAt, Instr.sureAddr, fieldPlace, run_underlying hu, hf, hz, hm]
end
end Go.VL
