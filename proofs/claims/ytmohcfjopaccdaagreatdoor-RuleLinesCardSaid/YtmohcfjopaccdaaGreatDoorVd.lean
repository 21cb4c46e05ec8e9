/- Stretches of code whose order Go leaves open, for the small calculus. What only tells may be taken first; what writes is taken as it may come. Nothing here speaks of a particular program. -/
import Derived.Test.YtmohcfjopaccdaaGreatDoorVm
import Derived.OrdersHeld
import Derived.StillTail
import Derived.Deep.Quiet
namespace Go.VL

/-- Nothing panics. -/
def Calm (Q : Exit → Act → World → Prop) : Exit → Act → World → Prop
  | .panic _, _, _ => False
  | e, a, w => Q e a w

theorem Calm.imp {Q : Exit → Act → World → Prop} : ∀ {e : Exit} {a : Act} {w : World}, Calm Q e a w → Q e a w := by
  intro e a w h
  cases e <;> first | exact h | exact h.elim

section
variable (P : Program) (N : Nat)
def WH (ops : Array Oper) (S : World → Prop) (Q : Exit → Act → World → Prop) (fuel : Nat) (listed : Array Bool) (st : St) (w : World) : Prop :=
  ∀ a, Fits N a st → wpAnyH P .any ops (Calm Q) S fuel listed a w
end

section
variable {P : Program} {N : Nat} {ops : Array Oper} {S : World → Prop} {Q : Exit → Act → World → Prop} {st : St} {w : World} {fuel : Nat} {listed : Array Bool}

/-- The beginning. -/
theorem WC.draw {id : Nat} {l : List Oper} (S : World → Prop) (n : Nat) (hn : l.length = n) (hm : P.follows .mixedOrders = true)
    (h : WH P N l.toArray S Q n (Array.replicate n false) st w.drew) : WC P N (Code.region id l.toArray true) Q st w := fun a ha => by
  refine wp_mono (Q := Calm Q) (wp_region_held (S := S) hm ?_) fun e a w h => h.imp
  have := h a ha
  simp only [List.size_toArray, hn]
  exact this

/-- Number i tells its value in every world that may be met here: it is taken first. -/
theorem WH.take {op : Op} {t : TypeId} {p : String} {e : Array Edge} {d : Nat} {v : Value} (i : Nat) (hi : ops[i]? = some ⟨some d, op, t, p, e, none⟩)
    (hs : Region.noSelect ops = true) (hf : Region.free .any ops listed i = true) (hr : (Region.ready .any ops listed).contains i = true) (hS : S w)
    (hv : ∀ w', S w' → RV P N op t st w' v) (hd : Nat.blt d N = true) (h : WH P N ops S Q fuel (listed.setIfInBounds i true) ((d, v) :: st) w) : WH P N ops S Q (fuel + 1) listed st w := by
  intro a ha
  refine wpAnyH_take (v := v) hi hs hf hr (fun _ _ _ h => h) (.inl ⟨by simp [Region.wanted], fun w' hw' => hv w' hw' a ha _ _ _ _⟩) hS ?_
  exact h _ (ha.put hd v)

theorem WH.takeOn {op : Op} {t : TypeId} {p : String} {e : Array Edge} {d j : Nat} {b : Bool} {v : Value} (i : Nat) (hi : ops[i]? = some ⟨some d, op, t, p, e, some (j, b)⟩) (hg : said ops st j = some b)
    (hs : Region.noSelect ops = true) (hf : Region.free .any ops listed i = true) (hr : (Region.ready .any ops listed).contains i = true) (hS : S w)
    (hv : ∀ w', S w' → RV P N op t st w' v) (hd : Nat.blt d N = true) (h : WH P N ops S Q fuel (listed.setIfInBounds i true) ((d, v) :: st) w) : WH P N ops S Q (fuel + 1) listed st w := by
  intro a ha
  refine wpAnyH_take (v := v) hi hs hf hr (fun _ _ _ h => h) (.inl ⟨by simp [Region.wanted, yielded_of_said ha hg], fun w' hw' => hv w' hw' a ha _ _ _ _⟩) hS ?_
  exact h _ (ha.put hd v)

theorem WH.takeOff {op : Op} {t : TypeId} {p : String} {e : Array Edge} {d j : Nat} {b b' : Bool} (i : Nat) (hi : ops[i]? = some ⟨some d, op, t, p, e, some (j, b)⟩) (hg : said ops st j = some b') (hne : (b' == b) = false)
    (hs : Region.noSelect ops = true) (hf : Region.free .any ops listed i = true) (hr : (Region.ready .any ops listed).contains i = true) (hS : S w)
    (hd : Nat.blt d N = true) (h : WH P N ops S Q fuel (listed.setIfInBounds i true) ((d, undef) :: st) w) : WH P N ops S Q (fuel + 1) listed st w := by
  intro a ha
  refine wpAnyH_take (v := undef) hi hs hf hr (fun _ _ _ h => h) (.inr ⟨?_, rfl⟩) hS ?_
  · have : (b' == b) = false := hne
    simp [Region.wanted, yielded_of_said ha hg]; simpa using this
  · exact h _ (ha.put hd undef)

theorem WH.takeOffU {op : Op} {t : TypeId} {p : String} {e : Array Edge} {d j : Nat} {b : Bool} (i : Nat) (hi : ops[i]? = some ⟨some d, op, t, p, e, some (j, b)⟩) (hg : saidNot ops st j = true)
    (hs : Region.noSelect ops = true) (hf : Region.free .any ops listed i = true) (hr : (Region.ready .any ops listed).contains i = true) (hS : S w)
    (hd : Nat.blt d N = true) (h : WH P N ops S Q fuel (listed.setIfInBounds i true) ((d, undef) :: st) w) : WH P N ops S Q (fuel + 1) listed st w := by
  intro a ha
  refine wpAnyH_take (v := undef) hi hs hf hr (fun _ _ _ h => h) (.inr ⟨?_, rfl⟩) hS ?_
  · unfold saidNot at hg
    simp only [Region.wanted, yielded]
    cases hd : (ops[j]?).bind (·.dst) with
    | none => rw [hd] at hg; simp at hg
    | some d =>
      rw [hd] at hg
      simp only at hg
      cases hx : sget st d with
      | none => rw [hx] at hg; simp at hg
      | some v =>
        rw [hx] at hg
        cases v <;> simp at hg
        simp [ha.get _ _ hx]
  · exact h _ (ha.put hd undef)

/-- What must hold behind an operation that is carried out now. -/
def After (P : Program) (ops : Array Oper) (S : World → Prop) (Q : Exit → Act → World → Prop) (fuel : Nat) (listed : Array Bool) : Exit → Act → World → Prop :=
  Exit.then (fun a' w' => S w' ∧ wpAnyH P .any ops (Calm Q) S fuel listed a' w') (Calm Q)

theorem QF.after {i : Nat} (hS : S w) (h : WH P N ops S Q fuel (listed.setIfInBounds i true) st w) : QF N (After P ops S Q fuel (listed.setIfInBounds i true)) .normal st w := fun a ha => ⟨hS, h a ha⟩

/-- Whichever comes up. -/
theorem WH.all (rs : List Nat) (hr : Region.ready .any ops listed = rs) (hne : rs ≠ [])
    (h : ∀ i ∈ rs, ∀ o, ops[i]? = some o → WL P N ops (After P ops S Q fuel (listed.setIfInBounds i true)) [o] st w) : WH P N ops S Q (fuel + 1) listed st w := by
  intro a ha
  refine wpAnyH_all hr hne fun i hi => ?_
  have hlt : ∃ o, ops[i]? = some o := by
    rw [← hr] at hi
    simp only [Region.ready, List.mem_filter, List.mem_range] at hi
    exact ⟨_, Array.getElem?_eq_getElem hi.1⟩
  obtain ⟨o, ho⟩ := hlt
  have h1 := h i hi o ho a ha
  unfold wpOp
  simp only [ho]
  unfold wpList at h1
  split
  · rename_i hw
    rw [if_pos hw] at h1
    refine h1.imp (fun h2 => ?_) (fun ⟨h2, h3⟩ => ⟨h2, h3⟩)
    unfold Oper.wp at h2 ⊢
    generalize (execOp a.eval o).run P w = r at *
    cases r with
    | ok n w' =>
      cases n <;> simp only [Oper.upon] at h2 ⊢ <;> first
        | exact h2
        | exact Calls.mono h2 (fun e w'' he => by cases e <;> exact he)
        | exact Rows.mono h2 (fun _ _ he => he)
    | halt x w' => cases x <;> simp only [Oper.upon] at h2 ⊢ <;> exact h2
  · rename_i hw
    rw [if_neg hw] at h1
    exact h1

theorem WH.one (i : Nat) {o : Oper} (hr : Region.ready .any ops listed = [i]) (hi : ops[i]? = some o)
    (h : WL P N ops (After P ops S Q fuel (listed.setIfInBounds i true)) [o] st w) : WH P N ops S Q (fuel + 1) listed st w :=
  WH.all [i] hr (by simp) fun j hj o' ho' => by
    simp only [List.mem_singleton] at hj; subst hj; rw [hi] at ho'; cases ho'; exact h
theorem WH.two (i j : Nat) {o o' : Oper} (hr : Region.ready .any ops listed = [i, j]) (hi : ops[i]? = some o) (hj : ops[j]? = some o')
    (h : WL P N ops (After P ops S Q fuel (listed.setIfInBounds i true)) [o] st w) (h' : WL P N ops (After P ops S Q fuel (listed.setIfInBounds j true)) [o'] st w) : WH P N ops S Q (fuel + 1) listed st w :=
  WH.all [i, j] hr (by simp) fun k hk q hq => by
    simp only [List.mem_cons, List.not_mem_nil, or_false] at hk
    rcases hk with rfl | rfl
    · rw [hi] at hq; cases hq; exact h
    · rw [hj] at hq; cases hq; exact h'

theorem WH.know {d : Nat} {b b' : Bool} (hs : sget st d = some (.bool b)) (hb : b = b') (h : WH P N ops S Q fuel listed ((d, .bool b') :: st) w) : WH P N ops S Q fuel listed st w := by
  subst hb
  refine fun a ha => h a ⟨ha.size, ha.defers, fun t v hv => ?_⟩
  simp only [sget] at hv
  cases hb : Nat.beq d t with
  | true => rw [hb] at hv; have := Nat.eq_of_beq_eq_true hb; subst this; simp at hv; subst hv; exact ha.get _ _ hs
  | false => rw [hb] at hv; exact ha.get _ _ hv
theorem WH.done (hr : Region.ready .any ops listed = []) (h : QF N Q .normal st w) : WH P N ops S Q fuel listed st w := fun a ha => wpAnyH_done (Q := Calm Q) hr (show Calm Q .normal a w from h a ha) fuel
end

/-! Regions whose first operations only tell, and whose last ones come in their order. -/
section
variable (P : Program) (N : Nat)
def WS (ops : Array Oper) (w : World) (K : Act → Prop) (l : List Oper) (st : St) : Prop := ∀ a, Fits N a st → wpStill P ops w K l a
end
section
variable {P : Program} {N : Nat} {ops : Array Oper} {Q : Exit → Act → World → Prop} {K : Act → Prop} {st : St} {w : World} {rest : List Oper}

theorem WC.tail {id : Nat} {l hd tl : List Oper} (n : Nat) (ht : l.take n = hd) (hdr : l.drop n = tl) (hm : P.follows .mixedOrders = true) (hB : Region.lexTailB .any l.toArray n = true)
    (h : WS P N l.toArray w.drew (fun a' => wpList P l.toArray Q tl a' w.drew) hd st) : WC P N (Code.region id l.toArray true) Q st w := fun a ha => by
  subst ht; subst hdr
  exact wp_region_still_tail n hm hB (h a ha)

theorem WC.still {id : Nat} {l : List Oper} (hm : P.follows .mixedOrders = true) (hB : Region.lexB .any l.toArray = true)
    (h : WS P N l.toArray w.drew (fun a' => Q .normal a' w.drew) l st) : WC P N (Code.region id l.toArray true) Q st w := fun a ha => by
  exact wp_region_still_lit hm hB (h a ha)

theorem WS.go {tl : List Oper} (h : WL P N ops Q tl st w) : WS P N ops w (fun a' => wpList P ops Q tl a' w) [] st := fun a ha => h a ha
theorem WS.nil (h : QF N Q .normal st w) : WS P N ops w (fun a' => Q .normal a' w) [] st := fun a ha => h a ha

theorem WS.v {op : Op} {t : TypeId} {p : String} {e : Array Edge} {d : Nat} {v : Value} (hv : RV P N op t st w v) (hd : Nat.blt d N = true)
    (h : WS P N ops w K rest ((d, v) :: st)) : WS P N ops w K (⟨some d, op, t, p, e, none⟩ :: rest) st := fun a ha => by
  unfold wpStill
  rw [if_pos (wanted_none rfl _)]
  unfold Oper.still
  rw [hv a ha]
  exact ⟨rfl, h _ (ha.put hd v)⟩

theorem WS.on {op : Op} {t : TypeId} {p : String} {e : Array Edge} {d : Option Tmp} {j : Nat} {b : Bool} (hs : said ops st j = some b)
    (h : WS P N ops w K (⟨d, op, t, p, e, none⟩ :: rest) st) : WS P N ops w K (⟨d, op, t, p, e, some (j, b)⟩ :: rest) st := by
  intro a ha
  have h1 := h a ha
  unfold wpStill at h1 ⊢
  rw [if_pos (by simp [Region.wanted])] at h1
  rw [if_pos (by simp [Region.wanted, yielded_of_said ha hs])]
  exact h1

theorem WS.off {op : Op} {t : TypeId} {p : String} {e : Array Edge} {d : Nat} {j : Nat} {b b' : Bool} (hs : said ops st j = some b') (hne : (b' == b) = false) (hd : Nat.blt d N = true)
    (h : WS P N ops w K rest ((d, undef) :: st)) : WS P N ops w K (⟨some d, op, t, p, e, some (j, b)⟩ :: rest) st := by
  intro a ha
  unfold wpStill
  rw [if_neg (by simp [Region.wanted, yielded_of_said ha hs]; simpa using hne)]
  exact h _ (ha.put hd undef)

theorem WS.offU {op : Op} {t : TypeId} {p : String} {e : Array Edge} {d : Nat} {j : Nat} {b : Bool} (hs : saidNot ops st j = true) (hd : Nat.blt d N = true)
    (h : WS P N ops w K rest ((d, undef) :: st)) : WS P N ops w K (⟨some d, op, t, p, e, some (j, b)⟩ :: rest) st := by
  intro a ha
  unfold wpStill
  rw [if_neg ?_]
  · exact h _ (ha.put hd undef)
  · unfold saidNot at hs
    simp only [Region.wanted, yielded]
    cases hd : (ops[j]?).bind (·.dst) with
    | none => rw [hd] at hs; simp at hs
    | some d =>
      rw [hd] at hs
      simp only at hs
      cases hx : sget st d with
      | none => rw [hx] at hs; simp at hs
      | some v =>
        rw [hx] at hs
        cases v <;> simp at hs
        simp [ha.get _ _ hx]

theorem WS.know {d : Nat} {b b' : Bool} {l : List Oper} (hs : sget st d = some (.bool b)) (hb : b = b') (h : WS P N ops w K l ((d, .bool b') :: st)) : WS P N ops w K l st := by
  subst hb
  refine fun a ha => h a ⟨ha.size, ha.defers, fun t v hv => ?_⟩
  simp only [sget] at hv
  cases hb : Nat.beq d t with
  | true => rw [hb] at hv; have := Nat.eq_of_beq_eq_true hb; subst this; simp at hv; subst hv; exact ha.get _ _ hs
  | false => rw [hb] at hv; exact ha.get _ _ hv
/-- A call that leaves the world as it was. -/
theorem WS.call {t : TypeId} {p : String} {e : Array Edge} {d : Nat} {f : FuncId} {args : List Operand} {ats : Array TypeId} {vs : List Value} {v : Value}
    (hf : ∀ (args : Array Value) (w : World), (callFunc f args).run P w = .ok (.enter f args) w) (hargs : evs st args = some vs) (hc : Ret P f vs w fun u w' => u = v ∧ w' = w) (hd : Nat.blt d N = true)
    (h : WS P N ops w K rest ((d, v) :: st)) : WS P N ops w K (⟨some d, .call ⟨.value (.func f), args.toArray, ats⟩, t, p, e, none⟩ :: rest) st := by
  intro a ha
  unfold wpStill
  rw [if_pos (wanted_none rfl _)]
  unfold Oper.still
  have hrun : (execOp a.eval ⟨some d, .call ⟨.value (.func f), args.toArray, ats⟩, t, p, e, none⟩).run P w = .ok (.enter f vs.toArray) w := by
    simp only [execOp, resolve, Act.eval, List.map_toArray]
    rw [ha.evs hargs]
    simp [Deferred.ofValue, invoke, hf]
  rw [hrun]
  refine ⟨rfl, v, Calls.mono hc fun e w' q => ?_, h _ (ha.put hd v)⟩
  cases e with
  | returned u => exact ⟨by rw [q.1], q.2⟩
  | panicked c => exact q.elim
  | outgrown => exact q.elim
end

/-! Regions all of whose operations tell what they tell in whatever world of a class; a call may lead to another world of the class. -/
section
variable (P : Program) (N : Nat)
def WQ (ops : Array Oper) (C : World → Prop) (K : Act → Prop) (l : List Oper) (st : St) : Prop := ∀ a, Fits N a st → wpQuiet P ops C K l a
end
section
variable {P : Program} {N : Nat} {ops : Array Oper} {C : World → Prop} {Q : Exit → Act → World → Prop} {K : Act → Prop} {st : St} {w : World} {rest : List Oper}

theorem WC.quiet {id : Nat} {l : List Oper} (C : World → Prop) (hm : P.follows .mixedOrders = true) (hB : Region.lexB .any l.toArray = true) (hC : C w.drew)
    (h : WQ P N l.toArray C (fun a' => ∀ w', C w' → Q .normal a' w') l st) : WC P N (Code.region id l.toArray true) Q st w := fun a ha =>
  wp_region_quiet (C := C) hm hB hC (by simpa using h a ha)

theorem WQ.nil (h : ∀ w', C w' → QF N Q .normal st w') : WQ P N ops C (fun a' => ∀ w', C w' → Q .normal a' w') [] st := fun a ha w' hw' => h w' hw' a ha

theorem WQ.v {op : Op} {t : TypeId} {p : String} {e : Array Edge} {d : Nat} {v : Value} (hv : ∀ w, C w → RV P N op t st w v) (hd : Nat.blt d N = true)
    (h : WQ P N ops C K rest ((d, v) :: st)) : WQ P N ops C K (⟨some d, op, t, p, e, none⟩ :: rest) st := fun a ha => by
  unfold wpQuiet
  rw [if_pos (wanted_none rfl _)]
  exact ⟨v, fun w hw => by unfold Oper.quietAt; rw [hv w hw a ha]; exact ⟨rfl, rfl⟩, h _ (ha.put hd v)⟩

theorem WQ.on {op : Op} {t : TypeId} {p : String} {e : Array Edge} {d : Option Tmp} {j : Nat} {b : Bool} (hs : said ops st j = some b)
    (h : WQ P N ops C K (⟨d, op, t, p, e, none⟩ :: rest) st) : WQ P N ops C K (⟨d, op, t, p, e, some (j, b)⟩ :: rest) st := by
  intro a ha
  have h1 := h a ha
  unfold wpQuiet at h1 ⊢
  rw [if_pos (by simp [Region.wanted])] at h1
  rw [if_pos (by simp [Region.wanted, yielded_of_said ha hs])]
  exact h1

theorem WQ.off {op : Op} {t : TypeId} {p : String} {e : Array Edge} {d : Nat} {j : Nat} {b b' : Bool} (hs : said ops st j = some b') (hne : (b' == b) = false) (hd : Nat.blt d N = true)
    (h : WQ P N ops C K rest ((d, undef) :: st)) : WQ P N ops C K (⟨some d, op, t, p, e, some (j, b)⟩ :: rest) st := by
  intro a ha
  unfold wpQuiet
  rw [if_neg (by simp [Region.wanted, yielded_of_said ha hs]; simpa using hne)]
  exact h _ (ha.put hd undef)

theorem WQ.offU {op : Op} {t : TypeId} {p : String} {e : Array Edge} {d : Nat} {j : Nat} {b : Bool} (hs : saidNot ops st j = true) (hd : Nat.blt d N = true)
    (h : WQ P N ops C K rest ((d, undef) :: st)) : WQ P N ops C K (⟨some d, op, t, p, e, some (j, b)⟩ :: rest) st := by
  intro a ha
  unfold wpQuiet
  rw [if_neg ?_]
  · exact h _ (ha.put hd undef)
  · unfold saidNot at hs
    simp only [Region.wanted, yielded]
    cases hd : (ops[j]?).bind (·.dst) with
    | none => rw [hd] at hs; simp at hs
    | some d =>
      rw [hd] at hs
      simp only at hs
      cases hx : sget st d with
      | none => rw [hx] at hs; simp at hs
      | some v =>
        rw [hx] at hs
        cases v <;> simp at hs
        simp [ha.get _ _ hx]

theorem WQ.know {d : Nat} {b b' : Bool} {l : List Oper} (hs : sget st d = some (.bool b)) (hb : b = b') (h : WQ P N ops C K l ((d, .bool b') :: st)) : WQ P N ops C K l st := by
  subst hb
  refine fun a ha => h a ⟨ha.size, ha.defers, fun t v hv => ?_⟩
  simp only [sget] at hv
  cases hb : Nat.beq d t with
  | true => rw [hb] at hv; have := Nat.eq_of_beq_eq_true hb; subst this; simp at hv; subst hv; exact ha.get _ _ hs
  | false => rw [hb] at hv; exact ha.get _ _ hv

theorem WQ.call {t : TypeId} {p : String} {e : Array Edge} {d : Nat} {f : FuncId} {args : List Operand} {ats : Array TypeId} {vs : List Value} {v : Value}
    (hf : ∀ (args : Array Value) (w : World), (callFunc f args).run P w = .ok (.enter f args) w) (hargs : evs st args = some vs) (hc : ∀ w, C w → Ret P f vs w fun u w' => u = v ∧ C w') (hd : Nat.blt d N = true)
    (h : WQ P N ops C K rest ((d, v) :: st)) : WQ P N ops C K (⟨some d, .call ⟨.value (.func f), args.toArray, ats⟩, t, p, e, none⟩ :: rest) st := by
  intro a ha
  unfold wpQuiet
  rw [if_pos (wanted_none rfl _)]
  refine ⟨v, fun w hw => ?_, h _ (ha.put hd v)⟩
  unfold Oper.quietAt
  have hrun : (execOp a.eval ⟨some d, .call ⟨.value (.func f), args.toArray, ats⟩, t, p, e, none⟩).run P w = .ok (.enter f vs.toArray) w := by
    simp only [execOp, resolve, Act.eval, List.map_toArray]
    rw [ha.evs hargs]
    simp [Deferred.ofValue, invoke, hf]
  rw [hrun]
  refine ⟨rfl, Calls.mono (hc w hw) fun e w' q => ?_⟩
  cases e with
  | returned u => exact ⟨by rw [q.1], q.2⟩
  | panicked c => exact q.elim
  | outgrown => exact q.elim

end
end Go.VL
