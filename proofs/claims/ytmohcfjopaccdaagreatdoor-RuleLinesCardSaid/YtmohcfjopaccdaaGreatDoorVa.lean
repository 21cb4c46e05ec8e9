/- '&&' and '||', whose ways meet again, for the small calculus. Nothing here speaks of a particular program. -/
import Derived.Test.YtmohcfjopaccdaaGreatDoorVs
namespace Go.VL

section
variable {P : Program} {N : Nat} {ops : Array Oper} {Q : Exit → Act → World → Prop} {rest : List Oper} {st : St} {w : World}

theorem wpList_append (K : Exit → Act → World → Prop) : ∀ (l r : List Oper) (a : Act) (w : World), (∀ e a w, K e a w → e ≠ .normal → Q e a w) → (∀ a w, K .normal a w → wpList P ops Q r a w) → wpList P ops K l a w → wpList P ops Q (l ++ r) a w
  | [], r, a, w, _, hn, h => hn a w h
  | o :: l, r, a, w, hx, hn, h => by
    simp only [List.cons_append]
    unfold wpList at h ⊢
    have ih := fun a w => wpList_append K l r a w hx hn
    have hpk : ∀ c a w, K (.panic c) a w → Q (.panic c) a w := fun c a w h => hx _ a w h (by intro h; cases h)
    split
    · rename_i hw
      rw [if_pos hw] at h
      rcases h with h | ⟨h1, a0, w0, h2⟩
      · left
        unfold Oper.wp at h ⊢
        generalize (execOp a.eval o).run P w = q at *
        cases q with
        | ok n w' =>
          cases n <;> simp only [Oper.upon] at h ⊢ <;> first
            | exact ih _ _ h
            | exact h.elim
            | exact Rows.mono h (fun _ _ he => ih _ _ he)
            | exact Calls.mono h (fun e w'' he => by
                cases e with
                | returned v => exact ih _ _ he
                | panicked c => exact hpk _ _ _ he
                | outgrown => obtain ⟨a0, w0, he⟩ := he; exact ⟨a0, w0, hx _ a0 w0 he (by intro h; cases h)⟩)
        | halt x w' => cases x <;> simp only [Oper.upon] at h ⊢ <;> first | exact hpk _ _ _ h | exact h.elim
      · exact .inr ⟨h1, a0, w0, hx _ a0 w0 h2 (by intro h; cases h)⟩
    · rename_i hw
      rw [if_neg hw] at h
      exact ih _ _ h

/-- What holds where the second part has been reckoned. -/
def AndQ (N : Nat) (S : World → Prop) (tB : Nat) (b : Bool) (st : St) : Exit → Act → World → Prop := fun e a w => e = .normal ∧ S w ∧ Fits N a st ∧ a.tmps[tB]? = some (.bool b)

theorem Fits.keep {a : Act} (ha : Fits N a st) {d : Nat} (hd : (sget st d).isNone = true) (hlt : Nat.blt d N = true) (v : Value) : Fits N (a.put (some d) v) st := by
  have h := ha.put hlt v
  refine ⟨h.size, h.defers, fun t u hu => h.get t u ?_⟩
  simp only [sget]
  cases hb : Nat.beq d t with
  | true => have := Nat.eq_of_beq_eq_true hb; subst this; rw [hu] at hd; simp at hd
  | false => exact hu

/-- Operations that are passed over. -/
def passed (N : Nat) (ops : Array Oper) (st : St) : List Oper → Bool
  | [] => true
  | o :: r => (match o.guard with
      | some (i, c) => (match (ops[i]?).bind (·.dst) with
        | some d => (match sget st d with
          | some (.bool x) => !(x == c)
          | some (.tuple _) => true
          | _ => false)
        | none => false)
      | none => false) && (match o.dst with | some d => (match sget st d with | none => true | _ => false) && Nat.blt d N && passed N ops ((d, undef) :: st) r | none => false)

theorem pass_all : ∀ (l : List Oper) (st0 st : St) (a : Act), passed N ops st l = true → (∀ t v, sget st0 t = some v → sget st t = some v) → Fits N a st → (∀ a', Fits N a' st0 → wpList P ops Q rest a' w) → wpList P ops Q (l ++ rest) a w
  | [], st0, st, a, _, hc, ha, h => h a ⟨ha.size, ha.defers, fun t v hv => ha.get t v (hc t v hv)⟩
  | o :: l, st0, st, a, hp, hc, ha, h => by
    simp only [passed, Bool.and_eq_true] at hp
    obtain ⟨hg, hd⟩ := hp
    cases hod : o.dst with
    | none => rw [hod] at hd; simp at hd
    | some d =>
      rw [hod] at hd
      simp only [Bool.and_eq_true] at hd
      obtain ⟨⟨hd1, hd2⟩, hd3⟩ := hd
      have hnone : sget st d = none := by cases h : sget st d with | none => rfl | some v => rw [h] at hd1; simp at hd1
      simp only [List.cons_append]
      unfold wpList
      rw [if_neg ?_]
      · rw [hod]
        refine pass_all l st0 ((d, undef) :: st) _ hd3 (fun t v hv => ?_) (ha.put hd2 undef) h
        have h1 := hc t v hv
        simp only [sget]
        cases hb : Nat.beq d t with
        | true => have := Nat.eq_of_beq_eq_true hb; subst this; rw [hnone] at h1; simp at h1
        | false => exact h1
      · cases hgu : o.guard with
        | none => rw [hgu] at hg; simp at hg
        | some ic =>
          obtain ⟨i, c⟩ := ic
          rw [hgu] at hg
          simp only at hg
          simp only [Region.wanted, hgu, yielded]
          cases hdst : (ops[i]?).bind (·.dst) with
          | none => rw [hdst] at hg; simp at hg
          | some d' =>
            rw [hdst] at hg
            simp only at hg
            cases hs : sget st d' with
            | none => rw [hs] at hg; simp at hg
            | some v =>
              rw [hs] at hg
              cases v <;> simp at hg
              · rename_i x
                simp [ha.get _ _ hs]; exact fun e => hg (by rw [e])
              · simp [ha.get _ _ hs]

theorem know_st {a : Act} {t : Nat} {b b' : Bool} (hs : sget st t = some (.bool b)) (hb : b = b') (ha : Fits N a st) : Fits N a ((t, .bool b') :: st) := by
  subst hb
  refine ⟨ha.size, ha.defers, fun u v hv => ?_⟩
  simp only [sget] at hv
  cases hb : Nat.beq t u with
  | true => rw [hb] at hv; have := Nat.eq_of_beq_eq_true hb; subst this; simp at hv; subst hv; exact ha.get _ _ hs
  | false => rw [hb] at hv; exact ha.get _ _ hv

theorem WL.andBS {l G : List Oper} {tA tB tP : Nat} {c : Bool} {t : TypeId} {p : String} {e : Array Edge} (S : World → Prop) (b : Bool) (n : Nat) (hS : S w) (hG : l.take n = G) (hrest : l.drop n = ⟨some tP, .pick (.tmp tA) (.tmp tB) (.const (.bool false)), t, p, e, none⟩ :: rest)
    (hc : sget st tA = some (.bool c)) (hpass : passed N ops ((tA, .bool false) :: st) G = true) (hd : Nat.blt tP N = true)
    (h1 : c = true → WL P N ops (AndQ N S tB b st) G ((tA, .bool true) :: st) w) (h2 : ∀ w', S w' → WL P N ops Q rest ((tP, .bool (c && b)) :: st) w') : WL P N ops Q l st w := by
  intro a ha
  rw [← List.take_append_drop n l, hG, hrest]
  cases c with
  | true =>
    refine wpList_append (AndQ N S tB b st) G _ a w (fun e a w h hne => absurd h.1 hne) (fun a' w' h => ?_) (h1 rfl a (know_st hc rfl ha))
    obtain ⟨_, hS', hf, hb⟩ := h
    unfold wpList
    rw [if_pos (wanted_none rfl _)]
    left
    unfold Oper.wp
    rw [run_pick (b := true) (by simpa [Act.eval, Array.getD_eq_getD_getElem?] using (by rw [hf.get _ _ hc] : (a'.tmps[tA]?).getD undef = (some (.bool true)).getD undef))]
    simp only [cond_true]
    rw [show a'.eval (.tmp tB) = .bool b from by simp [Act.eval, Array.getD_eq_getD_getElem?, hb]]
    exact h2 w' hS' _ (hf.put hd _)
  | false =>
    refine pass_all G st ((tA, .bool false) :: st) a hpass (fun t v hv => ?_) (know_st hc rfl ha) (fun a' ha' => ?_)
    · simp only [sget]
      cases hb : Nat.beq tA t with
      | true => have := Nat.eq_of_beq_eq_true hb; subst this; rw [hc] at hv; exact hv
      | false => exact hv
    · unfold wpList
      rw [if_pos (wanted_none rfl _)]
      left
      unfold Oper.wp
      rw [run_pick (b := false) (by simpa [Act.eval, Array.getD_eq_getD_getElem?] using (by rw [ha'.get _ _ hc] : (a'.tmps[tA]?).getD undef = (some (.bool false)).getD undef))]
      exact h2 w hS _ (ha'.put hd _)

theorem WL.orBS {l G : List Oper} {tA tB tP : Nat} {c : Bool} {t : TypeId} {p : String} {e : Array Edge} (S : World → Prop) (b : Bool) (n : Nat) (hS : S w) (hG : l.take n = G) (hrest : l.drop n = ⟨some tP, .pick (.tmp tA) (.const (.bool true)) (.tmp tB), t, p, e, none⟩ :: rest)
    (hc : sget st tA = some (.bool c)) (hpass : passed N ops ((tA, .bool true) :: st) G = true) (hd : Nat.blt tP N = true)
    (h1 : c = false → WL P N ops (AndQ N S tB b st) G ((tA, .bool false) :: st) w) (h2 : ∀ w', S w' → WL P N ops Q rest ((tP, .bool (c || b)) :: st) w') : WL P N ops Q l st w := by
  intro a ha
  rw [← List.take_append_drop n l, hG, hrest]
  cases c with
  | false =>
    refine wpList_append (AndQ N S tB b st) G _ a w (fun e a w h hne => absurd h.1 hne) (fun a' w' h => ?_) (h1 rfl a (know_st hc rfl ha))
    obtain ⟨_, hS', hf, hb⟩ := h
    unfold wpList
    rw [if_pos (wanted_none rfl _)]
    left
    unfold Oper.wp
    rw [run_pick (b := false) (by simpa [Act.eval, Array.getD_eq_getD_getElem?] using (by rw [hf.get _ _ hc] : (a'.tmps[tA]?).getD undef = (some (.bool false)).getD undef))]
    simp only [cond_false]
    rw [show a'.eval (.tmp tB) = .bool b from by simp [Act.eval, Array.getD_eq_getD_getElem?, hb]]
    exact h2 w' hS' _ (hf.put hd _)
  | true =>
    refine pass_all G st ((tA, .bool true) :: st) a hpass (fun t v hv => ?_) (know_st hc rfl ha) (fun a' ha' => ?_)
    · simp only [sget]
      cases hb : Nat.beq tA t with
      | true => have := Nat.eq_of_beq_eq_true hb; subst this; rw [hc] at hv; exact hv
      | false => exact hv
    · unfold wpList
      rw [if_pos (wanted_none rfl _)]
      left
      unfold Oper.wp
      rw [run_pick (b := true) (by simpa [Act.eval, Array.getD_eq_getD_getElem?] using (by rw [ha'.get _ _ hc] : (a'.tmps[tA]?).getD undef = (some (.bool true)).getD undef))]
      exact h2 w hS _ (ha'.put hd _)

theorem QF.andEnd {S : World → Prop} {tA tB : Nat} {b c : Bool} {st0 : St} (n : Nat) (hS : S w) (hdrop : st.drop n = st0) (hf : ((st.take n).all fun q => Nat.beq q.1 tA || (match sget st0 q.1 with | none => true | _ => false)) = true)
    (hA : sget st tA = some (.bool c)) (hA0 : ∀ v, sget st0 tA = some v → v = .bool c) (hb : sget st tB = some (.bool b)) : QF N (AndQ N S tB b st0) .normal st w := fun a ha => by
  refine ⟨rfl, hS, ⟨ha.size, ha.defers, fun t v hv => ?_⟩, ha.get _ _ hb⟩
  refine ha.get t v ?_
  by_cases ht : t = tA
  · subst ht; rw [hA0 v hv]; exact hA
  · have key : ∀ (pre : St), (pre.all fun q => Nat.beq q.1 tA || (match sget st0 q.1 with | none => true | _ => false)) = true → sget (pre ++ st0) t = some v := by
      intro pre
      induction pre with
      | nil => intro _; exact hv
      | cons q r ih =>
        intro hq
        simp only [List.all_cons, Bool.and_eq_true, Bool.or_eq_true] at hq
        obtain ⟨k, u⟩ := q
        simp only [List.cons_append, sget]
        cases hb : Nat.beq k t with
        | false => exact ih hq.2
        | true =>
          have := Nat.eq_of_beq_eq_true hb; subst this
          rcases hq.1 with h | h
          · exact absurd (Nat.eq_of_beq_eq_true h) ht
          · simp only [hv] at h; cases h
    have := key (st.take n) hf
    rw [← hdrop, List.take_append_drop] at this
    exact this
end
end Go.VL
