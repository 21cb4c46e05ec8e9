/- Loops over functions of two values. Nothing here speaks of a particular program. -/
import Derived.Test.YtmohcfjopaccdaaGreatDoorVr
namespace Go.VL
open Go.RowKit
section
variable {P : Program} {N : Nat} {ro : Option Nat} {ds : List Deferred} {Q : Exit → Act → World → Prop} {st : St} {w : World}
theorem WLI.yield2 {ops : Array Oper} {rest : List Oper} {t : TypeId} {p : String} {e : Array Edge} {d : Nat} {x y z : Operand} {ats : Array TypeId} {l : Nat} {u u2 : Value} {R : Ending → World → Prop}
    (hx : ev st x = some (.func (.yield l) #[] #[])) (hy : ev st y = some u) (hz : ev st z = some u2) (hc : YieldAt Fence.wide 0 P l #[u, u2] w R) (hd : Nat.blt d N = true)
    (hR : ∀ e w', R e w' → ∃ v, e = .returned v)
    (h : ∀ v w', R (.returned v) w' → WLI none P N ds ops Q rest ((d, v) :: st) w') : WLI none P N ds ops Q (⟨some d, .call ⟨.value x, #[y, z], ats⟩, t, p, e, none⟩ :: rest) st w := by
  intro a ha
  unfold wpListIn
  rw [if_pos (wanted_none rfl _)]
  refine ⟨fun _ _ => trivial, ?_⟩
  obtain ⟨fn, tmps, assign, body, hy', hr⟩ := hc
  have hrun : (Oper.semAt (Fr none).round ({ a with defers := ds } : Act).eval ⟨some d, .call ⟨.value x, #[y, z], ats⟩, t, p, e, none⟩).run P w = .ok (.round l fn tmps assign body) w := by
    rw [eval_defers]
    rw [show (Fr none).round = none from rfl, Oper.semAt_none]
    simp only [execOp, resolve, List.map_toArray, List.map_cons, List.map_nil, ha.ev hx, ha.ev hy, ha.ev hz]
    simp [Deferred.ofValue, invoke, hy']
  rw [hrun]
  refine ⟨fun hh => by simp [Fence.wide] at hh, ?_⟩
  refine RoundIn.mono (hr : RoundIn Fence.wide _ P l fn tmps assign body w _) ?_
  intro e' w' q
  obtain ⟨v, rfl⟩ := hR _ _ q
  have := h v w' q _ (ha.put hd v)
  simpa [Act.put] using this
end
def Iter2 {α : Type} (P : Program) (gf : Nat) (lb : List Value) (ex : Nat → Value) (enc : α → Value) (xs : List α) (Rd : World → Prop) : Prop :=
  ∀ (l : Nat) (J : Nat → World → Prop) (Jx : World → Prop) (W : World), (∀ i W, J i W → Rd W) → (∀ i W W', J i W → Ext W W' → J i W') →
    (∀ i (hi : i < xs.length) W W', J i W → Ext W W' → YieldAt Fence.wide 0 P l #[ex i, enc xs[i]] W' fun e W2 => ((e = .returned (.bool true) ∧ J (i + 1) W2) ∨ (e = .returned (.bool false) ∧ Jx W2)) ∧ ∀ b, W.heap.size ≤ b → b < W'.heap.size → W2.heap[b]? = W'.heap[b]?) →
    J 0 W → Ret P gf (.func (.yield l) #[] #[] :: lb) W fun _ W' => J xs.length W' ∨ Jx W'
theorem WI.rangeFunc2 {P : Program} {N : Nat} {ds : List Deferred} {Q : Exit → Act → World → Prop} {st : St} {w : World} {α : Type} {g : Operand} {p0 p1 d0 : Nat} {T : TypeId} {id : Nat} {e1 e2 : Array Edge} {q1 q2 : String} {t1 t2 : TypeId} {body : Code}
    {gf : Nat} {lb : List Value} {ex : Nat → Value} {enc : α → Value} {xs : List α} {Rd : World → Prop}
    (hg : ev st g = some (.func (.func gf) #[] lb.toArray)) (eg : ∀ args w, (callFunc gf args).run P w = .ok (.enter gf args) w) (it : Iter2 P gf lb ex enc xs Rd)
    (hp0 : Nat.blt p0 N = true) (hp1 : Nat.blt p1 N = true) (hd0 : Nat.blt d0 N = true) {z : Value} (hz : ∀ W : World, (zeroValue T).run P W = .ok z W) 
    {B : Nat} {O : Nat → Nat} (r : Rng B O w) (L K : Nat) (hL : L ≠ 0) (hK : K ≠ 0) (hLK : L ≠ K)
    (hstore : ∀ (W : World) (O' : Nat → Nat) (b : Nat) (y : Value) (x : α) (_ : x ∈ xs) (ops : Array Oper) (Q' : Exit → Act → World → Prop), BlkO O' W K b z.cells T →
      (∀ w2, BlkO O' w2 K b (enc x).cells T → Upd (fun j => j = K) O' W O' w2 → WL P N ops Q' [] ((d0, .pointer (some ⟨b, 0, none⟩)) :: (p1, enc x) :: (p0, y) :: st) w2) →
      WL P N ops Q' [⟨none, .store T (.tmp d0) (.tmp p1), t2, q2, e2, none⟩] ((d0, .pointer (some ⟨b, 0, none⟩)) :: (p1, enc x) :: (p0, y) :: st) W)
    (I : Nat → (Nat → Nat) → World → Prop) (Ix : Code → (Nat → Nat) → World → Prop)
    (hI : ∀ i O W O' W', I i O W → Upd (fun j => j = L ∨ j = K) O W O' W' → I i O' W') (hIx : ∀ c O W O' W', Ix c O W → Upd (fun j => j = L) O W O' W' → Ix c O' W')
    (hRd : ∀ i O W, I i O W → Rd W) (h0 : I 0 O w)
    (hbody : ∀ l i (hi : i < xs.length) b O' W, Rng B O' W → I i O' W → BlkO O' W K b (enc xs[i]).cells T →
      WI (some l) P N [] body (roundQ O' W L (I (i + 1)) Ix) ((d0, .pointer (some ⟨b, 0, none⟩)) :: (p1, enc xs[i]) :: (p0, ex i) :: st) W)
    (hdone : ∀ D O' W, Rng B O' W → O' D = L → I xs.length O' W → W.heap[D]? = some (.deferred (some [])) → QI N ({ target := .collected D, args := #[] } :: ds) Q .normal st W)
    (hstop : ∀ D c O' W, Rng B O' W → O' D = L → Ix c O' W → W.heap[D]? = some (.deferred (some [])) → WI none P N ({ target := .collected D, args := #[] } :: ds) c Q st W) :
    WI none P N ds (.rangeFunc g #[p0, p1] (.region id #[⟨some d0, .alloc T, t1, q1, e1, none⟩, ⟨none, .store T (.tmp d0) (.tmp p1), t2, q2, e2, none⟩] false) body) Q st w := by
  intro a ha
  refine wpIn_rangeFunc ?_
  intro fn hfn
  rw [show (Fr none).round = none from rfl]
  obtain ⟨D, hD⟩ : ∃ D, D = w.heap.size := ⟨_, rfl⟩
  obtain ⟨asg, hasg⟩ : ∃ c, c = Code.region id #[⟨some d0, .alloc T, t1, q1, e1, none⟩, ⟨none, .store T (.tmp d0) (.tmp p1), t2, q2, e2, none⟩] false := ⟨_, rfl⟩
  rw [← hasg]
  obtain ⟨rec, hrec⟩ : ∃ rec : LoopState → Option Code → Loop, rec = fun st pe => { state := st, pending := pe, fn, tmps := a.tmps, params := #[p0, p1], assign := asg, body, defers := D } := ⟨_, rfl⟩
  obtain ⟨W1, hW1⟩ : ∃ W1, (w.alloc (.deferred (some []))).alloc (.loop (rec .ready none)) = W1 := ⟨_, rfl⟩
  obtain ⟨O1, hO1⟩ : ∃ O1, own1 (own1 O D L) (D + 1) L = O1 := ⟨_, rfl⟩
  have hzL : ¬ (fun j => j = L) 0 := fun e => hL e.symm
  have hUa : Upd (fun j => j = L) O w (own1 O D L) (w.alloc (.deferred (some []))) := by rw [hD]; exact Upd.alloc hzL r _ L
  have hU1 : Upd (fun j => j = L) O w O1 W1 := by
    rw [← hW1, ← hO1]
    refine hUa.trans ?_
    have := Upd.alloc (S := fun j => j = L) hzL (r.upd hUa) (.loop (rec .ready none)) L
    rwa [World.size_alloc, ← hD] at this
  have hR1 : Rng B O1 W1 := r.upd hU1
  have hL1 : W1.heap[D + 1]? = some (.loop (rec .ready none)) := by
    rw [← hW1, hD]; have := World.alloc_heap_new (w.alloc (.deferred (some []))) (.loop (rec .ready none)); rwa [World.size_alloc] at this
  have hK1 : W1.heap[D]? = some (.deferred (some [])) := by
    rw [← hW1, hD]; exact (Below.heap_alloc _ _ _ (by simp)).trans (World.alloc_heap_new w _)
  have hO1D : O1 D = L := by rw [← hO1]; unfold own1; rw [if_neg (by omega), if_pos rfl]
  have hO1L : O1 (D + 1) = L := by rw [← hO1]; exact own1_at _ _ _
  have hI1 : I 0 O1 W1 := hI _ _ _ _ _ h0 (hU1.mono (fun _ h => .inl h) (by rintro (h | h); exact hL h.symm; exact hK h.symm))
  refine ⟨D + 1, [{ target := .collected D, args := #[] }], W1, { target := .fn (.func gf) lb.toArray, args := #[.func (.yield (D + 1)) #[] #[]] }, W1, gf,
    #[.func (.yield (D + 1)) #[] #[]] ++ lb.toArray, W1, ?_, ?_, fun _ _ => trivial, ?_, fun hh => by simp [Fence.wide] at hh, ?_⟩
  · rw [← hW1, hrec, hD]; exact run_enterLoop_outer _ _ _ _ _
  · simp only [resolve, ha.evD hg ds]
    simp [go_sem]
  · simp [invoke, go_sem, eg]
  · have hJ := it (D + 1)
      (fun i W => ∃ O', Rng B O' W ∧ O' D = L ∧ O' (D + 1) = L ∧ I i O' W ∧ W.heap[D + 1]? = some (.loop (rec .ready none)) ∧ W.heap[D]? = some (.deferred (some [])))
      (fun W => ∃ c O', Rng B O' W ∧ O' D = L ∧ O' (D + 1) = L ∧ Ix c O' W ∧ W.heap[D + 1]? = some (.loop (rec .done (some c))) ∧ W.heap[D]? = some (.deferred (some [])))
      W1 (fun i W ⟨O', _, _, _, h, _⟩ => hRd i O' W h) (fun i W W' ⟨O', h1, h2, h3, h4, h5, h6⟩ hE => ⟨O', h1.ext hE, h2, h3, hI _ _ _ _ _ h4 (Upd.of_ext (by rintro (h | h); exact hL h.symm; exact hK h.symm) _ hE), (hE.block _ (heap_lt h5)).trans h5, (hE.block _ (heap_lt h6)).trans h6⟩) ?_ ⟨O1, hR1, hO1D, hO1L, hI1, hL1, hK1⟩
    · unfold Ret at hJ
      rw [show (Value.func (.yield (D + 1)) #[] #[] :: lb).toArray = #[.func (.yield (D + 1)) #[] #[]] ++ lb.toArray from by simp] at hJ
      refine CallsIn.mono (callsIn_wide.2 hJ : CallsIn Fence.wide _ P gf _ W1 _) ?_
      rintro e W2 q
      cases e with
      | returned v =>
        rcases q with ⟨O', hR', hoD, hoL, hi, hl, hk⟩ | ⟨c, O', hR', hoD, hoL, hi, hl, hk⟩
        · refine ⟨none, _, by have := run_endLoop (P := P) hl (by rw [hrec]; simp); rw [hrec] at this; exact this, ?_⟩
          have hUp := Upd.putObj hL hoL (w := W2) (.loop { rec .ready none with state := .exhausted })
          rw [hrec] at hUp
          have := hdone D O' _ (hR'.upd hUp) hoD (hI _ _ _ _ _ hi (hUp.mono (fun _ h => .inl h) (by rintro (h | h); exact hL h.symm; exact hK h.symm))) ((World.putObj_heap_other (by omega)).trans hk) a ha
          exact this
        · refine ⟨some c, _, by have := run_endLoop (P := P) hl (by rw [hrec]; simp); rw [hrec] at this; exact this, ?_⟩
          have hUp := Upd.putObj hL hoL (w := W2) (.loop { rec .done (some c) with state := .exhausted })
          rw [hrec] at hUp
          exact hstop D c O' _ (hR'.upd hUp) hoD (hIx _ _ _ _ _ hi hUp) ((World.putObj_heap_other (by omega)).trans hk) a ha
      | panicked c => exact q.elim
      | outgrown => exact q.elim
    · rintro i hi W0 W ⟨O', hR0, hoD, hoL, hii0, hl0, hk0⟩ hE0
      have hR' := hR0.ext hE0
      have hii := hI _ _ _ _ _ hii0 (Upd.of_ext (S := fun j => j = L ∨ j = K) (by rintro (h | h); exact hL h.symm; exact hK h.symm) O' hE0)
      have hl := (hE0.block _ (heap_lt hl0)).trans hl0
      have hk := (hE0.block _ (heap_lt hk0)).trans hk0
      have hDW0 := heap_lt hl0
      have hy := run_yield (P := P) (args := #[ex i, enc xs[i]]) hl (by rw [hrec]; rfl)
      rw [hrec] at hy
      refine ⟨fn, _, asg, body, hy, roundIn_of_wpIn trivial ?_⟩
      have hfit : Fits N ((a.put (some p0) (ex i)).put (some p1) (enc xs[i])) ((p1, enc xs[i]) :: (p0, ex i) :: st) := (ha.put hp0 _).put hp1 _
      have hact : ({ tmps := (#[p0, p1].zip #[ex i, enc xs[i]]).foldl (fun tmps (t, a) => tmps.setIfInBounds t a) a.tmps, defers := [] } : Act) = { (a.put (some p0) (ex i)).put (some p1) (enc xs[i]) with defers := [] } := by simp [Act.put]
      rw [hact]
      rw [hasg]
      refine (WI.region (ro := some (D + 1)) (ds := []) (P := P) (N := N) (.inr rfl) (fun _ _ h => h) ?_ : WI (some (D + 1)) P N [] _ _ ((p1, enc xs[i]) :: (p0, ex i) :: st) W) _ hfit
      refine WL.allocO hR' K hK (hz W) hd0 ?_
      intro b w1 O2 hb hUb hRb hEb
      refine hstore w1 O2 b (ex i) xs[i] (List.getElem_mem hi) _ _ hb ?_
      intro w2 hb2 hUs
      refine WL.nil (QF.dn ?_)
      intro a3 ha3
      have hltD : D + 1 < W.heap.size := (Array.getElem?_eq_some_iff.1 hl).1
      have hUk : Upd (fun j => j = K) O' W O2 w2 := hUb.trans hUs
      have hl2 : w2.heap[D + 1]? = some (.loop (rec .ready none)) := (hUk.blk (D + 1) hltD (by rw [hoL]; exact hLK)).trans hl
      have hk2 : w2.heap[D]? = some (.deferred (some [])) := (hUk.blk D (by omega) (by rw [hoD]; exact hLK)).trans hk
      have ho2L : O2 (D + 1) = L := (hUk.tag (D + 1) (by rw [hoL]; exact hL)).trans hoL
      have ho2D : O2 D = L := (hUk.tag D (by rw [hoD]; exact hL)).trans hoD
      refine ⟨_, run_beginRound hl2 (by rw [hrec]), ?_⟩
      have hUq := Upd.putObj hL ho2L (w := w2) (.loop { rec .ready none with state := .busy })
      have hzLK : ¬ (fun j => j = L ∨ j = K) 0 := by rintro (h | h); exact hL h.symm; exact hK h.symm
      have hUall : Upd (fun j => j = L ∨ j = K) O' W O2 (w2.putObj (D + 1) (.loop { rec .ready none with state := .busy })) := (hUk.mono (fun _ h => .inr h) hzLK).trans (hUq.mono (fun _ h => .inl h) hzLK)
      have hl3 : (w2.putObj (D + 1) (.loop { rec .ready none with state := .busy })).heap[D + 1]? = some (.loop { rec .ready none with state := .busy }) := World.putObj_heap_same (heap_lt hl2)
      have hk3 : (w2.putObj (D + 1) (.loop { rec .ready none with state := .busy })).heap[D]? = some (.deferred (some [])) := (World.putObj_heap_other (by omega)).trans hk2
      have hbod := hbody (D + 1) i hi b O2 _ (hR'.upd hUall) (hI _ _ _ _ _ hii hUall) (hb2.upd hUq hK (fun e => hLK e.symm)) a3 ha3
      generalize w2.putObj (D + 1) (.loop { rec .ready none with state := .busy }) = w3 at *
      refine wpIn_mono hbod ?_
      have fin : ∀ (jump : Option Code) (O4 : Nat → Nat) (w4 : World), Upd (fun j => j ≠ 0 ∧ j ≠ L) O2 w3 O4 w4 →
          (Instr.endRound (D + 1) jump).run P w4 = .ok (.bool jump.isNone) (w4.putObj (D + 1) (.loop (rec (if jump.isNone then .ready else .done) jump))) ∧
          Upd (fun j => j = L) O4 w4 O4 (w4.putObj (D + 1) (.loop (rec (if jump.isNone then .ready else .done) jump))) ∧ O4 D = L ∧ O4 (D + 1) = L ∧
          (w4.putObj (D + 1) (.loop (rec (if jump.isNone then .ready else .done) jump))).heap[D + 1]? = some (.loop (rec (if jump.isNone then .ready else .done) jump)) ∧
          (w4.putObj (D + 1) (.loop (rec (if jump.isNone then .ready else .done) jump))).heap[D]? = some (.deferred (some [])) := by
        intro jump O4 w4 hU4
        have hl4 := (hU4.blk (D + 1) (heap_lt hl3) (by rw [ho2L]; exact fun h => h.2 rfl)).trans hl3
        have hk4 := (hU4.blk D (heap_lt hk3) (by rw [ho2D]; exact fun h => h.2 rfl)).trans hk3
        have ho4D : O4 D = L := (hU4.tag D (by rw [ho2D]; exact hL)).trans ho2D
        have ho4L : O4 (D + 1) = L := (hU4.tag (D + 1) (by rw [ho2L]; exact hL)).trans ho2L
        have := run_endRound (P := P) jump hl4
        rw [hrec] at this ⊢
        exact ⟨this, Upd.putObj hL ho4L _, ho4D, ho4L, World.putObj_heap_same (heap_lt hl4), (World.putObj_heap_other (by omega)).trans hk4⟩
      have keep : ∀ (O4 : Nat → Nat) (w4 : World) (o : Obj), Upd (fun j => j ≠ 0 ∧ j ≠ L) O2 w3 O4 w4 → ∀ b, W0.heap.size ≤ b → b < W.heap.size → (w4.putObj (D + 1) o).heap[b]? = W.heap[b]? := by
        intro O4 w4 o hU4 b hb1 hb2
        have hb0 : O' b = 0 := Classical.byContradiction fun hne => by have := (hR0.rng b hne).2; omega
        have hb3 := hUall.zero hb2 hb0
        have e1 := hUall.blk b hb2 (by rw [hb0]; rintro (h | h); exact hL h.symm; exact hK h.symm)
        have e2 := hU4.blk b (Nat.lt_of_lt_of_le hb2 hUall.size) (by rw [hb3]; exact fun h => h.1 rfl)
        rw [World.putObj_heap_other (by omega), e2, e1]
      rintro e a4 w4 q
      cases e with
      | normal =>
        obtain ⟨O4, hU4, hi4⟩ := q
        obtain ⟨hr, hUe, h1, h2, h3, h4⟩ := fin none O4 w4 hU4
        exact ⟨_, _, hr, .inl ⟨rfl, O4, ((hR'.upd hUall).upd hU4).upd hUe, h1, h2, hI _ _ _ _ _ hi4 (hUe.mono (fun _ h => .inl h) hzLK), h3, h4⟩, keep O4 w4 _ hU4⟩
      | ret =>
        obtain ⟨O4, hU4, hi4⟩ := q
        obtain ⟨hr, hUe, h1, h2, h3, h4⟩ := fin (some .ret) O4 w4 hU4
        exact ⟨_, _, hr, .inr ⟨rfl, .ret, O4, ((hR'.upd hUall).upd hU4).upd hUe, h1, h2, hIx _ _ _ _ _ hi4 hUe, h3, h4⟩, keep O4 w4 _ hU4⟩
      | exit id' =>
        obtain ⟨O4, hU4, hi4⟩ := q
        obtain ⟨hr, hUe, h1, h2, h3, h4⟩ := fin (some (.exit id')) O4 w4 hU4
        exact ⟨_, _, hr, .inr ⟨rfl, .exit id', O4, ((hR'.upd hUall).upd hU4).upd hUe, h1, h2, hIx _ _ _ _ _ hi4 hUe, h3, h4⟩, keep O4 w4 _ hU4⟩
      | _ => exact q.elim
end Go.VL
