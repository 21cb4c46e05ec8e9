/- Readings of arguments by their types' shapes, for the small calculus. Nothing here speaks of a particular program. -/
import Derived.Test.YtmohcfjopaccdaaGreatDoorVo
import Derived.Deep.Slices
namespace Go.VL
open Go.ChangeShapes Go.WideShapes Go.ChangeAt Go.RowKit Go.Deep

section
variable {H : Type} {enc : TypeId × Value → H} {P : Program} {w : World} {base : Nat} {held : Bool}

/-- Cells that read as something of a type. -/
def Rd (enc : TypeId × Value → H) (P : Program) (w : World) (base : Nat) (held : Bool) (t : TypeId) (cs : List Value) : Prop := ∃ fuel x, DataW.trod enc P w base (fun _ => true) held fuel t cs = some x

theorem Rd.of {t : TypeId} {v : Value} {d : DataW H} {ps : List MemPlace} (h : DataW.Trod enc P w base (fun _ => true) held t v d ps) : Rd enc P w base held t v.cells.toList := by
  obtain ⟨fuel, hf⟩ := h; exact ⟨fuel, _, hf⟩

theorem Rd.int {t : TypeId} {k : IntKind} {cs : List Value} (ht : P.underlying t = some (.int k)) (h : Rd enc P w base held t cs) : ∃ n, cs = [.int k n] ∧ (Lit.int k n).wf = true := by
  obtain ⟨fuel, x, h⟩ := h
  cases fuel with
  | zero => simp [DataW.trod] at h
  | succ m =>
    unfold DataW.trod at h
    rw [ht] at h
    split at h <;> simp_all
theorem Rd.bool {t : TypeId} {cs : List Value} (ht : P.underlying t = some .bool) (h : Rd enc P w base held t cs) : ∃ b, cs = [.bool b] := by
  obtain ⟨fuel, x, h⟩ := h
  cases fuel with
  | zero => simp [DataW.trod] at h
  | succ m =>
    unfold DataW.trod at h
    rw [ht] at h
    split at h <;> simp_all
theorem Rd.str {t : TypeId} {cs : List Value} (ht : P.underlying t = some .string) (h : Rd enc P w base held t cs) : ∃ s : ByteArray, cs = [.string s] ∧ s.size ≤ maxLen := by
  obtain ⟨fuel, x, h⟩ := h
  cases fuel with
  | zero => simp [DataW.trod] at h
  | succ m =>
    unfold DataW.trod at h
    rw [ht] at h
    split at h <;> simp_all
theorem Rd.struct {t : TypeId} {fs : Array Field} {cs : List Value} (ht : P.underlying t = some (.struct fs)) (h : Rd enc P w base held t cs) :
    cs.length = P.cellsOf t ∧ ∀ (i : Nat) (f : Field), fs[i]? = some f → Rd enc P w base held f.type ((cs.drop f.offset).take (P.cellsOf f.type)) := by
  obtain ⟨fuel, x, h⟩ := h
  obtain ⟨xs, m, rfl, rfl, hl, hlen, hf⟩ := DataW.trod_struct ht h
  refine ⟨hl, fun i f hi => ?_⟩
  have h1 := hf i f hi
  have hlt : i < fs.size := (Array.getElem?_eq_some_iff.1 hi).1
  rw [List.getElem?_eq_getElem (by omega)] at h1
  exact ⟨m, _, h1⟩

/-- Fields that lie one behind the other, a cell each. -/
def flatB (P : Program) : List Field → Nat → Bool
  | [], _ => true
  | f :: r, i => Nat.beq f.offset i && Nat.beq (P.cellsOf f.type) 1 && flatB P r (i + 1)
theorem flatB_at : ∀ (fs : List Field) (k i : Nat) (f : Field), flatB P fs k = true → fs[i]? = some f → f.offset = k + i ∧ P.cellsOf f.type = 1
  | [], _, _, _, _, h => by simp at h
  | g :: r, k, i, f, hb, h => by
    simp only [flatB, Bool.and_eq_true] at hb
    cases i with
    | zero => simp only [List.getElem?_cons_zero, Option.some.injEq] at h; subst h; exact ⟨by simpa using Nat.eq_of_beq_eq_true hb.1.1, Nat.eq_of_beq_eq_true hb.1.2⟩
    | succ i => have := flatB_at r (k + 1) i f hb.2 (by simpa using h); exact ⟨by omega, this.2⟩
theorem Rd.flat {t : TypeId} {fs : List Field} {cs : List Value} (ht : P.underlying t = some (.struct fs.toArray)) (hb : flatB P fs 0 = true) (hn : P.cellsOf t = fs.length) (h : Rd enc P w base held t cs) :
    cs.length = fs.length ∧ ∀ (i : Nat) (f : Field), fs[i]? = some f → ∃ v, cs[i]? = some v ∧ Rd enc P w base held f.type [v] := by
  obtain ⟨hl, hf⟩ := h.struct ht
  refine ⟨by rw [hl, hn], fun i f hi => ?_⟩
  obtain ⟨h1, h2⟩ := flatB_at fs 0 i f hb hi
  have hr := hf i f (by simpa using hi)
  have hlt : i < cs.length := by rw [hl, hn]; exact (List.getElem?_eq_some_iff.1 hi).1
  rw [h1, h2, Nat.zero_add] at hr
  refine ⟨cs[i], List.getElem?_eq_getElem hlt, ?_⟩
  rwa [List.drop_eq_getElem_cons hlt, List.take_succ_cons, List.take_zero] at hr

theorem Rd.slice {t e : TypeId} {sz : Nat} {cs : List Value} (ht : P.underlying t = some (.slice e)) (ce : P.cellsOf e = sz) (hz : 0 < sz) (h : Rd enc P w base held t cs) :
    ∃ v xs, cs = [v] ∧ Sl (fun c : List Value => c) sz w v xs ∧ ∀ c ∈ xs, c.length = sz ∧ Rd enc P w base held e c := by
  obtain ⟨fuel, x, h⟩ := h
  rcases open_slice ht h with ⟨rfl, _⟩ | ⟨a, len, cap, m, n, D, Pl, rfl, hb, hl, hm, hmm, rfl, hx⟩
  · exact ⟨_, [], rfl, ⟨⟨none, 0, rfl, Nat.le_refl _, by omega, fun h => absurd rfl h⟩, fun i hi => absurd hi (by simp)⟩, by simp⟩
  · simp only [if_true] at hmm
    subst hmm
    obtain ⟨V, hV⟩ := choose_lt (α := List Value) (p := fun i c => w.cells? base (a.add (i * P.cellsOf e)) (P.cellsOf e) = some c ∧ DataW.trod enc P w base (fun _ => true) held n e c = some (D i, Pl i)) hx
    rw [ce] at hV
    have hc : ∀ i, i < len → ∀ j u, (V i)[j]? = some u → w.cell? (a.add (i * sz + j)) = some u := fun i hi j u hu => by
      obtain ⟨_, hlen, hcell⟩ := World.cells?_some (hV i (by omega)).1
      have hj : j < sz := by have := (List.getElem?_eq_some_iff.1 hu).1; omega
      have := hcell j hj
      rw [add_add] at this
      rw [this, hu]
    have hlen : ∀ i, i < len → (V i).length = sz := fun i hi => (World.cells?_some (hV i (by omega)).1).2.1
    have hl0 : ((List.range len).map V).length = len := by simp
    refine ⟨_, (List.range len).map V, rfl, ⟨⟨some a, m, by rw [hl0], by omega, by simpa [maxLen] using hm, fun h => ?_⟩, fun i hi j u hu => ?_⟩, fun c hc' => ?_⟩
    · rw [hl0] at h
      have h0 : 0 < (V 0).length := by rw [hlen 0 (by omega)]; exact hz
      have := hc 0 (by omega) 0 _ (List.getElem?_eq_getElem h0)
      obtain ⟨b, o, s⟩ := a
      have hs : s = none := by simpa [Addr.add] using World.cell?_spot this
      subst hs; exact ⟨b, o, rfl⟩
    · rw [hl0] at hi
      have h0 : 0 < (V 0).length := by rw [hlen 0 (by omega)]; exact hz
      have h1 := hc 0 (by omega) 0 _ (List.getElem?_eq_getElem h0)
      obtain ⟨b, o, s⟩ := a
      have hs : s = none := by simpa [Addr.add] using World.cell?_spot h1
      subst hs
      simp only [List.getElem_map, List.getElem_range] at hu
      have h2 := hc i hi j u hu
      simp only [adr]
      have e1 : ((⟨b, o, none⟩ : Addr).add (i * sz + j)) = ((⟨b, o + i * sz, none⟩ : Addr).add j) := by
        simp only [Addr.add]; split <;> split <;> simp_all <;> omega
      rw [e1] at h2
      exact h2
    · simp only [List.mem_map, List.mem_range] at hc'
      obtain ⟨i, hi, rfl⟩ := hc'
      exact ⟨hlen i hi, n, _, (hV i (by omega)).2⟩

/-- A list's elements, each told by something of a type of one's own. -/
theorem list_of {α β : Type} {f : α → β} {R : α → Prop} : ∀ (xs : List β), (∀ c ∈ xs, ∃ a, c = f a ∧ R a) → ∃ ys : List α, xs = ys.map f ∧ ∀ y ∈ ys, R y
  | [], _ => ⟨[], rfl, by simp⟩
  | c :: xs, h => by
    obtain ⟨a, ha, hR⟩ := h c (by simp)
    obtain ⟨ys, hy, hr⟩ := list_of xs (fun c hc => h c (by simp [hc]))
    exact ⟨a :: ys, by simp [ha, hy], by simpa [hR] using hr⟩
theorem Sl.of_map {α β : Type} {enc : β → List Value} {f : α → β} {sz : Nat} {v : Value} {ys : List α} (h : Sl enc sz w v (ys.map f)) : Sl (fun a => enc (f a)) sz w v ys := by
  refine ⟨by simpa using h.shape, fun i hi j u hu => h.cells i (by simpa using hi) j u (by simpa using hu)⟩

theorem Rd.sliceOf {α : Type} {f : α → List Value} {R : α → Prop} {t e : TypeId} {sz : Nat} {cs : List Value} (ht : P.underlying t = some (.slice e)) (ce : P.cellsOf e = sz) (hz : 0 < sz) (hel : ∀ c, Rd enc P w base held e c → ∃ a, c = f a ∧ R a) (h : Rd enc P w base held t cs) :
    ∃ v xs, cs = [v] ∧ Sl f sz w v xs ∧ ∀ a ∈ xs, R a := by
  obtain ⟨v, xs, rfl, hs, hx⟩ := h.slice ht ce hz
  obtain ⟨ys, rfl, hy⟩ := list_of (f := f) (R := R) xs fun c hc => hel c (hx c hc).2
  exact ⟨v, ys, rfl, hs.of_map, hy⟩
theorem Rd.ints {k : IntKind} {t e : TypeId} {cs : List Value} (ht : P.underlying t = some (.slice e)) (he : P.underlying e = some (.int k)) (ce : P.cellsOf e = 1) (h : Rd enc P w base held t cs) :
    ∃ v zs, cs = [v] ∧ Sl (fun n => [Value.int k n]) 1 w v zs ∧ ∀ n ∈ zs, (Lit.int k n).wf = true := h.sliceOf ht ce (by decide) (fun _ hc => hc.int he)
end
end Go.VL
