/- From readings of arguments to the small calculus' words. Nothing here speaks of a particular program. -/
import Derived.Test.YtmohcfjopaccdaaGreatDoorGen
import Derived.WalkKit
import Derived.ProofKit
import Derived.OpenShut
import Derived.ShutString
import Derived.ChangeOld
import Derived.Deep.Matrix
namespace Go.VL
open Go.ChangeShapes Go.WideShapes Go.ChangeAt Go.RowKit Go.Deep

variable {H : Type} {enc : TypeId × Value → H} {P : Program} {w : World} {base : Nat} {held : Bool}

theorem sl_of_cells {val : Int → Value} {a : Addr} {len cap : Nat} {zs : List Int} (hl : len ≤ cap) (hm : cap ≤ maxLen) (hz : zs.length = cap) (hc : ∀ i, i < cap → w.cell? (a.add i) = some (val (zs.getD i 0))) :
    Sl (fun x : Int => [val x]) 1 w (.slice (some a) len cap) (zs.take len) := by
  have hlen : (zs.take len).length = len := by simp; omega
  refine ⟨⟨some a, cap, by rw [hlen], by omega, by simpa [maxLen] using hm, fun h => ?_⟩, fun i hi j u hu => ?_⟩
  · rw [hlen] at h
    have := hc 0 (by omega)
    obtain ⟨b, o, s⟩ := a
    have hs : s = none := by simpa [Addr.add] using World.cell?_spot this
    subst hs; exact ⟨b, o, rfl⟩
  · rw [hlen] at hi
    have h1 := hc i (by omega)
    obtain ⟨b, o, s⟩ := a
    have hs : s = none := by
      have := hc 0 (by omega)
      simpa [Addr.add] using World.cell?_spot this
    subst hs
    simp only [List.getElem_take] at hu
    have hj : j = 0 := by
      have := (List.getElem?_eq_some_iff.1 hu).1; simpa using this
    subst hj
    simp only [List.getElem?_cons_zero, Option.some.injEq] at hu
    subst hu
    rw [adr_add0]
    simp only [adr, Nat.mul_one]
    have ha : ((⟨b, o, none⟩ : Addr).add i) = ⟨b, o + i, none⟩ := by simp only [Addr.add]; split <;> simp_all
    rw [ha] at h1
    rw [h1, List.getD_eq_getElem?_getD, List.getElem?_eq_getElem (by omega)]; rfl

/-- A slice of numbers that came in. -/
theorem ints_in {t e : TypeId} {v : Value} {d : DataW H} {ps : List MemPlace} (ht : P.underlying t = some (.slice e)) (he : P.underlying e = some (.int .i64)) (ce : P.cellsOf e = 1) (hv : ∃ a l c, v = .slice a l c)
    (h : DataW.Trod enc P w base (fun _ => true) held t v d ps) : ∃ zs : List Int, Ints w v zs ∧ ∀ n ∈ zs, (Lit.int .i64 n).wf = true := by
  obtain ⟨a0, l0, c0, rfl⟩ := hv
  obtain ⟨fuel, hf⟩ := h
  rcases open_ints ht he ce hf with ⟨hcs, _⟩ | ⟨x, l, c, zs, hcs, _, hl, hm, hz, _, hcell, hwz⟩
  · simp [Value.cells] at hcs
    obtain ⟨rfl, rfl, rfl⟩ := hcs
    exact ⟨[], ⟨⟨none, 0, rfl, Nat.le_refl _, by omega, fun h => absurd rfl h⟩, fun i hi => absurd hi (by simp)⟩, by simp⟩
  · simp [Value.cells] at hcs
    obtain ⟨rfl, rfl, rfl⟩ := hcs
    have hz' : zs.length = c0 := by simpa using hz
    exact ⟨zs.take l0, sl_of_cells hl hm hz' (fun i hi => hcell i (by omega)), fun n hn => hwz n (List.mem_of_mem_take hn)⟩

/-- A slice of slices of numbers that came in. -/
theorem rows_in {t e q : TypeId} {v : Value} {d : DataW H} {ps : List MemPlace} (ht : P.underlying t = some (.slice e)) (he : P.underlying e = some (.slice q)) (hq : P.underlying q = some (.int .i64)) (ce : P.cellsOf e = 1) (cq : P.cellsOf q = 1) (hv : ∃ a l c, v = .slice a l c)
    (h : DataW.Trod enc P w base (fun _ => true) held t v d ps) :
    ∃ (rvs : List Value) (L : List (List Int)), Sl (fun x => [x]) 1 w v rvs ∧ rvs.length = L.length ∧ (∀ i, i < L.length → Ints w (nth rvs i) (nth L i)) ∧ ∀ r ∈ L, ∀ n ∈ r, (Lit.int .i64 n).wf = true := by
  obtain ⟨a0, l0, c0, rfl⟩ := hv
  obtain ⟨fuel, hf⟩ := h
  rcases open_int_rows ht he hq ce cq hf with ⟨hcs, _⟩ | ⟨a, len, cap, A, L, C, Z, hcs, _, hl, hm, _, hrows⟩
  · simp [Value.cells] at hcs
    obtain ⟨rfl, rfl, rfl⟩ := hcs
    exact ⟨[], [], ⟨⟨none, 0, rfl, Nat.le_refl _, by omega, fun h => absurd rfl h⟩, fun i hi => absurd hi (by simp)⟩, rfl, fun i hi => absurd hi (by simp), by simp⟩
  · simp [Value.cells] at hcs
    obtain ⟨rfl, rfl, rfl⟩ := hcs
    have row : ∀ r, r < c0 → Ints w (.slice (A r) (L r) (C r)) ((Z r).take (L r)) := fun r hr => by
      obtain ⟨_, h1, h2, h3, _, h5, h6⟩ := hrows r hr
      cases hA : A r with
      | none =>
        have h0 := h5 hA
        have : L r = 0 := by omega
        rw [this, h0]
        exact ⟨⟨none, 0, rfl, Nat.le_refl _, by omega, fun h => absurd rfl h⟩, fun i hi => absurd hi (by simp)⟩
      | some a' => exact sl_of_cells h1 h2 h3 (h6 a' hA).2
    have hlen : ((List.range l0).map fun r => Value.slice (A r) (L r) (C r)).length = l0 := by simp
    refine ⟨(List.range l0).map fun r => .slice (A r) (L r) (C r), (List.range l0).map fun r => (Z r).take (L r), ?_, by simp, fun i hi => ?_, fun r hr n hn => ?_⟩
    · refine ⟨⟨some a, c0, by rw [hlen], by omega, by simpa [maxLen] using hm, fun h => ?_⟩, fun i hi j u hu => ?_⟩
      · rw [hlen] at h
        have := (hrows 0 (by omega)).1
        obtain ⟨b, o, s⟩ := a
        have hs : s = none := by simpa [Addr.add] using World.cell?_spot this
        subst hs; exact ⟨b, o, rfl⟩
      · rw [hlen] at hi
        have h1 := (hrows i (by omega)).1
        obtain ⟨b, o, s⟩ := a
        have hs : s = none := by
          have := (hrows 0 (by omega)).1
          simpa [Addr.add] using World.cell?_spot this
        subst hs
        have hj : j = 0 := by have := (List.getElem?_eq_some_iff.1 hu).1; simpa using this
        subst hj
        simp only [List.getElem_map, List.getElem_range, List.getElem?_cons_zero, Option.some.injEq] at hu
        subst hu
        rw [adr_add0]
        simp only [adr, Nat.mul_one]
        have ha : ((⟨b, o, none⟩ : Addr).add i) = ⟨b, o + i, none⟩ := by simp only [Addr.add]; split <;> simp_all
        rw [ha] at h1
        exact h1
    · simp only [List.length_map, List.length_range] at hi
      rw [nth_eq (by simpa using hi), nth_eq (by simpa using hi)]
      simp only [List.getElem_map, List.getElem_range]
      exact row i (by omega)
    · obtain ⟨i, hi, rfl⟩ := List.mem_map.1 hr
      exact (hrows i (by have := List.mem_range.1 hi; omega)).2.2.2.2.1 n (List.mem_of_mem_take hn)

theorem Ret.calls {f : FuncId} {args : List Value} (h : Ret P f args w fun v w' => v = .bool true ∧ Ext w w') : Calls P f args.toArray w fun e w' => e = .returned (.bool true) ∧ Below w.heap.size w w' :=
  Calls.mono h fun e w' q => by
    cases e with
    | returned v => exact ⟨by rw [q.1], q.2⟩
    | panicked c => exact q.elim
    | outgrown => exact q.elim
end Go.VL
