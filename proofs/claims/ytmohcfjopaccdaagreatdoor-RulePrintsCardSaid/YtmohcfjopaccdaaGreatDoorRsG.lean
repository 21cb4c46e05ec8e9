/- A meaning that comes in. -/
import Derived.Test.YtmohcfjopaccdaaGreatDoorRsR
import Derived.Test.YtmohcfjopaccdaaGreatDoorVp
namespace Go.VL
open Go.ChangeShapes Go.WideShapes Go.ChangeAt Go.RowKit Go.Deep
section
variable {H : Type} {enc : TypeId × Value → H} {P : Program} {w : World} {base : Nat} {held : Bool}
theorem RdF.slice {fuel : Nat} {t e : TypeId} {sz : Nat} {cs : List Value} {x : DataW H × List MemPlace} (ht : P.underlying t = some (.slice e)) (ce : P.cellsOf e = sz) (hz : 0 < sz) (h : DataW.trod enc P w base (fun _ => true) held fuel t cs = some x) :
    ∃ v xs, cs = [v] ∧ Sl (fun c : List Value => c) sz w v xs ∧ ∀ c ∈ xs, c.length = sz ∧ ∃ n y, fuel = n + 1 ∧ DataW.trod enc P w base (fun _ => true) held n e c = some y := by
  rcases DataW.trod_slice ht h with ⟨rfl, _⟩ | ⟨a, len, cap, elems, rest, n, hfu, rfl, rfl, hb, hl, hm, hlen, hel, _, _⟩
  · exact ⟨_, [], rfl, ⟨⟨none, 0, rfl, Nat.le_refl _, by omega, fun h => absurd rfl h⟩, fun i hi => absurd hi (by simp)⟩, by simp⟩
  · have hx : ∀ i, i < len → ∃ c : List Value, w.cells? base (a.add (i * P.cellsOf e)) (P.cellsOf e) = some c ∧ ∃ y, DataW.trod enc P w base (fun _ => true) held n e c = some y := fun i hi => by
      have := hel i hi
      rw [List.getElem?_eq_getElem (by omega)] at this
      obtain ⟨c, hc, hy⟩ := Option.bind_eq_some_iff.1 this
      exact ⟨c, hc, _, hy⟩
    obtain ⟨V, hV⟩ := choose_lt hx
    rw [ce] at hV
    have hc : ∀ i, i < len → ∀ j u, (V i)[j]? = some u → w.cell? (a.add (i * sz + j)) = some u := fun i hi j u hu => by
      obtain ⟨_, hlen, hcell⟩ := World.cells?_some (hV i hi).1
      have hj : j < sz := by have := (List.getElem?_eq_some_iff.1 hu).1; omega
      have := hcell j hj
      rw [Addr.add_add] at this
      rw [this, hu]
    have hvl : ∀ i, i < len → (V i).length = sz := fun i hi => (World.cells?_some (hV i hi).1).2.1
    have hl0 : ((List.range len).map V).length = len := by simp
    refine ⟨_, (List.range len).map V, rfl, ⟨⟨some a, cap, by rw [hl0], by omega, by simpa [maxLen] using hm, fun h => ?_⟩, fun i hi j u hu => ?_⟩, fun c hc' => ?_⟩
    · rw [hl0] at h
      have h0 : 0 < (V 0).length := by rw [hvl 0 (by omega)]; exact hz
      have := hc 0 (by omega) 0 _ (List.getElem?_eq_getElem h0)
      obtain ⟨b, o, s⟩ := a
      have hs : s = none := by simpa [Addr.add] using World.cell?_spot this
      subst hs; exact ⟨b, o, rfl⟩
    · rw [hl0] at hi
      have h0 : 0 < (V 0).length := by rw [hvl 0 (by omega)]; exact hz
      have h1 := hc 0 (by omega) 0 _ (List.getElem?_eq_getElem h0)
      obtain ⟨b, o, s⟩ := a
      have hs : s = none := by simpa [Addr.add] using World.cell?_spot h1
      subst hs
      simp only [List.getElem_map, List.getElem_range] at hu
      have h2 := hc i hi j u hu
      simp only [adr]
      have e1 : ((⟨b, o, none⟩ : Addr).add (i * sz + j)) = ((⟨b, o + i * sz, none⟩ : Addr).add j) := by
        simp only [Addr.add]; split <;> split <;> simp_all <;> omega
      rw [e1] at h2
      exact h2
    · simp only [List.mem_map, List.mem_range] at hc'
      obtain ⟨i, hi, rfl⟩ := hc'
      obtain ⟨_, y, hy⟩ := hV i hi
      exact ⟨hvl i hi, n, y, hfu, hy⟩
theorem Sl.free {α : Type} [Inhabited α] {f : α → List Value} {sz : Nat} {v : Value} {xs : List α} (h : Sl f sz w v xs) (hf : ∀ a, f a ≠ []) : Free (fun _ => 0) w v := fun a n c e hn => by
  refine ⟨rfl, ?_⟩
  obtain ⟨a', c', e', _, _, _⟩ := h.shape
  rw [e'] at e
  cases e
  cases hq : f (nth xs 0) with
  | nil => exact absurd hq (hf _)
  | cons u r =>
    have hc := h.cell (i := 0) (j := 0) (u := u) (by omega) (by rw [hq]; rfl)
    have := World.block_lt_of_cell? _ _ hc
    subst e'
    have hb : ((adr (.slice (some a) xs.length c) sz 0).add 0).block = a.block := by simp only [adr, Addr.add]; split <;> rfl
    rw [hb] at this; exact this
end
end Go.VL
namespace Go.Proofs.YtmohcfjopaccdaaGreatDoor
open Go.ChangeShapes Go.WideShapes Go.ChangeAt Go.RowKit Go.VL Go.Proofs
set_option maxRecDepth 100000
section
variable {H : Type} {enc : TypeId × Value → H} {w : World} {base : Nat} {held : Bool}
theorem tree_in : ∀ (fuel : Nat) (cs : List Value) (x : DataW H × List MemPlace), DataW.trod enc Tryz.prog w base (fun _ => true) held fuel 62 cs = some x → ∃ (y : N3), cs = encN y ∧ ∃ t : Nd, Nt (fun _ => 0) w t y
  | 0, cs, x, h => by simp [DataW.trod] at h
  | fuel + 1, cs, x, h => by
    obtain ⟨xs, m, hfu, rfl, hl, hlen, hf⟩ := DataW.trod_struct Tryz.underlying62 h
    obtain rfl : fuel = m := by omega
    have hl3 : cs.length = 3 := hl.trans (by kernel_rfl)
    obtain ⟨c0, c1, c2, rfl⟩ : ∃ c0 c1 c2, cs = [c0, c1, c2] := by
      match cs, hl3 with
      | [a, b, c], _ => exact ⟨a, b, c, rfl⟩
    have hxl : xs.length = 3 := hlen
    have f0 : DataW.trod enc Tryz.prog w base (fun _ => true) held fuel 3 [c0] = xs[0]? := hf 0 _ rfl
    have f1 : DataW.trod enc Tryz.prog w base (fun _ => true) held fuel 3 [c1] = xs[1]? := hf 1 _ rfl
    have f2 : DataW.trod enc Tryz.prog w base (fun _ => true) held fuel 60 [c2] = xs[2]? := hf 2 _ rfl
    rw [List.getElem?_eq_getElem (by omega)] at f0 f1 f2
    obtain ⟨n0, e0, _⟩ := Rd.int (enc := enc) (w := w) (base := base) (held := held) Tryz.underlying3 ⟨fuel, _, f0⟩
    obtain ⟨n1, e1, _⟩ := Rd.int (enc := enc) (w := w) (base := base) (held := held) Tryz.underlying3 ⟨fuel, _, f1⟩
    obtain ⟨v, ys, e2, hs, hy⟩ := RdF.slice (sz := 3) Tryz.underlying60 (by kernel_rfl) (by decide) f2
    simp only [List.cons.injEq, and_true] at e0 e1 e2
    subst e0 e1 e2
    obtain ⟨zs, rfl, hz⟩ := list_of (f := encN) (R := fun y => ∃ t : Nd, Nt (fun _ => 0) w t y) ys (fun c hc => by
      obtain ⟨_, n, y, hn, hyy⟩ := hy c hc
      exact tree_in n c y hyy)
    have hs' := hs.of_map
    have hts : ∀ i, i < zs.length → ∃ t : Nd, Nt (fun _ => 0) w t (nth zs i) := fun i hi => hz _ (by rw [nth_eq hi]; exact List.getElem_mem hi)
    obtain ⟨T, hT⟩ := Go.Deep.choose_lt hts
    have hln : ((List.range zs.length).map T).length = zs.length := by simp
    refine ⟨(n0, n1, c2), rfl, .mk n0 n1 ((List.range zs.length).map T), .mk hs' (hs'.free fun a => by simp) hln fun i hi => ?_⟩
    rw [nth_eq (by rw [hln]; exact hi)]
    simp only [List.getElem_map, List.getElem_range]
    exact hT i hi
termination_by fuel => fuel
theorem rule_in (cs : List Value) (h : Rd enc Tryz.prog w base held 64 cs) : ∃ x : X3, cs = encR x ∧ ∃ t : R3, Rt (fun _ => 0) w t x := by
  obtain ⟨hl, hf⟩ := h.struct Tryz.underlying64
  have hl7 : cs.length = 7 := hl.trans (by kernel_rfl)
  obtain ⟨c0, c1, c2, c3, c4, c5, c6, rfl⟩ : ∃ c0 c1 c2 c3 c4 c5 c6, cs = [c0, c1, c2, c3, c4, c5, c6] := by
    match cs, hl7 with
    | [a, b, c, d, e, f, g], _ => exact ⟨a, b, c, d, e, f, g, rfl⟩
  have f0 : Rd enc Tryz.prog w base held 62 [c0, c1, c2] := hf 0 _ rfl
  have f1 : Rd enc Tryz.prog w base held 62 [c3, c4, c5] := hf 1 _ rfl
  have f2 : Rd enc Tryz.prog w base held 4 [c6] := hf 2 _ rfl
  obtain ⟨n0, y0, h0⟩ := f0
  obtain ⟨n1, y1, h1⟩ := f1
  obtain ⟨x0, e0, t0, k0⟩ := tree_in n0 _ _ h0
  obtain ⟨x1, e1, t1, k1⟩ := tree_in n1 _ _ h1
  obtain ⟨b, eb⟩ := f2.bool Tryz.underlying4
  simp only [encN, List.cons.injEq, and_true] at e0 e1 eb
  obtain ⟨rfl, rfl, rfl⟩ := e0
  obtain ⟨rfl, rfl, rfl⟩ := e1
  subst eb
  exact ⟨(x0, x1, b), rfl, (t0, t1, b), k0, k1, rfl⟩
theorem text_in {v : Value} {d : DataW H} {ps : List MemPlace} {r : Reach} {b0 : Nat} (hv : Value.okWide Tryz.prog w r b0 34 v) (h : DataW.Trod enc Tryz.prog w base (fun _ => true) held 34 v d ps) : ∃ li lk ts, Tx w v li lk ts := by
  obtain ⟨cs, rfl, hsz⟩ := okWide_struct Tryz.underlying34 hv
  obtain ⟨hl, hf⟩ := (Rd.of h).flat Tryz.underlying34 (by kernel_rfl) (by kernel_rfl)
  have hl' : cs.size = 3 := by simpa [Value.cells] using hl
  obtain ⟨c0, c1, c2, rfl⟩ : ∃ c0 c1 c2, cs = #[c0, c1, c2] := by
    match cs, hl' with
    | ⟨[c0, c1, c2]⟩, _ => exact ⟨c0, c1, c2, rfl⟩
  obtain ⟨_, h0, r0⟩ := hf 0 _ rfl
  obtain ⟨_, h1, r1⟩ := hf 1 _ rfl
  obtain ⟨_, h2, r2⟩ := hf 2 _ rfl
  cases h0; cases h1; cases h2
  obtain ⟨v0, z0, e0, i0, _⟩ := r0.ints Tryz.underlying23 Tryz.underlying3 (by kernel_rfl)
  obtain ⟨v1, z1, e1, i1, _⟩ := r1.ints Tryz.underlying23 Tryz.underlying3 (by kernel_rfl)
  obtain ⟨v2, zs, e2, i2, hz⟩ := r2.sliceOf (f := encR) (R := fun x => ∃ t : R3, Rt (fun _ => 0) w t x) (sz := 7) Tryz.underlying32 (by kernel_rfl) (by decide) rule_in
  cases e0; cases e1; cases e2
  have hts : ∀ i, i < zs.length → ∃ t : R3, Rt (fun _ => 0) w t (nth zs i) := fun i hi => hz _ (by rw [nth_eq hi]; exact List.getElem_mem hi)
  obtain ⟨T, hT⟩ := Go.Deep.choose_lt hts
  have hln : ((List.range zs.length).map T).length = zs.length := by simp
  refine ⟨z0, z1, (List.range zs.length).map T, c0, c1, c2, zs, rfl, i0, i1, i2, hln, fun i hi => ?_⟩
  rw [nth_eq (by rw [hln]; exact hi)]
  simp only [List.getElem_map, List.getElem_range]
  exact hT i hi
end
end Go.Proofs.YtmohcfjopaccdaaGreatDoor
