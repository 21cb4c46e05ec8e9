/- Chapter 12: packed rows that come in. -/
import Derived.Test.YtahdlfnjnjngaaaPackE
import Derived.Test.YtahdlfnjnjngaaaVp
namespace Go.Proofs.Ytahdlfnjnjngaaa
open Go.ChangeShapes Go.WideShapes Go.ChangeAt Go.RowKit Go.VL Go.Proofs
theorem pk_in {H : Type} {enc : TypeId × Value → H} {w : World} {base : Nat} {held : Bool} {v : Value} {d : DataW H} {ps : List MemPlace} {r : Reach} {b0 : Nat} (hv : Value.okWide Try.prog w r b0 34 v)
    (h : DataW.Trod enc Try.prog w base (fun _ => true) held 34 v d ps) : ∃ p : PSt, PkV w v p ∧ (Lit.int .i64 p.width).wf = true := by
  obtain ⟨cs, rfl, hsz⟩ := okWide_struct Try.underlying34 hv
  obtain ⟨hl, hf⟩ := (Rd.of h).flat Try.underlying34 (by kernel_rfl) (by kernel_rfl)
  have hl' : cs.size = 5 := by simpa [Value.cells] using hl
  obtain ⟨c0, c1, c2, c3, c4, rfl⟩ : ∃ c0 c1 c2 c3 c4, cs = #[c0, c1, c2, c3, c4] := by
    match cs, hl' with
    | ⟨[c0, c1, c2, c3, c4]⟩, _ => exact ⟨c0, c1, c2, c3, c4, rfl⟩
  obtain ⟨_, h0, r0⟩ := hf 0 _ rfl
  obtain ⟨_, h1, r1⟩ := hf 1 _ rfl
  obtain ⟨_, h2, r2⟩ := hf 2 _ rfl
  obtain ⟨_, h3, r3⟩ := hf 3 _ rfl
  obtain ⟨_, h4, r4⟩ := hf 4 _ rfl
  cases h0; cases h1; cases h2; cases h3; cases h4
  obtain ⟨n, hn, wn⟩ := r0.int Try.underlying3
  obtain ⟨v1, z1, e1, i1, _⟩ := r1.ints Try.underlying25 Try.underlying3 (by kernel_rfl)
  obtain ⟨v2, z2, e2, i2, _⟩ := r2.ints Try.underlying25 Try.underlying3 (by kernel_rfl)
  obtain ⟨v3, z3, e3, i3, _⟩ := r3.ints Try.underlying25 Try.underlying3 (by kernel_rfl)
  obtain ⟨v4, z4, e4, i4, _⟩ := r4.ints Try.underlying25 Try.underlying3 (by kernel_rfl)
  cases hn; cases e1; cases e2; cases e3; cases e4
  exact ⟨⟨n, z1, z2, z3, z4⟩, ⟨c1, c2, c3, c4, rfl, i1, i2, i3, i4⟩, wn⟩
end Go.Proofs.Ytahdlfnjnjngaaa
