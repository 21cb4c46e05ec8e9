/- 'virgulelaw28.EscapeDresses' answers true, whatever it is given, and leaves what it is given as it was. No condition. -/
import Derived.Test.YtpjbdikakehbgaaRows
import Derived.Test.YtpjbdikakehbgaaVp
import Derived.Test.YtpjbdikakehbgaaDressC
namespace Go.Proofs.Ytpjbdikakehbgaa
open Go.ChangeShapes Go.WideShapes Go.ChangeAt Go.RowKit Go.VL Go.Proofs
theorem bs_of (s : ByteArray) : s = bs s.data.toList := by
  obtain ⟨⟨l⟩⟩ := s; rfl
theorem bs_of_len (s : ByteArray) : s.data.toList.length = s.size := Array.length_toList
theorem ins_rd {H : Type} {enc : TypeId × Value → H} {w : World} {base : Nat} {held : Bool} (c : List Value) (h : Rd enc Try.prog w base held 33 c) : ∃ x : Ins, c = encI x ∧ True := by
  obtain ⟨hl, hf⟩ := h.flat (fs := [⟨"At", 3, 0, false, "", "", 0⟩, ⟨"Kind", 3, 1, false, "", "", 8⟩]) Try.underlying33 (by kernel_rfl) (by kernel_rfl)
  obtain ⟨v0, h0, r0⟩ := hf 0 _ rfl
  obtain ⟨v1, h1, r1⟩ := hf 1 _ rfl
  obtain ⟨n0, e0, _⟩ := r0.int Try.underlying3
  obtain ⟨n1, e1, _⟩ := r1.int Try.underlying3
  obtain rfl : v0 = .int .i64 n0 := by simpa using e0
  obtain rfl : v1 = .int .i64 n1 := by simpa using e1
  match c, hl, h0, h1 with
  | [a, b], _, h0, h1 => exact ⟨(n0, n1), by simp at h0 h1; subst h0; subst h1; rfl, trivial⟩
namespace escapeDressesEnd
set_option linter.unusedVariables false
theorem own : ownKnob Try.prog.godebug = none := by kernel_rfl
theorem laidOut : laidOutB Try.prog = true := by kernel_rfl
set_option maxRecDepth 100000 in
theorem lifted (os : Os) (started : os.Started) (H : Type) (enc : TypeId × Value → H) :
    ReturnsInHanded {} Try.checked os 3 .any (Rows.escapeDressesSpec.pre6 enc Try.prog Try.f3 Rows.escapeDressesRow.domain false) (Rows.escapeDressesSpec.post enc Try.prog Try.f3 false true false false) := by
  refine returnsInHanded_of_change (C := Try.checked) own started (by kernel_rfl) Try.func3
    (ChangeSpec.witness6 (enc := enc) (C := Try.checked) false ⟨#[], #[.string .empty, .slice none 0 0], []⟩ 8 (by kernel_rfl) (by kernel_rfl) (by kernel_rfl) (by kernel_rfl)) ?_
  intro W base args ds gs before hval0 hW hcnd _
  have hval : ∀ (j : Nat) t v, Try.f3.params[j]? = some t → args[j]? = some v → Value.okWide Try.prog W .any base t v := hval0
  have hW' := hW
  obtain ⟨p, q, hA0, hV, rfl, hfz, hnd⟩ := hW
  have hA : DataW.TrodAll enc Try.prog W 0 (fun _ => true) true Try.f3.params.toList args.toList ds p := hA0
  rw [Try.params3] at hA hval
  obtain ⟨v0, vs0, d0, ds0, p0, q0, hargs, rfl, rfl, h0, r0⟩ := trodAll_cons hA
  obtain ⟨v1, vs1, d1, ds1, p1, q1, rfl, rfl, rfl, h1, r1⟩ := trodAll_cons r0
  obtain ⟨rfl, rfl, rfl⟩ := trodAll_nil r1
  obtain rfl : args = #[v0, v1] := by cases args; simp_all
  obtain ⟨rfl, rfl⟩ := trodVars_none hV
  have k0 := h0
  have lt0 : ∀ x ∈ p0, x.block < W.heap.size := by obtain ⟨m, hm⟩ := k0; exact DataW.trod_lt m _ _ _ hm
  have k1 := h1
  have lt1 : ∀ x ∈ p1, x.block < W.heap.size := by obtain ⟨m, hm⟩ := k1; exact DataW.trod_lt m _ _ _ hm
  obtain ⟨s, rfl⟩ := okWide_string Try.underlying9 (hval 0 9 v0 rfl rfl)
  obtain ⟨s', hs', hsz⟩ := (Rd.of h0).str Try.underlying9
  obtain rfl : s = s' := by simpa [Value.cells] using hs'
  rw [bs_of s] at h0 k0 hval hW' ⊢
  obtain ⟨a, len, cap, rfl⟩ := okWide_slice Try.underlying22 (hval 1 22 v1 rfl rfl)
  obtain ⟨v', xs, hv', hsl, _⟩ := (Rd.of h1).sliceOf (f := encI) (R := fun _ => True) (sz := 2) Try.underlying22 (by kernel_rfl) (by decide) ins_rd
  obtain rfl : v' = .slice a len cap := by simpa [Value.cells] using hv'.symm
  clear hA0 hval0
  refine (Ret.calls (escapeDresses_ret s.data.toList xs (.slice a len cap) W (by rw [bs_of_len]; have := hsz; unfold maxLen at this; omega) hsl)).mono fun e W' ⟨he, bel⟩ => ?_
  subst he
  exact ⟨_, rfl, _, _, _, [], _, [], hW', trodAll_mk1 (shut_bool Try.underlying4 _), (trodAll_cons_mk (Below.trod laidOut (by kernel_rfl) (of_decide_eq_true (by kernel_rfl)) k0 bel lt0) (trodAll_cons_mk (Below.trod laidOut (by kernel_rfl) (of_decide_eq_true (by kernel_rfl)) k1 bel lt1) trodAll_mk0)), rfl, bel.frame _, fun h => by cases h⟩
theorem over : Rows.escapeDressesRow.holds Try.pinned (OpenSpec.ofChange Rows.escapeDressesSpec) :=
  OpenClaim.holds_of_wide 3 Try.f3 rfl rfl rfl rfl rfl rfl rfl ⟨rfl, rfl, rfl, rfl, rfl⟩ rfl rfl rfl rfl rfl (by kernel_rfl) Try.func3 (by kernel_rfl)
    (of_decide_eq_true (by kernel_rfl)) (by unfold Func.isWrapper; first | (rw [if_pos (by decide +kernel)]; kernel_rfl) | (rw [if_neg (by decide +kernel)]; exact ⟨rfl, rfl⟩))
    (fun os started H enc _ => lifted os started H enc)
end escapeDressesEnd
theorem escapeDresses_holds : Rows.EscapeDressesSaid := escapeDressesEnd.over
end Go.Proofs.Ytpjbdikakehbgaa
