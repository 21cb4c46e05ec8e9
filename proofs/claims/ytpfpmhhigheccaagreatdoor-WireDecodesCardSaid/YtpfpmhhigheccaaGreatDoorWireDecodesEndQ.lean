/- 'virgulelaw14.WireDecodes' answers true, whatever it is given; the tied card. -/
import Derived.Test.YtpfpmhhigheccaaGreatDoorRows
import Derived.Test.YtpfpmhhigheccaaGreatDoorCards
import Derived.Test.YtpfpmhhigheccaaGreatDoorTie
import Derived.SevenTiedAt
import Derived.LaidMore
import Derived.LaidHandle
import Derived.LaidLaws
import Derived.Lay
import Derived.Test.YtpfpmhhigheccaaGreatDoorQWireDecodes6
namespace Go.Proofs.YtpfpmhhigheccaaGreatDoor
open Go.Proofs.Tryz
open Go.ChangeShapes Go.WideShapes Go.ChangeAt Go.RowKit Go.VL Go.Proofs
theorem Bw {w : World} {v : Value} {l : List Int} (h : Sl (fun n : Int => [Value.int .u8 n]) 1 w v l) (h8 : ∀ c ∈ l, 0 ≤ c ∧ c ≤ 255) : ∃ b : List UInt8, Sl mG 1 w v b := by
  refine ⟨l.map fun c => UInt8.ofNat c.toNat, by rw [List.length_map]; exact h.shape, fun i hi j u hu => ?_⟩
  have hi' : i < l.length := by simpa using hi
  refine h.cells i hi' j u ?_
  have hc := h8 _ (List.getElem_mem hi')
  rw [List.getElem_map] at hu
  rw [← hu]
  congr 2
  rw [UInt8.toNat_ofNat']
  congr 1; omega
namespace wireDecodesEnd
set_option linter.unusedVariables false
theorem own : ownKnob prog.godebug = none := by kernel_rfl
theorem laidOut : laidOutB prog = true := by kernel_rfl
set_option maxRecDepth 100000 in
theorem C1 (os : Os) (args : Array Value) : laidMetH prog Rows.wireDecodesRow.laid ((World.laidAll prog os Rows.wireDecodesRow.laid).forCall (fun _ _ => 0) ⟨#[], args, []⟩).memory :=
  by rw [MakeChecks.laidMetH_plain _ _ _ (by kernel_rfl)]; exact laidMet_laidAll _ (by kernel_rfl) (by kernel_rfl)
set_option maxRecDepth 100000 in
theorem lifted (os : Os) (started : os.Started) (H : Type) (enc : TypeId × Value → H) :
    ReturnsInHanded {} Tryz.checked os 3 .any (fun w args => (Rows.wireDecodesSpec.pre enc prog Tryz.f3 [] false w args ∧ laidMetH prog Rows.wireDecodesRow.laid w) ∧ sizedMet enc prog Tryz.f3 (OpenSpec.ofChange Rows.wireDecodesSpec) false w args) (Rows.wireDecodesSpec.post enc prog Tryz.f3 false true false false) := by
  refine returnsInHanded_of_change_and (C := Tryz.checked) (X := fun w _ => laidMetH prog Rows.wireDecodesRow.laid w) (fun _ _ _ hh h => h.of_heap hh) own started (by kernel_rfl) func3
    (ChangeSpec.witness_shaped (enc := enc) (C := Tryz.checked) (os := os) (X := fun w _ => laidMetH prog Rows.wireDecodesRow.laid w) false (World.laidAll prog os Rows.wireDecodesRow.laid) #[.slice none 0 0] 8 (World.laidAll_os _ _ _) (World.shaped_of_ZipB (by kernel_rfl) (by kernel_rfl)) (by kernel_rfl) (by kernel_rfl) (by kernel_rfl) (C1 os _)) ?_
  intro W base args ds gs before hval0 hW _ _ hL _
  have hval : ∀ (j : Nat) t v, Tryz.f3.params[j]? = some t → args[j]? = some v → Value.okWide prog W .any base t v := hval0
  have hW' := hW
  obtain ⟨p, q, hA0, hV, rfl, hfz, hnd⟩ := hW
  have hA : DataW.TrodAll enc prog W 0 (fun _ => true) true Tryz.f3.params.toList args.toList ds p := hA0
  rw [Tryz.params3] at hA hval
  obtain ⟨v0, vs0, d0, ds0, p0, q0, hargs, rfl, rfl, h0, r0⟩ := trodAll_cons hA
  obtain ⟨rfl, rfl, rfl⟩ := trodAll_nil r0
  obtain rfl : args = #[v0] := by cases args; simp_all
  obtain ⟨rfl, rfl⟩ := trodVars_none hV
  have k0 := h0
  have lt0 : ∀ x ∈ p0, x.block < W.heap.size := by obtain ⟨m, hm⟩ := k0; exact DataW.trod_lt m _ _ _ hm
  obtain ⟨a, len, cap, rfl⟩ := okWide_slice underlying22 (hval 0 22 v0 rfl rfl)
  obtain ⟨v', l, hv', hsl, h8⟩ := (FN h0).ints underlying22 underlying5 (by kernel_rfl)
  obtain rfl : v' = .slice a len cap := by simpa [Value.cells] using hv'.symm
  obtain ⟨b, hb⟩ := Bw hsl fun c hc => by have hq := h8 c hc; simp only [Lit.wf, Bool.and_eq_true, decide_eq_true_eq] at hq; exact hq
  clear hA0 hval0
  refine (Ap (lM b (.slice a len cap) W hb)).mono fun e W' ⟨he, bel⟩ => ?_
  subst he
  exact ⟨_, rfl, _, _, _, [], _, [], hW', trodAll_mk1 (shut_bool underlying4 _), (trodAll_cons_mk (Below.trod laidOut (by kernel_rfl) (of_decide_eq_true (by kernel_rfl)) k0 bel lt0) trodAll_mk0), rfl, bel.frame _, fun h => by cases h⟩
theorem over : Rows.wireDecodesRow.holds Tryz.pinned (OpenSpec.ofChange Rows.wireDecodesSpec) :=
  OpenClaim.holds_of_wide 3 Tryz.f3 rfl rfl rfl rfl rfl rfl rfl ⟨rfl, rfl, rfl, rfl, rfl⟩ rfl rfl rfl rfl rfl (by kernel_rfl) func3 (by kernel_rfl)
    (of_decide_eq_true (by kernel_rfl)) (by unfold Func.isWrapper; first | (rw [if_pos (by decide +kernel)]; kernel_rfl) | (rw [if_neg (by decide +kernel)]; exact ⟨rfl, rfl⟩))
    (fun os started H enc _ => lifted os started H enc)
theorem card_holds : Claim7.holds Tryz.pinned (.plain (OpenSpec.ofChange Rows.wireDecodesSpec)) Rows.wireDecodesCard :=
  Claim7.holds_tied_plain_at .later [] [.data, .pinned] true (true, "a40daeb7286c7abe405f667dec651cf2c120273364d49989a5c6d9a2e91288fe") false
    over (fun _ h => by cases h) (by kernel_rfl) (fun _ h => by cases h) wireDecodes_row_tie rfl ⟨rfl, rfl⟩ (by kernel_rfl) rfl
    (fun f fn hf hfn => by
      obtain rfl : f = 3 := Option.some.inj ((show prog.funcNamed "virgule/virgulelaw14.WireDecodes" = some 3 by kernel_rfl).symm.trans hf) |>.symm
      obtain rfl : fn = Tryz.f3 := (Option.some.inj (func3.symm.trans hfn)).symm
      exact ⟨by kernel_rfl, fun j t ht => by
        rw [Tryz.params3] at ht
        have hm : t ∈ [22] := by simpa using Array.mem_of_getElem? ht
        have hall : ([22].all fun u => !prog.wantsStandIn u) = true := by kernel_rfl
        exact (show prog.wantsStandIn t = false by simpa using List.all_eq_true.1 hall t hm)⟩)
    (by kernel_rfl)
end wireDecodesEnd
theorem wireDecodes_card : Rows.WireDecodesCardSaid := wireDecodesEnd.card_holds
end Go.Proofs.YtpfpmhhigheccaaGreatDoor
