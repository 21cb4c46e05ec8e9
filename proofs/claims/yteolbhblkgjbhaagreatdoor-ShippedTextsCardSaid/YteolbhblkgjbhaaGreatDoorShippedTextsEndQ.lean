/- 'virgulelaw15.ShippedTexts' answers true, whatever it is given; the tied card. -/
import Derived.Test.YteolbhblkgjbhaaGreatDoorRows
import Derived.Test.YteolbhblkgjbhaaGreatDoorCards
import Derived.Test.YteolbhblkgjbhaaGreatDoorTie
import Derived.SevenTiedAt
import Derived.LaidMore
import Derived.LaidHandle
import Derived.LaidLaws
import Derived.Lay
import Derived.Lib.LaidTab
import Derived.Test.YteolbhblkgjbhaaGreatDoorQShippedTexts6
namespace Go.Proofs.YteolbhblkgjbhaaGreatDoor
open Go.Proofs.Tryz
open Go.ChangeShapes Go.WideShapes Go.ChangeAt Go.RowKit Go.VL Go.Proofs
theorem Gj (s : ByteArray) : s = bs s.data.toList := by
  obtain ⟨⟨l⟩⟩ := s
  rfl
set_option maxRecDepth 100000 in
theorem Du {W : World} (hL : laidMetH prog Rows.shippedTextsRow.laid W) : lF W := by
  rw [MakeChecks.laidMetH_plain _ _ _ (by kernel_rfl)] at hL
  have hN : prog.globalNamed "math/bits.deBruijn64tab" = some 1 := by kernel_rfl
  have h := Lib.tabIs_of_head (P := prog) (W := W) (name := "math/bits.deBruijn64tab") (k := .u8) (zs := Lib.deBruijn64tab.map fun n : Nat => (n : Int)) hN (by kernel_rfl) underlying299 underlying5 (by kernel_rfl) (by kernel_rfl) hL
  intro j hj
  have hc := h.cell hN j (by simpa using hj)
  rw [hc]
  congr 2
  rw [List.getD_eq_getElem?_getD, List.getElem?_map, List.getD_eq_getElem?_getD, List.getElem?_eq_getElem hj]
  rfl
namespace shippedTextsEnd
set_option linter.unusedVariables false
theorem own : ownKnob prog.godebug = none := by kernel_rfl
theorem laidOut : laidOutB prog = true := by kernel_rfl
set_option maxRecDepth 100000 in
theorem IX (os : Os) (args : Array Value) : laidMetH prog Rows.shippedTextsRow.laid ((World.laidAll prog os Rows.shippedTextsRow.laid).forCall (fun _ _ => 0) ⟨#[], args, []⟩).memory :=
  by rw [MakeChecks.laidMetH_plain _ _ _ (by kernel_rfl)]; exact laidMet_laidAll _ (by kernel_rfl) (by kernel_rfl)
set_option maxRecDepth 100000 in
theorem lifted (os : Os) (started : os.Started) (H : Type) (enc : TypeId × Value → H) :
    ReturnsInHanded {} Tryz.checked os 6 .any (fun w args => (Rows.shippedTextsSpec.pre enc prog Tryz.f6 [] false w args ∧ laidMetH prog Rows.shippedTextsRow.laid w) ∧ sizedMet enc prog Tryz.f6 (OpenSpec.ofChange Rows.shippedTextsSpec) false w args) (Rows.shippedTextsSpec.post enc prog Tryz.f6 false true false false) := by
  refine returnsInHanded_of_change_and (C := Tryz.checked) (X := fun w _ => laidMetH prog Rows.shippedTextsRow.laid w) (fun _ _ _ hh h => h.of_heap hh) own started (by kernel_rfl) func6
    (ChangeSpec.witness_shaped (enc := enc) (C := Tryz.checked) (os := os) (X := fun w _ => laidMetH prog Rows.shippedTextsRow.laid w) false (World.laidAll prog os Rows.shippedTextsRow.laid) #[.int .i64 0, .string .empty] 8 (World.laidAll_os _ _ _) (World.shaped_of_ZipB (by kernel_rfl) (by kernel_rfl)) (by kernel_rfl) (by kernel_rfl) (by kernel_rfl) (IX os _)) ?_
  intro W base args ds gs before hval0 hW _ _ hL _
  have hval : ∀ (j : Nat) t v, Tryz.f6.params[j]? = some t → args[j]? = some v → Value.okWide prog W .any base t v := hval0
  have hW' := hW
  obtain ⟨p, q, hA0, hV, rfl, hfz, hnd⟩ := hW
  have hA : DataW.TrodAll enc prog W 0 (fun _ => true) true Tryz.f6.params.toList args.toList ds p := hA0
  rw [Tryz.params6] at hA hval
  obtain ⟨v0, vs0, d0, ds0, p0, q0, hargs, rfl, rfl, h0, r0⟩ := trodAll_cons hA
  obtain ⟨v1, vs1, d1, ds1, p1, q1, rfl, rfl, rfl, h1, r1⟩ := trodAll_cons r0
  obtain ⟨rfl, rfl, rfl⟩ := trodAll_nil r1
  obtain rfl : args = #[v0, v1] := by cases args; simp_all
  obtain ⟨rfl, rfl⟩ := trodVars_none hV
  have k0 := h0
  have lt0 : ∀ x ∈ p0, x.block < W.heap.size := by obtain ⟨m, hm⟩ := k0; exact DataW.trod_lt m _ _ _ hm
  have k1 := h1
  have lt1 : ∀ x ∈ p1, x.block < W.heap.size := by obtain ⟨m, hm⟩ := k1; exact DataW.trod_lt m _ _ _ hm
  obtain ⟨n, rfl, _⟩ := open_int underlying3 (hval 0 3 v0 rfl rfl) h0
  obtain ⟨s, rfl⟩ := okWide_string underlying9 (hval 1 9 v1 rfl rfl)
  obtain ⟨s', hs', hsz⟩ := (Ld h1).str underlying9
  obtain rfl : s = s' := by simpa [Value.cells] using hs'
  rw [Gj s] at h1 k1 hval hW' ⊢
  clear hA0 hval0
  refine (DO (np n s.data.toList W (Du hL))).mono fun e W' ⟨he, bel⟩ => ?_
  subst he
  exact ⟨_, rfl, _, _, _, [], _, [], hW', trodAll_mk1 (shut_bool underlying4 _), (trodAll_cons_mk (Below.trod laidOut (by kernel_rfl) (of_decide_eq_true (by kernel_rfl)) k0 bel lt0) (trodAll_cons_mk (Below.trod laidOut (by kernel_rfl) (of_decide_eq_true (by kernel_rfl)) k1 bel lt1) trodAll_mk0)), rfl, bel.frame _, fun h => by cases h⟩
theorem over : Rows.shippedTextsRow.holds Tryz.pinned (OpenSpec.ofChange Rows.shippedTextsSpec) :=
  OpenClaim.holds_of_wide 6 Tryz.f6 rfl rfl rfl rfl rfl rfl rfl ⟨rfl, rfl, rfl, rfl, rfl⟩ rfl rfl rfl rfl rfl (by kernel_rfl) func6 (by kernel_rfl)
    (of_decide_eq_true (by kernel_rfl)) (by unfold Func.isWrapper; first | (rw [if_pos (by decide +kernel)]; kernel_rfl) | (rw [if_neg (by decide +kernel)]; exact ⟨rfl, rfl⟩))
    (fun os started H enc _ => lifted os started H enc)
theorem card_holds : Claim7.holds Tryz.pinned (.plain (OpenSpec.ofChange Rows.shippedTextsSpec)) Rows.shippedTextsCard :=
  Claim7.holds_tied_plain_at .later [] [.data, .data, .pinned] true (true, "7316a6c5d2afaea41eadef9278fb42711a257b4a230fdc770b4e68488031a6e5") false
    over (fun _ h => by cases h) (by kernel_rfl) (fun _ h => by cases h) shippedTexts_row_tie rfl ⟨rfl, rfl⟩ (by kernel_rfl) rfl
    (fun f fn hf hfn => by
      obtain rfl : f = 6 := Option.some.inj ((show prog.funcNamed "virgule/virgulelaw15.ShippedTexts" = some 6 by kernel_rfl).symm.trans hf) |>.symm
      obtain rfl : fn = Tryz.f6 := (Option.some.inj (func6.symm.trans hfn)).symm
      exact ⟨by kernel_rfl, fun j t ht => by
        rw [Tryz.params6] at ht
        have hm : t ∈ [3, 9] := by simpa using Array.mem_of_getElem? ht
        have hall : ([3, 9].all fun u => !prog.wantsStandIn u) = true := by kernel_rfl
        exact (show prog.wantsStandIn t = false by simpa using List.all_eq_true.1 hall t hm)⟩)
    (by kernel_rfl)
end shippedTextsEnd
theorem shippedTexts_card : Rows.ShippedTextsCardSaid := shippedTextsEnd.card_holds
end Go.Proofs.YteolbhblkgjbhaaGreatDoor
