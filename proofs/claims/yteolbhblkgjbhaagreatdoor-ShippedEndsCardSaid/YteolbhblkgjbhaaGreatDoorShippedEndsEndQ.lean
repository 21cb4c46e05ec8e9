/- 'virgulelaw15.ShippedEnds' answers true, whatever it is given; the tied card. -/
import Derived.Test.YteolbhblkgjbhaaGreatDoorRows
import Derived.Test.YteolbhblkgjbhaaGreatDoorCards
import Derived.Test.YteolbhblkgjbhaaGreatDoorTie
import Derived.SevenTiedAt
import Derived.LaidMore
import Derived.LaidHandle
import Derived.LaidLaws
import Derived.Lay
import Derived.Lib.LaidTab
import Derived.Test.YteolbhblkgjbhaaGreatDoorQShippedEnds6
namespace Go.Proofs.YteolbhblkgjbhaaGreatDoor
open Go.Proofs.Tryz
open Go.ChangeShapes Go.WideShapes Go.ChangeAt Go.RowKit Go.VL Go.Proofs
set_option maxRecDepth 100000 in
theorem Bf {W : World} (hL : laidMetH prog Rows.shippedEndsRow.laid W) : kq W := by
  rw [MakeChecks.laidMetH_plain _ _ _ (by kernel_rfl)] at hL
  have hN : prog.globalNamed "math/bits.deBruijn64tab" = some 1 := by kernel_rfl
  have h := Lib.tabIs_of_head (P := prog) (W := W) (name := "math/bits.deBruijn64tab") (k := .u8) (zs := Lib.deBruijn64tab.map fun n : Nat => (n : Int)) hN (by kernel_rfl) underlying299 underlying5 (by kernel_rfl) (by kernel_rfl) hL
  intro j hj
  have hc := h.cell hN j (by simpa using hj)
  rw [hc]
  congr 2
  rw [List.getD_eq_getElem?_getD, List.getElem?_map, List.getD_eq_getElem?_getD, List.getElem?_eq_getElem hj]
  rfl
namespace shippedEndsEnd
set_option linter.unusedVariables false
theorem own : ownKnob prog.godebug = none := by kernel_rfl
theorem laidOut : laidOutB prog = true := by kernel_rfl
set_option maxRecDepth 100000 in
theorem D7 (os : Os) (args : Array Value) : laidMetH prog Rows.shippedEndsRow.laid ((World.laidAll prog os Rows.shippedEndsRow.laid).forCall (fun _ _ => 0) ⟨#[], args, []⟩).memory :=
  by rw [MakeChecks.laidMetH_plain _ _ _ (by kernel_rfl)]; exact laidMet_laidAll _ (by kernel_rfl) (by kernel_rfl)
set_option maxRecDepth 100000 in
theorem lifted (os : Os) (started : os.Started) (H : Type) (enc : TypeId × Value → H) :
    ReturnsInHanded {} Tryz.checked os 4 .any (fun w args => (Rows.shippedEndsSpec.pre enc prog Tryz.f4 [] false w args ∧ laidMetH prog Rows.shippedEndsRow.laid w) ∧ sizedMet enc prog Tryz.f4 (OpenSpec.ofChange Rows.shippedEndsSpec) false w args) (Rows.shippedEndsSpec.post enc prog Tryz.f4 false true false false) := by
  refine returnsInHanded_of_change_and (C := Tryz.checked) (X := fun w _ => laidMetH prog Rows.shippedEndsRow.laid w) (fun _ _ _ hh h => h.of_heap hh) own started (by kernel_rfl) func4
    (ChangeSpec.witness_shaped (enc := enc) (C := Tryz.checked) (os := os) (X := fun w _ => laidMetH prog Rows.shippedEndsRow.laid w) false (World.laidAll prog os Rows.shippedEndsRow.laid) #[.slice none 0 0] 8 (World.laidAll_os _ _ _) (World.shaped_of_ZipB (by kernel_rfl) (by kernel_rfl)) (by kernel_rfl) (by kernel_rfl) (by kernel_rfl) (D7 os _)) ?_
  intro W base args ds gs before hval0 hW _ _ hL _
  have hval : ∀ (j : Nat) t v, Tryz.f4.params[j]? = some t → args[j]? = some v → Value.okWide prog W .any base t v := hval0
  have hW' := hW
  obtain ⟨p, q, hA0, hV, rfl, hfz, hnd⟩ := hW
  have hA : DataW.TrodAll enc prog W 0 (fun _ => true) true Tryz.f4.params.toList args.toList ds p := hA0
  rw [Tryz.params4] at hA hval
  obtain ⟨v0, vs0, d0, ds0, p0, q0, hargs, rfl, rfl, h0, r0⟩ := trodAll_cons hA
  obtain ⟨rfl, rfl, rfl⟩ := trodAll_nil r0
  obtain rfl : args = #[v0] := by cases args; simp_all
  obtain ⟨rfl, rfl⟩ := trodVars_none hV
  have k0 := h0
  have lt0 : ∀ x ∈ p0, x.block < W.heap.size := by obtain ⟨m, hm⟩ := k0; exact DataW.trod_lt m _ _ _ hm
  obtain ⟨a, len, cap, rfl⟩ := okWide_slice underlying22 (hval 0 22 v0 rfl rfl)
  obtain ⟨v', ids, hv', hd, _⟩ := (Ia h0).ints underlying22 underlying3 (by kernel_rfl)
  obtain rfl : v' = .slice a len cap := by simpa [Value.cells] using hv'.symm
  clear hA0 hval0
  refine (By (mJ ids (.slice a len cap) W hd (Bf hL))).mono fun e W' ⟨he, bel⟩ => ?_
  subst he
  exact ⟨_, rfl, _, _, _, [], _, [], hW', trodAll_mk1 (shut_bool underlying4 _), (trodAll_cons_mk (Below.trod laidOut (by kernel_rfl) (of_decide_eq_true (by kernel_rfl)) k0 bel lt0) trodAll_mk0), rfl, bel.frame _, fun h => by cases h⟩
theorem over : Rows.shippedEndsRow.holds Tryz.pinned (OpenSpec.ofChange Rows.shippedEndsSpec) :=
  OpenClaim.holds_of_wide 4 Tryz.f4 rfl rfl rfl rfl rfl rfl rfl ⟨rfl, rfl, rfl, rfl, rfl⟩ rfl rfl rfl rfl rfl (by kernel_rfl) func4 (by kernel_rfl)
    (of_decide_eq_true (by kernel_rfl)) (by unfold Func.isWrapper; first | (rw [if_pos (by decide +kernel)]; kernel_rfl) | (rw [if_neg (by decide +kernel)]; exact ⟨rfl, rfl⟩))
    (fun os started H enc _ => lifted os started H enc)
theorem card_holds : Claim7.holds Tryz.pinned (.plain (OpenSpec.ofChange Rows.shippedEndsSpec)) Rows.shippedEndsCard :=
  Claim7.holds_tied_plain_at .later [] [.data, .data, .pinned] true (true, "7316a6c5d2afaea41eadef9278fb42711a257b4a230fdc770b4e68488031a6e5") false
    over (fun _ h => by cases h) (by kernel_rfl) (fun _ h => by cases h) shippedEnds_row_tie rfl ⟨rfl, rfl⟩ (by kernel_rfl) rfl
    (fun f fn hf hfn => by
      obtain rfl : f = 4 := Option.some.inj ((show prog.funcNamed "virgule/virgulelaw15.ShippedEnds" = some 4 by kernel_rfl).symm.trans hf) |>.symm
      obtain rfl : fn = Tryz.f4 := (Option.some.inj (func4.symm.trans hfn)).symm
      exact ⟨by kernel_rfl, fun j t ht => by
        rw [Tryz.params4] at ht
        have hm : t ∈ [22] := by simpa using Array.mem_of_getElem? ht
        have hall : ([22].all fun u => !prog.wantsStandIn u) = true := by kernel_rfl
        exact (show prog.wantsStandIn t = false by simpa using List.all_eq_true.1 hall t hm)⟩)
    (by kernel_rfl)
end shippedEndsEnd
theorem shippedEnds_card : Rows.ShippedEndsCardSaid := shippedEndsEnd.card_holds
end Go.Proofs.YteolbhblkgjbhaaGreatDoor
