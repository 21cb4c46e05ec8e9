/- 'virgulelaw13.TableMakes' answers true, whatever it is given; the tied card. -/
import Derived.Test.YtcfhbfflgnbacaaGreatDoorRows
import Derived.Test.YtcfhbfflgnbacaaGreatDoorCards
import Derived.Test.YtcfhbfflgnbacaaGreatDoorTie
import Derived.SevenTiedAt
import Derived.LaidMore
import Derived.LaidHandle
import Derived.LaidLaws
import Derived.Lay
import Derived.Lib.LaidTab
import Derived.Test.YtcfhbfflgnbacaaGreatDoorQTableMakes7
set_option linter.defProp false
namespace Go.Proofs.YtcfhbfflgnbacaaGreatDoor
open Go.Proofs.Tryz
open Go.ChangeShapes Go.WideShapes Go.ChangeAt Go.RowKit Go.VL Go.Proofs
set_option maxRecDepth 100000 in
theorem D9 {W : World} (hL : laidMetH prog Rows.tableMakesRow.laid W) : gp W := by
  rw [MakeChecks.laidMetH_plain _ _ _ (by kernel_rfl)] at hL
  have hN : prog.globalNamed "math/bits.deBruijn64tab" = some 0 := by kernel_rfl
  have h := Lib.tabIs_of_head (P := prog) (W := W) (name := "math/bits.deBruijn64tab") (k := .u8) (zs := Lib.deBruijn64tab.map λn : Nat => (n : Int)) hN (by kernel_rfl) underlying238 underlying5 (by kernel_rfl) (by kernel_rfl) hL
  intro j hj
  have hc := h.cell hN j (by simpa using hj)
  rw [hc]
  congr 2
  rw [List.getD_eq_getElem?_getD, List.getElem?_map, List.getD_eq_getElem?_getD, List.getElem?_eq_getElem hj]
  rfl
namespace tableMakesEnd
set_option linter.unusedVariables false
theorem own : ownKnob prog.godebug = none := by kernel_rfl
theorem laidOut : laidOutB prog = true := by kernel_rfl
set_option maxRecDepth 100000 in
theorem Jz (os : Os) (args : Array Value) : laidMetH prog Rows.tableMakesRow.laid ((World.laidAll prog os Rows.tableMakesRow.laid).forCall (λ_ _ => 0) ⟨#[], args, []⟩).memory :=
  by rw [MakeChecks.laidMetH_plain _ _ _ (by kernel_rfl)]; exact laidMet_laidAll _ (by kernel_rfl) (by kernel_rfl)
set_option maxRecDepth 100000 in
theorem lifted (os : Os) (started : os.Started) (H : Type) (enc : TypeId × Value → H) :
    ReturnsInHanded {} Tryz.checked os 3 .any (fun w args => (Rows.tableMakesSpec.pre enc prog Tryz.f3 [] false w args ∧ laidMetH prog Rows.tableMakesRow.laid w) ∧ sizedMet enc prog Tryz.f3 (OpenSpec.ofChange Rows.tableMakesSpec) false w args) (Rows.tableMakesSpec.post enc prog Tryz.f3 false true false false) := by
  refine returnsInHanded_of_change_and (C := Tryz.checked) (X := fun w _ => laidMetH prog Rows.tableMakesRow.laid w) (fun _ _ _ hh h => h.of_heap hh) own started (by kernel_rfl) func3
    (ChangeSpec.witness_shaped (enc := enc) (C := Tryz.checked) (os := os) (X := fun w _ => laidMetH prog Rows.tableMakesRow.laid w) false (World.laidAll prog os Rows.tableMakesRow.laid) #[.agg #[.slice none 0 0, .slice none 0 0, .slice none 0 0]] 8 (World.laidAll_os _ _ _) (World.shaped_of_ZipB (by kernel_rfl) (by kernel_rfl)) (by kernel_rfl) (by kernel_rfl) (by kernel_rfl) (Jz os _)) ?_
  intro W base args ds gs before hval0 hW _ _ hL _
  have hval : ∀ (j : Nat) t v, Tryz.f3.params[j]? = some t → args[j]? = some v → Value.okWide prog W .any base t v := hval0
  have hW' := hW
  obtain ⟨p, q, hA0, hV, rfl, hfz, hnd⟩ := hW
  have hA : DataW.TrodAll enc prog W 0 (fun _ => true) true Tryz.f3.params.toList args.toList ds p := hA0
  rw [Tryz.params3] at hA hval
  obtain ⟨v0, vs0, d0, ds0, p0, q0, hargs, rfl, rfl, h0, r0⟩ := trodAll_cons hA
  obtain ⟨rfl, rfl, rfl⟩ := trodAll_nil r0
  obtain rfl : args = #[v0] := by cases args; simp_all
  obtain ⟨rfl, rfl⟩ := trodVars_none hV
  have k0 := h0
  have lt0 : ∀ x ∈ p0, x.block < W.heap.size := by obtain ⟨m, hm⟩ := k0; exact DataW.trod_lt m _ _ _ hm
  obtain ⟨la, ka, ta, hTx⟩ := IG (hval 0 25 v0 rfl rfl) h0
  clear hA0 hval0
  refine (Fy (qH la ka ta v0 W hTx (D9 hL))).mono fun e W' ⟨he, bel⟩ => ?_
  subst he
  exact ⟨_, rfl, _, _, _, [], _, [], hW', trodAll_mk1 (shut_bool underlying4 _), (trodAll_cons_mk (Below.trod laidOut (by kernel_rfl) (of_decide_eq_true (by kernel_rfl)) k0 bel lt0) trodAll_mk0), rfl, bel.frame _, fun h => by cases h⟩
theorem over : Rows.tableMakesRow.holds Tryz.pinned (OpenSpec.ofChange Rows.tableMakesSpec) :=
  OpenClaim.holds_of_wide 3 Tryz.f3 rfl rfl rfl rfl rfl rfl rfl ⟨rfl, rfl, rfl, rfl, rfl⟩ rfl rfl rfl rfl rfl (by kernel_rfl) func3 (by kernel_rfl)
    (of_decide_eq_true (by kernel_rfl)) (by unfold Func.isWrapper; first | (rw [ap (by decide +kernel)]; kernel_rfl) | (rw [am (by decide +kernel)]; exact ⟨rfl, rfl⟩))
    (λos started H enc _ => lifted os started H enc)
theorem card_holds : Claim7.holds Tryz.pinned (.plain (OpenSpec.ofChange Rows.tableMakesSpec)) Rows.tableMakesCard :=
  Claim7.holds_tied_plain_at .later [] [.data, .data, .pinned] true (true, "dad47ea1ae1c51c9af5328412544be2d7539fd05850a52d31af097fdc03b8f0e") false
    over (λ_ h => by cases h) (by kernel_rfl) (λ_ h => by cases h) tableMakes_row_tie rfl ⟨rfl, rfl⟩ (by kernel_rfl) rfl
    (λf fn hf hfn => by
      obtain rfl : f = 3 := Option.some.inj ((show prog.funcNamed "virgule/virgulelaw13.TableMakes" = some 3 by kernel_rfl).symm.J hf) |>.symm
      obtain rfl : fn = Tryz.f3 := (Option.some.inj (func3.symm.J hfn)).symm
      exact ⟨by kernel_rfl, λj t ht => by
        rw [Tryz.params3] at ht
        have hm : t ∈ [25] := by simpa using Array.mem_of_getElem? ht
        have hall : ([25].all λu => !prog.wantsStandIn u) = true := by kernel_rfl
        exact (show prog.wantsStandIn t = false by simpa using List.all_eq_true.1 hall t hm)⟩)
    (by kernel_rfl)
end tableMakesEnd
theorem tableMakes_card : Rows.TableMakesCardSaid := tableMakesEnd.card_holds
end Go.Proofs.YtcfhbfflgnbacaaGreatDoor
