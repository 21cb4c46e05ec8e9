/- 'virgulelaw32.DifferCounts' answers true, whatever it is given; the tied card. -/
import Derived.Test.YtjemhjcngaokpaaGreatDoorRows
import Derived.Test.YtjemhjcngaokpaaGreatDoorCards
import Derived.Test.YtjemhjcngaokpaaGreatDoorTie
import Derived.SevenTiedAt
import Derived.LaidMore
import Derived.LaidHandle
import Derived.LaidLaws
import Derived.Lay
import Derived.Lib.LaidTab
import Derived.Test.YtjemhjcngaokpaaGreatDoorQDifferCounts5
namespace Go.Proofs.YtjemhjcngaokpaaGreatDoor
open Go.Proofs.Tryz
open Go.ChangeShapes Go.WideShapes Go.ChangeAt Go.RowKit Go.VL Go.Proofs
set_option maxRecDepth 100000 in
theorem Bw {W : World} (hL : laidMetH prog Rows.differCountsRow.laid W) : cP W := by
  rw [MakeChecks.laidMetH_plain _ _ _ (by kernel_rfl)] at hL
  have hN : prog.globalNamed "math/bits.deBruijn64tab" = some 0 := by kernel_rfl
  have h := Lib.tabIs_of_head (P := prog) (W := W) (name := "math/bits.deBruijn64tab") (k := .u8) (zs := Lib.deBruijn64tab.map fun n : Nat => (n : Int)) hN (by kernel_rfl) underlying219 underlying5 (by kernel_rfl) (by kernel_rfl) hL
  intro j hj
  have hc := h.cell hN j (by simpa using hj)
  rw [hc]
  congr 2
  rw [List.getD_eq_getElem?_getD, List.getElem?_map, List.getD_eq_getElem?_getD, List.getElem?_eq_getElem hj]
  rfl
namespace differCountsEnd
set_option linter.unusedVariables false
theorem own : ownKnob prog.godebug = none := by kernel_rfl
theorem laidOut : laidOutB prog = true := by kernel_rfl
set_option maxRecDepth 100000 in
theorem FC (os : Os) (args : Array Value) : laidMetH prog Rows.differCountsRow.laid ((World.laidAll prog os Rows.differCountsRow.laid).forCall (fun _ _ => 0) ⟨#[], args, []⟩).memory :=
  by rw [MakeChecks.laidMetH_plain _ _ _ (by kernel_rfl)]; exact laidMet_laidAll _ (by kernel_rfl) (by kernel_rfl)
set_option maxRecDepth 100000 in
theorem lifted (os : Os) (started : os.Started) (H : Type) (enc : TypeId × Value → H) :
    ReturnsInHanded {} Tryz.checked os 3 .any (fun w args => (Rows.differCountsSpec.pre enc prog Tryz.f3 [] false w args ∧ laidMetH prog Rows.differCountsRow.laid w) ∧ sizedMet enc prog Tryz.f3 (OpenSpec.ofChange Rows.differCountsSpec) false w args) (Rows.differCountsSpec.post enc prog Tryz.f3 false true false false) := by
  refine returnsInHanded_of_change_and (C := Tryz.checked) (X := fun w _ => laidMetH prog Rows.differCountsRow.laid w) (fun _ _ _ hh h => h.of_heap hh) own started (by kernel_rfl) func3
    (ChangeSpec.witness_shaped (enc := enc) (C := Tryz.checked) (os := os) (X := fun w _ => laidMetH prog Rows.differCountsRow.laid w) false (World.laidAll prog os Rows.differCountsRow.laid) #[.agg #[.slice none 0 0, .slice none 0 0, .slice none 0 0], .slice none 0 0, .int .i64 0] 8 (World.laidAll_os _ _ _) (World.shaped_of_ZipB (by kernel_rfl) (by kernel_rfl)) (by kernel_rfl) (by kernel_rfl) (by kernel_rfl) (FC os _)) ?_
  intro W base args ds gs before hval0 hW _ _ hL _
  have hval : ∀ (j : Nat) t v, Tryz.f3.params[j]? = some t → args[j]? = some v → Value.okWide prog W .any base t v := hval0
  have hW' := hW
  obtain ⟨p, q, hA0, hV, rfl, hfz, hnd⟩ := hW
  have hA : DataW.TrodAll enc prog W 0 (fun _ => true) true Tryz.f3.params.toList args.toList ds p := hA0
  rw [Tryz.params3] at hA hval
  obtain ⟨v0, vs0, d0, ds0, p0, q0, hargs, rfl, rfl, h0, r0⟩ := trodAll_cons hA
  obtain ⟨v1, vs1, d1, ds1, p1, q1, rfl, rfl, rfl, h1, r1⟩ := trodAll_cons r0
  obtain ⟨v2, vs2, d2, ds2, p2, q2, rfl, rfl, rfl, h2, r2⟩ := trodAll_cons r1
  obtain ⟨rfl, rfl, rfl⟩ := trodAll_nil r2
  obtain rfl : args = #[v0, v1, v2] := by cases args; simp_all
  obtain ⟨rfl, rfl⟩ := trodVars_none hV
  have k0 := h0
  have lt0 : ∀ x ∈ p0, x.block < W.heap.size := by obtain ⟨m, hm⟩ := k0; exact DataW.trod_lt m _ _ _ hm
  have k1 := h1
  have lt1 : ∀ x ∈ p1, x.block < W.heap.size := by obtain ⟨m, hm⟩ := k1; exact DataW.trod_lt m _ _ _ hm
  have k2 := h2
  have lt2 : ∀ x ∈ p2, x.block < W.heap.size := by obtain ⟨m, hm⟩ := k2; exact DataW.trod_lt m _ _ _ hm
  obtain ⟨la, ka, ta, hTx⟩ := DN (hval 0 25 v0 rfl rfl) h0
  obtain ⟨a, len, cap, rfl⟩ := okWide_slice underlying22 (hval 1 22 v1 rfl rfl)
  obtain ⟨v', ids, hv', hd, _⟩ := (GN h1).ints underlying22 underlying3 (by kernel_rfl)
  obtain rfl : v' = .slice a len cap := by simpa [Value.cells] using hv'.symm
  obtain ⟨n, rfl, _⟩ := open_int underlying3 (hval 2 3 v2 rfl rfl) h2
  clear hA0 hval0
  refine (BS (mG la ka ta ids n v0 (.slice a len cap) W hTx hd (Bw hL))).mono fun e W' ⟨he, bel⟩ => ?_
  subst he
  exact ⟨_, rfl, _, _, _, [], _, [], hW', trodAll_mk1 (shut_bool underlying4 _), (trodAll_cons_mk (Below.trod laidOut (by kernel_rfl) (of_decide_eq_true (by kernel_rfl)) k0 bel lt0) (trodAll_cons_mk (Below.trod laidOut (by kernel_rfl) (of_decide_eq_true (by kernel_rfl)) k1 bel lt1) (trodAll_cons_mk (Below.trod laidOut (by kernel_rfl) (of_decide_eq_true (by kernel_rfl)) k2 bel lt2) trodAll_mk0))), rfl, bel.frame _, fun h => by cases h⟩
theorem over : Rows.differCountsRow.holds Tryz.pinned (OpenSpec.ofChange Rows.differCountsSpec) :=
  OpenClaim.holds_of_wide 3 Tryz.f3 rfl rfl rfl rfl rfl rfl rfl ⟨rfl, rfl, rfl, rfl, rfl⟩ rfl rfl rfl rfl rfl (by kernel_rfl) func3 (by kernel_rfl)
    (of_decide_eq_true (by kernel_rfl)) (by unfold Func.isWrapper; first | (rw [if_pos (by decide +kernel)]; kernel_rfl) | (rw [if_neg (by decide +kernel)]; exact ⟨rfl, rfl⟩))
    (fun os started H enc _ => lifted os started H enc)
theorem card_holds : Claim7.holds Tryz.pinned (.plain (OpenSpec.ofChange Rows.differCountsSpec)) Rows.differCountsCard :=
  Claim7.holds_tied_plain_at .later [] [.data, .data, .pinned] true (true, "115acee5cd308b1c4d50c45716fa4ec96b68fa55f453f513ac558b4a46a90cd7") false
    over (fun _ h => by cases h) (by kernel_rfl) (fun _ h => by cases h) differCounts_row_tie rfl ⟨rfl, rfl⟩ (by kernel_rfl) rfl
    (fun f fn hf hfn => by
      obtain rfl : f = 3 := Option.some.inj ((show prog.funcNamed "virgule/virgulelaw32.DifferCounts" = some 3 by kernel_rfl).symm.trans hf) |>.symm
      obtain rfl : fn = Tryz.f3 := (Option.some.inj (func3.symm.trans hfn)).symm
      exact ⟨by kernel_rfl, fun j t ht => by
        rw [Tryz.params3] at ht
        have hm : t ∈ [25, 22, 3] := by simpa using Array.mem_of_getElem? ht
        have hall : ([25, 22, 3].all fun u => !prog.wantsStandIn u) = true := by kernel_rfl
        exact (show prog.wantsStandIn t = false by simpa using List.all_eq_true.1 hall t hm)⟩)
    (by kernel_rfl)
end differCountsEnd
theorem differCounts_card : Rows.DifferCountsCardSaid := differCountsEnd.card_holds
end Go.Proofs.YtjemhjcngaokpaaGreatDoor
