/- 'virgulelaw14.WireTurned' answers true, whatever it is given; the tied card. -/
import Derived.Test.YtpfpmhhigheccaaGreatDoorRows
import Derived.Test.YtpfpmhhigheccaaGreatDoorCards
import Derived.Test.YtpfpmhhigheccaaGreatDoorTie
import Derived.SevenTiedAt
import Derived.LaidMore
import Derived.LaidHandle
import Derived.LaidLaws
import Derived.Lay
import Derived.Lib.LaidTab
import Derived.Test.YtpfpmhhigheccaaGreatDoorQWireTurned6
namespace Go.Proofs.YtpfpmhhigheccaaGreatDoor
open Go.Proofs.Tryz
open Go.ChangeShapes Go.WideShapes Go.ChangeAt Go.RowKit Go.VL Go.Proofs
namespace wireTurnedEnd
set_option linter.unusedVariables false
theorem own : ownKnob prog.godebug = none := by kernel_rfl
theorem laidOut : laidOutB prog = true := by kernel_rfl
set_option maxRecDepth 100000 in
theorem Dv (os : Os) (args : Array Value) : laidMetH prog Rows.wireTurnedRow.laid ((World.laidAll prog os Rows.wireTurnedRow.laid).forCall (fun _ _ => 0) ⟨#[], args, []⟩).memory :=
  by rw [MakeChecks.laidMetH_plain _ _ _ (by kernel_rfl)]; exact laidMet_laidAll _ (by kernel_rfl) (by kernel_rfl)
set_option maxRecDepth 100000 in
theorem lifted (os : Os) (started : os.Started) (H : Type) (enc : TypeId × Value → H) :
    ReturnsInHanded {} Tryz.checked os 4 .any (fun w args => (Rows.wireTurnedSpec.pre enc prog Tryz.f4 [] false w args ∧ laidMetH prog Rows.wireTurnedRow.laid w) ∧ sizedMet enc prog Tryz.f4 (OpenSpec.ofChange Rows.wireTurnedSpec) false w args) (Rows.wireTurnedSpec.post enc prog Tryz.f4 false true false false) := by
  refine returnsInHanded_of_change_and (C := Tryz.checked) (X := fun w _ => laidMetH prog Rows.wireTurnedRow.laid w) (fun _ _ _ hh h => h.of_heap hh) own started (by kernel_rfl) func4
    (ChangeSpec.witness_shaped (enc := enc) (C := Tryz.checked) (os := os) (X := fun w _ => laidMetH prog Rows.wireTurnedRow.laid w) false (World.laidAll prog os Rows.wireTurnedRow.laid) #[.agg #[.slice none 0 0, .slice none 0 0, .slice none 0 0], .int .i64 0, .int .u8 0] 8 (World.laidAll_os _ _ _) (World.shaped_of_ZipB (by kernel_rfl) (by kernel_rfl)) (by kernel_rfl) (by kernel_rfl) (by kernel_rfl) (Dv os _)) ?_
  intro W base args ds gs before hval0 hW _ _ hL _
  have hval : ∀ (j : Nat) t v, Tryz.f4.params[j]? = some t → args[j]? = some v → Value.okWide prog W .any base t v := hval0
  have hW' := hW
  obtain ⟨p, q, hA0, hV, rfl, hfz, hnd⟩ := hW
  have hA : DataW.TrodAll enc prog W 0 (fun _ => true) true Tryz.f4.params.toList args.toList ds p := hA0
  rw [Tryz.params4] at hA hval
  obtain ⟨v0, vs0, d0, ds0, p0, q0, hargs, rfl, rfl, h0, r0⟩ := trodAll_cons hA
  obtain ⟨v1, vs1, d1, ds1, p1, q1, rfl, rfl, rfl, h1, r1⟩ := trodAll_cons r0
  obtain ⟨v2, vs2, d2, ds2, p2, q2, rfl, rfl, rfl, h2, r2⟩ := trodAll_cons r1
  obtain ⟨rfl, rfl, rfl⟩ := trodAll_nil r2
  obtain rfl : args = #[v0, v1, v2] := by cases args; simp_all
  obtain ⟨rfl, rfl⟩ := trodVars_none hV
  have k0 := h0
  have lt0 : ∀ x ∈ p0, x.block < W.heap.size := by obtain ⟨m, hm⟩ := k0; exact DataW.trod_lt m _ _ _ hm
  have k1 := h1
  have lt1 : ∀ x ∈ p1, x.block < W.heap.size := by obtain ⟨m, hm⟩ := k1; exact DataW.trod_lt m _ _ _ hm
  have k2 := h2
  have lt2 : ∀ x ∈ p2, x.block < W.heap.size := by obtain ⟨m, hm⟩ := k2; exact DataW.trod_lt m _ _ _ hm
  obtain ⟨la, ka, ta, hTx⟩ := CF (hval 0 44 v0 rfl rfl) h0
  obtain ⟨n, rfl, hw⟩ := open_int underlying3 (hval 1 3 v1 rfl rfl) h1
  have hn : -9223372036854775808 ≤ n ∧ n ≤ 9223372036854775807 := by
    have hq := hw.2.2
    simp only [Lit.wf, Bool.and_eq_true, decide_eq_true_eq] at hq
    exact hq
  obtain ⟨m, rfl, hw2⟩ := open_int underlying5 (hval 2 5 v2 rfl rfl) h2
  have hm : 0 ≤ m ∧ m ≤ 255 := by
    have hq := hw2.2.2
    simp only [Lit.wf, Bool.and_eq_true, decide_eq_true_eq] at hq
    exact hq
  obtain ⟨c, rfl⟩ : ∃ c : UInt8, m = (c.toNat : Int) := ⟨UInt8.ofNat m.toNat, by rw [UInt8.toNat_ofNat']; omega⟩
  clear hA0 hval0
  refine (AS (nF la ka ta n c v0 W hTx hn)).mono fun e W' ⟨he, bel⟩ => ?_
  subst he
  exact ⟨_, rfl, _, _, _, [], _, [], hW', trodAll_mk1 (shut_bool underlying4 _), (trodAll_cons_mk (Below.trod laidOut (by kernel_rfl) (of_decide_eq_true (by kernel_rfl)) k0 bel lt0) (trodAll_cons_mk (Below.trod laidOut (by kernel_rfl) (of_decide_eq_true (by kernel_rfl)) k1 bel lt1) (trodAll_cons_mk (Below.trod laidOut (by kernel_rfl) (of_decide_eq_true (by kernel_rfl)) k2 bel lt2) trodAll_mk0))), rfl, bel.frame _, fun h => by cases h⟩
theorem over : Rows.wireTurnedRow.holds Tryz.pinned (OpenSpec.ofChange Rows.wireTurnedSpec) :=
  OpenClaim.holds_of_wide 4 Tryz.f4 rfl rfl rfl rfl rfl rfl rfl ⟨rfl, rfl, rfl, rfl, rfl⟩ rfl rfl rfl rfl rfl (by kernel_rfl) func4 (by kernel_rfl)
    (of_decide_eq_true (by kernel_rfl)) (by unfold Func.isWrapper; first | (rw [if_pos (by decide +kernel)]; kernel_rfl) | (rw [if_neg (by decide +kernel)]; exact ⟨rfl, rfl⟩))
    (fun os started H enc _ => lifted os started H enc)
theorem card_holds : Claim7.holds Tryz.pinned (.plain (OpenSpec.ofChange Rows.wireTurnedSpec)) Rows.wireTurnedCard :=
  Claim7.holds_tied_plain_at .later [] [.data, .pinned] true (true, "a40daeb7286c7abe405f667dec651cf2c120273364d49989a5c6d9a2e91288fe") false
    over (fun _ h => by cases h) (by kernel_rfl) (fun _ h => by cases h) wireTurned_row_tie rfl ⟨rfl, rfl⟩ (by kernel_rfl) rfl
    (fun f fn hf hfn => by
      obtain rfl : f = 4 := Option.some.inj ((show prog.funcNamed "virgule/virgulelaw14.WireTurned" = some 4 by kernel_rfl).symm.trans hf) |>.symm
      obtain rfl : fn = Tryz.f4 := (Option.some.inj (func4.symm.trans hfn)).symm
      exact ⟨by kernel_rfl, fun j t ht => by
        rw [Tryz.params4] at ht
        have hm : t ∈ [44, 3, 5] := by simpa using Array.mem_of_getElem? ht
        have hall : ([44, 3, 5].all fun u => !prog.wantsStandIn u) = true := by kernel_rfl
        exact (show prog.wantsStandIn t = false by simpa using List.all_eq_true.1 hall t hm)⟩)
    (by kernel_rfl)
end wireTurnedEnd
theorem wireTurned_card : Rows.WireTurnedCardSaid := wireTurnedEnd.card_holds
end Go.Proofs.YtpfpmhhigheccaaGreatDoor
