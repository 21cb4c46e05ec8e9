/- Package virgulelaw06, walked: awake; RuleMany. -/
import Derived.Test.YtmohcfjopaccdaaGreatDoorRuH
namespace Go.Proofs.YtmohcfjopaccdaaGreatDoor
open Go.VL Go.Proofs
set_option maxRecDepth 10000

theorem sl_nil {α : Type} (enc : α → List Value) (sz : Nat) (w : World) : Sl enc sz w nilV [] :=
  ⟨⟨none, 0, rfl, Nat.le_refl _, by omega, fun h => absurd rfl h⟩, fun i hi => absurd hi (by simp)⟩
def lenT : TR → Nat | .ok l => l.length | _ => 0
def atT : TR → Int | .bad p _ => (p : Nat) | _ => 0
def errT : TR → Int | .bad _ e => e | _ => 0
def otherT : TR → Bool | .other => true | _ => false
theorem otherT_ne {M : TR} (h : otherT M = false) : M ≠ .other := fun e => by subst e; cases h
theorem PostT.shape {O : Nat → Nat} {w : World} {v : Value} {M : TR} (h : PostT O w v M) : ∃ rv xs, v = .tuple #[txtV nilV nilV rv, .int .i64 (atT M), .int .i64 (errT M)] ∧ Sl encR 7 w rv xs ∧ xs.length = lenT M := by
  cases M with
  | ok ts => obtain ⟨xs, rv, rfl, hs, _, hl, _⟩ := h; exact ⟨rv, xs, rfl, hs, hl.symm⟩
  | bad p e => obtain ⟨rfl, _⟩ := h; exact ⟨nilV, [], rfl, sl_nil _ _ _, rfl⟩
  | other => exact h.elim
/-- "CR ! LF". -/
abbrev awakeL : List UInt8 := [67, 82, 32, 33, 32, 76, 70]
theorem awake_parse : parseT awakeL = .ok [(.mk 0 1 [], .mk 0 2 [], false)] := by kernel_rfl
theorem awake_print : printT [] [] [(.mk 0 1 [], .mk 0 2 [], false)] = [67, 82, 32, 33, 32, 76, 70, 10] := by decide +kernel
theorem awake_len : (∀ t ∈ [((.mk 0 1 [], .mk 0 2 [], false) : R3)], (printM t.1).length ≤ 100000) ∧ ∀ t ∈ [((.mk 0 1 [], .mk 0 2 [], false) : R3)], (printM t.2.1).length ≤ 100000 := by decide +kernel
theorem awake_ret (w : World) : Ret Tryz.prog 7 [] w fun v w' => v = .bool true ∧ Ext w w' := by
  refine Ret.enter Tryz.func7 Tryz.ntmps7 rfl rfl ?_
  refine WC.seq ?_
  refine WC.region ?_
  refine WL.v (RV.assign rfl) rfl ?_
  refine WL.nil ?_
  refine QF.seqNext ?_
  refine WC.seq ?_
  refine WC.region ?_
  refine WL.call Tryz.call8 rfl (rparse_ret awakeL w.heap.size (fun _ => 0) w (Rng.start w) (by decide) (by unfold asciiL; decide) (by rw [awake_parse]; intro e; cases e)) rfl ?_
  rintro v w1 ⟨hE1, hP1⟩
  rw [awake_parse] at hP1
  obtain ⟨xs, rv, rfl, hs, hf, hl, h40, hx⟩ := hP1
  obtain ⟨x, rfl⟩ : ∃ x, xs = [x] := List.length_eq_one_iff.1 hl.symm
  have hro := hs.one
  have hx0 : Rt (fun _ => 0) w1 (.mk 0 1 [], .mk 0 2 [], false) x := by have := hx 0 (by simp); rwa [nth_cons0, nth_cons0] at this
  refine WL.v (RV.move rfl) rfl ?_
  refine WL.v (RV.extract rfl rfl) rfl ?_
  refine WL.v (RV.extract rfl rfl) rfl ?_
  refine WL.v (RV.extract rfl rfl) rfl ?_
  refine WL.allocO (Rng.start w1) 1 (by omega) (Tryz.zeroValue26 _) rfl ?_
  intro xb w2 O2 hx2 hU2 hR2 hE2
  refine WL.storeAgg (us := #[.slice none 0 0, .slice none 0 0, rv]) hx2 rfl (Tryz.sizeOf26 _) (by simp only [List.all_cons, hro]; rfl) rfl rfl rfl ?_
  have hx3 := hx2.setRow (us := #[.slice none 0 0, .slice none 0 0, rv])
  have hE3 : Ext w1 (w2.setRow xb #[.slice none 0 0, .slice none 0 0, rv]) := (hU2.trans (Upd.setRow (by decide) hx2.tag rfl)).ext
  generalize w2.setRow xb #[.slice none 0 0, .slice none 0 0, rv] = w3 at *
  have hs3 := hs.ext hE3
  have c2 : w3.cell? ((⟨xb, 0, none⟩ : Addr).add 2) = some rv := hx3.cell 2 rfl
  have cb : w3.cell? ((adr rv 7 0).add 6) = some (.bool false) := by
    have := hs3.cell (i := 0) (j := 6) (by simp) rfl
    rw [show (.bool false : Value) = .bool x.2.2 from by rw [hx0.2.2]]
    rwa [nth_cons0] at this
  refine WL.v (RV.assign rfl) rfl ?_
  refine WL.v (RV.assign rfl) rfl ?_
  refine WL.nil ?_
  refine QF.seqNext ?_
  refine WC.seq ?_
  refine WC.region ?_
  refine WL.v (RV.move rfl) rfl ?_
  refine WL.v (RV.eql rfl rfl) rfl ?_
  refine WL.v (RV.move rfl) rfl ?_
  refine WL.know (d := 11) rfl (b' := true) (rfl) ?_
  refine WL.on rfl ?_
  refine WL.v (RV.move rfl) rfl ?_
  refine WL.on rfl ?_
  refine WL.v (RV.eql rfl rfl) rfl ?_
  refine WL.v (RV.pickT rfl rfl) rfl ?_
  refine WL.v (RV.move rfl) rfl ?_
  refine WL.know (d := 15) rfl (b' := true) (rfl) ?_
  refine WL.on rfl ?_
  refine WL.v (RV.fieldAddr 2 Tryz.underlying26 rfl rfl (Tryz.sizeOf24 _) (by decide) rfl) rfl ?_
  refine WL.on rfl ?_
  refine WL.v (RV.load (by first | exact c2 | exact cb) (Tryz.isAgg24 _) rfl) rfl ?_
  refine WL.on rfl ?_
  refine WL.v (RV.len (by first | exact hs3) Tryz.underlying24 rfl) rfl ?_
  refine WL.on rfl ?_
  refine WL.v (RV.eql rfl rfl) rfl ?_
  refine WL.v (RV.pickT rfl rfl) rfl ?_
  refine WL.v (RV.move rfl) rfl ?_
  refine WL.know (d := 21) rfl (b' := true) (rfl) ?_
  refine WL.on rfl ?_
  refine WL.v (RV.fieldAddr 2 Tryz.underlying26 rfl rfl (Tryz.sizeOf24 _) (by decide) rfl) rfl ?_
  refine WL.on rfl ?_
  refine WL.v (RV.load (by first | exact c2 | exact cb) (Tryz.isAgg24 _) rfl) rfl ?_
  refine WL.on rfl ?_
  refine WL.v (RV.indexAddr hs3 Tryz.underlying24 (Tryz.sizeOf50 _) rfl rfl 0 rfl (by simp)) rfl ?_
  refine WL.on rfl ?_
  refine WL.v (RV.fieldAddr 6 Tryz.underlying50 rfl rfl (Tryz.sizeOf4 _) (by decide) rfl) rfl ?_
  refine WL.on rfl ?_
  refine WL.v (RV.load (by first | exact c2 | exact cb) (Tryz.isAgg4 _) rfl) rfl ?_
  refine WL.on rfl ?_
  refine WL.v (RV.not rfl) rfl ?_
  refine WL.v (RV.pickT rfl rfl) rfl ?_
  refine WL.v (RV.move rfl) rfl ?_
  refine WL.know (d := 29) rfl (b' := true) (rfl) ?_
  refine WL.on rfl ?_
  refine WL.v (RV.loadAgg (us := [.slice none 0 0, .slice none 0 0, rv]) hx3.cellsAdd (Tryz.isAgg26 _) (Tryz.sizeOf26 _) rfl) rfl ?_
  refine WL.on rfl ?_
  refine WL.call Tryz.call11 rfl (rprint_ret [] [] [(.mk 0 1 [], .mk 0 2 [], false)] [x] nilV nilV rv w3 (sl_nil _ _ _) (sl_nil _ _ _) (by decide) (by decide) hs3 rfl (fun i hi => by obtain rfl : i = 0 := (by simpa using hi); rw [nth_cons0, nth_cons0]; exact hx0.ext hE3) (fun t ht _ => by rw [List.mem_singleton.1 ht]; exact text0 1) (fun t ht _ => by rw [List.mem_singleton.1 ht]; exact text0 2) awake_len.1 awake_len.2) rfl ?_
  rintro v w4 ⟨rfl, hE4⟩
  rw [awake_print]
  refine WL.on rfl ?_
  refine WL.v (RV.eqlS rfl rfl) rfl ?_
  refine WL.v (RV.pickT rfl rfl) rfl ?_
  refine WL.v (RV.assign rfl) rfl ?_
  refine WL.nil ?_
  refine QF.seqNext ?_
  refine WC.ret ?_
  refine QF.done1 rfl rfl (⟨rfl, (hE1.trans hE3).trans hE4⟩)
end Go.Proofs.YtmohcfjopaccdaaGreatDoor
