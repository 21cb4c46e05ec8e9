/- Of meanings in memory: Right, Print, Same. -/
import Derived.Test.YtmohcfjopaccdaaGreatDoorExU
namespace Go.Proofs.YtmohcfjopaccdaaGreatDoor
open Go.VL Go.Proofs
set_option maxRecDepth 10000

theorem Tx.shape {w : World} {v : Value} {li lk : List Int} {ts : List R3} (h : Tx w v li lk ts) : ∃ a b c, v = txtV a b c ∧ a.oneCell' = true ∧ b.oneCell' = true ∧ c.oneCell' = true := by
  obtain ⟨ig, kp, ru, xs, hv, h1, h2, h3, _⟩ := h
  exact ⟨ig, kp, ru, hv, h1.one, h2.one, h3.one⟩
theorem txt_one {a b c : Value} (h1 : a.oneCell' = true) (h2 : b.oneCell' = true) (h3 : c.oneCell' = true) : #[a, b, c].toList.all Value.oneCell' = true := by simp only [List.all_cons, h1, h2, h3]; rfl
theorem sameT_iff {la ka lb kb : List Int} {ta tb : List R3} : sameT la ka ta lb kb tb = true ↔ (la = lb ∧ ka = kb) ∧ ta = tb := by
  unfold sameT
  simp only [Bool.and_eq_true, eqI_true, sameRs_true]
theorem sameT_comm (la ka lb kb : List Int) (ta tb : List R3) : sameT lb kb tb la ka ta = sameT la ka ta lb kb tb := by
  rw [Bool.eq_iff_iff, sameT_iff, sameT_iff]
  constructor
  · rintro ⟨⟨rfl, rfl⟩, rfl⟩; exact ⟨⟨rfl, rfl⟩, rfl⟩
  · rintro ⟨⟨rfl, rfl⟩, rfl⟩; exact ⟨⟨rfl, rfl⟩, rfl⟩
theorem tright_ret (li lk : List Int) (ts : List R3) (v : Value) (w : World) (h : Tx w v li lk ts) : Ret Tryz.prog 13 [v] w fun u w' => u = .bool (rightT li lk ts) ∧ Ext w w' := by
  obtain ⟨ig, kp, ru, xs, rfl, h1, h2, h3, h4, h5⟩ := h
  exact rightT_ret li lk ts xs ig kp ru w h1 h2 h3 h4 h5
theorem tprint_ret (li lk : List Int) (ts : List R3) (v : Value) (w : World) (h : Tx w v li lk ts) (hf : Few li lk ts) : Ret Tryz.prog 11 [v] w fun u w' => u = .string (bs (printT li lk ts)) ∧ Ext w w' := by
  obtain ⟨ig, kp, ru, xs, rfl, h1, h2, h3, h4, h5⟩ := h
  obtain ⟨_, f2, f3, _⟩ := hf
  exact rprint_ret li lk ts xs ig kp ru w h1 h2 (by omega) (by omega) h3 h4 h5 (fun t _ ht => text_right _ ht) (fun t _ ht => text_right _ ht) (fun t _ => printM_len _) (fun t _ => printM_len _)
end Go.Proofs.YtmohcfjopaccdaaGreatDoor
