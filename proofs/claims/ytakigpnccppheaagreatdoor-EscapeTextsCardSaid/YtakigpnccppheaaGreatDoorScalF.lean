/- Chapter 1 by the document, walked: All. -/
import Derived.Test.YtakigpnccppheaaGreatDoorScalE
namespace Go.Proofs.YtakigpnccppheaaGreatDoor
open Go.VL Go.Proofs
set_option maxRecDepth 4000

theorem decM_size {L : List UInt8} (h : L ≠ []) : 1 ≤ (decM L).2.1 ∧ (decM L).2.1 ≤ L.length := by
  have h1 : 1 ≤ L.length := by cases L with | nil => exact absurd rfl h | cons a l => simp
  have ht := thereM_len (l := L) (n := needN (by8 L 0)) (lo := needLo (by8 L 0)) (hi := needHi (by8 L 0)) h1
  have ht1 : 1 ≤ thereM L (needN (by8 L 0)) (needLo (by8 L 0)) (needHi (by8 L 0)) := by unfold thereM; (repeat' split) <;> omega
  unfold decM
  rw [if_neg h]
  split
  · exact ⟨Nat.le_refl _, h1⟩
  · split
    · exact ⟨ht1, ht⟩
    · dsimp only; omega
def decAll : Nat → List UInt8 → List Pce
  | 0, _ => []
  | n + 1, L => if L = [] then [] else decM L :: decAll n (L.drop (decM L).2.1)
theorem decAll_more : ∀ (n m : Nat) (L : List UInt8), L.length ≤ n → L.length ≤ m → decAll n L = decAll m L
  | 0, m, L, h, _ => by
    obtain rfl : L = [] := List.eq_nil_of_length_eq_zero (by omega)
    cases m with | zero => rfl | succ m => simp [decAll]
  | n + 1, 0, L, _, h => by
    obtain rfl : L = [] := List.eq_nil_of_length_eq_zero (by omega)
    simp [decAll]
  | n + 1, m + 1, L, h, h2 => by
    simp only [decAll]
    by_cases e : L = []
    · rw [if_pos e, if_pos e]
    · rw [if_neg e, if_neg e]
      have := (decM_size e).1
      congr 1
      exact decAll_more n m _ (by simp; omega) (by simp; omega)
/-- All scalars of some bytes. -/
def decP (L : List UInt8) : List Pce := decAll L.length L
theorem decP_nil : decP [] = [] := rfl
theorem decP_step {L : List UInt8} (h : L ≠ []) : decP L = decM L :: decP (L.drop (decM L).2.1) := by
  have h1 := (decM_size h).1
  have h2 : 1 ≤ L.length := by cases L with | nil => exact absurd rfl h | cons a l => simp
  unfold decP
  obtain ⟨n, hn⟩ : ∃ n, L.length = n + 1 := ⟨L.length - 1, by omega⟩
  rw [hn]
  simp only [decAll]
  rw [if_neg h]
  congr 1
  exact decAll_more _ _ _ (by simp; omega) (Nat.le_refl _)
theorem decP_len (L : List UInt8) : (decP L).length ≤ L.length := by
  have : ∀ n (L : List UInt8), L.length ≤ n → (decP L).length ≤ L.length := by
    intro n
    induction n with
    | zero => intro L h; obtain rfl : L = [] := List.eq_nil_of_length_eq_zero (by omega); simp [decP_nil]
    | succ n ih =>
      intro L h
      by_cases e : L = []
      · subst e; simp [decP_nil]
      · have h1 := decM_size e
        have := ih (L.drop (decM L).2.1) (by simp; omega)
        rw [decP_step e]; simp at this ⊢; omega
  exact this _ L (Nat.le_refl _)

theorem elPce : Elem Tryz.prog 44 47 3 24 := ⟨Tryz.underlying44, by kernel_rfl, by decide⟩

theorem all01_ret (l : List UInt8) (bv : Value) (w : World) (h : Bytes w bv l) (hsm : l.length ≤ 1000000) :
    Ret Tryz.prog 19 [bv] w fun v w' => Sl encP 3 w' v (decP l) ∧ Ext w w' := by
  refine Ret.enter Tryz.func19 Tryz.ntmps19 rfl rfl ?_
  refine WC.seq ?_
  refine WC.region ?_
  refine WL.v (RV.assign rfl) rfl ?_
  refine WL.nil ?_
  refine QF.seqNext ?_
  refine WC.seq ?_
  refine WC.region ?_
  refine WL.v (RV.assign rfl) rfl ?_
  refine WL.nil ?_
  refine QF.seqNext ?_
  refine WC.seq ?_
  refine WC.seq ?_
  refine WC.region ?_
  refine WL.v (RV.assign rfl) rfl ?_
  refine WL.nil ?_
  refine QF.seqNext ?_
  refine WC.block ?_
  refine WC.loop (fun x : Nat × (Nat → Nat) × World × Value × List Pce => [(0, bv), (3, x.2.2.2.1), (4, .int .i64 x.1)]) (fun x : Nat × (Nat → Nat) × World × Value × List Pce => x.2.2.1) (fun x : Nat × (Nat → Nat) × World × Value × List Pce => x.1 ≤ l.length ∧ RowT encP 47 3 x.2.1 x.2.2.1 1 x.2.2.2.1 x.2.2.2.2 ∧ x.2.2.2.2.length ≤ x.1 ∧ x.2.2.2.2 ++ decP (l.drop x.1) = decP l ∧ Upd (fun j => j = 1 ∨ j = 2) (fun _ => 0) w x.2.1 x.2.2.1) (fun x : Nat × (Nat → Nat) × World × Value × List Pce => l.length - x.1) (0, (fun _ => 0), w, .slice none 0 0, []) (⟨Nat.zero_le _, RowT.nil _ _ _ _ _ _, Nat.le_refl _, rfl, Upd.refl (by decide) _ _⟩) ⟨rfl, rfl, rfl, trivial⟩ rfl ?_
  rintro ⟨at', O1, w1, lv, ps⟩ ⟨ha, hl1, hpl, hps, hU1⟩
  dsimp only at ha hl1 hpl hps hU1 ⊢
  have h1 := h.ext hU1.ext
  refine WC.seq ?_
  refine WC.seq ?_
  refine WC.region ?_
  refine WL.v (RV.move rfl) rfl ?_
  refine WL.v (RV.move rfl) rfl ?_
  refine WL.v (RV.len (by first | exact h1) Tryz.underlying31 rfl) rfl ?_
  refine WL.v (RV.lss rfl rfl) rfl ?_
  refine WL.nil ?_
  refine QF.seqNext ?_
  refine WC.cond rfl ?_ ?_
  · intro hlt
    replace hlt : at' < l.length := by have := of_decide_eq_true hlt; omega
    have hne : l.drop at' ≠ [] := fun e => by have := congrArg List.length e; simp at this; omega
    have hsz := decM_size hne
    simp only [List.length_drop] at hsz
    rw [decP_step hne, List.drop_drop] at hps
    refine WC.skip ?_
    refine QF.seqNext ?_
    refine WC.block ?_
    refine WC.seq ?_
    refine WC.region ?_
    refine WL.v (RV.move rfl) rfl ?_
    refine WL.v (RV.move rfl) rfl ?_
    refine WL.call Tryz.call33 rfl (at_ret l bv at' w1 h1 hlt) rfl ?_
    rintro v w2 ⟨rfl, hE2⟩
    have hU2 := hU1.trans (Upd.of_ext (by decide) O1 hE2)
    have hR2 := (Rng.start w).upd hU2
    have hl2 := hl1.upd (Upd.of_ext (S := fun _ => False) (fun h => h) O1 hE2) (by decide) (fun h => h)
    generalize hp : decM (l.drop at') = p at *
    refine WL.allocO hR2 2 (by omega) (Tryz.zeroValue47 _) rfl ?_
    intro x3 w3 O3 hx3 hU3 hR3 hE3
    refine WL.storeAgg (us := #[.int .i32 p.1, .int .i64 p.2.1, .bool p.2.2]) hx3 rfl (Tryz.sizeOf47 _) rfl rfl rfl rfl ?_
    have hs3 : Upd (fun j => j = 2) O3 w3 O3 (w3.setRow x3 #[.int .i32 p.1, .int .i64 p.2.1, .bool p.2.2]) := Upd.setRow (by decide) hx3.tag rfl
    have hx4 := hx3.setRow (us := #[.int .i32 p.1, .int .i64 p.2.1, .bool p.2.2])
    have hl4 := (hl2.upd hU3 (by decide) (by decide)).upd hs3 (by decide) (by decide)
    have hR4 := hR3.upd hs3
    have hU4 := (hU2.trans (hU3.mono (by omega) (by omega))).trans (hs3.mono (by omega) (by omega))
    generalize w3.setRow x3 #[.int .i32 p.1, .int .i64 p.2.1, .bool p.2.2] = w4 at *
    refine WL.nil ?_
    refine QF.seqNext ?_
    refine WC.seq ?_
    refine WC.region ?_
    refine WL.v (RV.move rfl) rfl ?_
    refine WL.v (RV.loadAgg hx4.cellsAdd (Tryz.isAgg47 _) (Tryz.sizeOf47 _) rfl) rfl ?_
    refine WL.push elPce hl4 hR4 (p) (fun _ => rfl) rfl rfl rfl (by simp [Value.oneCell', encP]) (by omega) (by omega) (by omega) (by decide) rfl rfl ?_
    intro lv5 w5 O5 hl5 hU5 hR5
    have hx5 := hx4.upd hU5 (by decide) (by decide)
    refine WL.v (RV.assign rfl) rfl ?_
    refine WL.nil ?_
    refine QF.seqNext ?_
    refine WC.region ?_
    refine WL.v (RV.move rfl) rfl ?_
    refine WL.v (RV.fieldAddr 1 Tryz.underlying47 rfl rfl (Tryz.sizeOf3 _) (by decide) rfl) rfl ?_
    refine WL.v (RV.load (by first | exact hx5.cell 1 rfl) (Tryz.isAgg3 _) rfl) rfl ?_
    refine WL.v (RV.add rfl rfl (Fit.i64 (by omega))) rfl ?_
    refine WL.v (RV.assign rfl) rfl ?_
    refine WL.nil ?_
    refine QF.blockNormal ?_
    refine QF.next ((at' + p.2.1, O5, w5, lv5, ps ++ [p])) (⟨by dsimp only; omega, hl5, by simp; omega, by dsimp only; rw [List.append_assoc]; exact hps, hU4.trans (hU5.mono (by omega) (by omega))⟩) (by dsimp only; omega) ⟨rfl, rfl, rfl, trivial⟩ rfl
  · intro hge
    obtain rfl : at' = l.length := by have := of_decide_eq_false hge; omega
    rw [List.drop_length, decP_nil, List.append_nil] at hps
    refine WC.exit ?_
    refine QF.thenExit ?_
    refine QF.thenExit ?_
    refine QF.blockHit ?_
    refine QF.seqNext ?_
    refine WC.seq ?_
    refine WC.region ?_
    refine WL.v (RV.move rfl) rfl ?_
    refine WL.v (RV.assign rfl) rfl ?_
    refine WL.nil ?_
    refine QF.seqNext ?_
    refine WC.ret ?_
    refine QF.done1 rfl rfl (⟨by rw [← hps]; exact hl1.sl, hU1.ext⟩)
end Go.Proofs.YtakigpnccppheaaGreatDoor
