/- Plain words: a text is plain just if it is valid and holds no escape byte; what is laid at each place. Package escape, walked: Plain. -/
import Derived.Test.YtakigpnccppheaaGreatDoorReplB
import Derived.Test.YtakigpnccppheaaGreatDoorEscE
namespace Go.Proofs.YtakigpnccppheaaGreatDoor
open Go.VL Go.Proofs
set_option maxRecDepth 4000

theorem ofNat_ne27 (k : Nat) (h : 28 ≤ k) (h2 : k < 256) : (27 : UInt8) ≠ UInt8.ofNat k := fun e => by
  have := congrArg UInt8.toNat e
  rw [ofNat_toNat h2] at this
  have : k = 27 := this.symm
  omega
theorem tailB_27 (r : Nat) : ∀ d, (27 : UInt8) ∉ tailB r d
  | 0 => by simp [tailB]
  | d + 1 => by
    simp only [tailB, List.mem_cons, not_or]
    exact ⟨ofNat_ne27 _ (by omega) (by have := Nat.mod_lt (r / 64 ^ d) (by decide : 64 > 0); omega), tailB_27 r d⟩
theorem putN_27 (r : Nat) (hr : r ≤ 1114111) : (27 : UInt8) ∈ putN r ↔ r = 27 := by
  unfold putN
  split
  · rename_i h
    simp only [List.mem_singleton]
    constructor
    · intro e
      have := congrArg UInt8.toNat e
      rw [ofNat_toNat (by omega)] at this
      exact this.symm
    · rintro rfl; rfl
  · rename_i h
    have key : ∀ n, 28 ≤ leadOf n + r / 64 ^ (n - 1) → leadOf n + r / 64 ^ (n - 1) < 256 → ((27 : UInt8) ∈ putB r n ↔ r = 27) := fun n h1 h2 => by
      unfold putB
      simp only [List.mem_cons]
      constructor
      · rintro (e | e)
        · exact absurd e (ofNat_ne27 _ h1 h2)
        · exact absurd e (tailB_27 _ _)
      · intro e; omega
    split
    · exact key 2 (by simp [leadOf]; omega) (by simp [leadOf]; omega)
    · split
      · exact key 3 (by simp [leadOf]; omega) (by simp [leadOf]; omega)
      · exact key 4 (by simp [leadOf]; omega) (by simp [leadOf]; omega)
theorem putM_27 (r : Int) : (27 : UInt8) ∈ putM r ↔ r = 27 := by
  unfold putM
  split
  · rename_i h
    have h2 : 0 ≤ r ∧ r ≤ 1114111 := by simp only [rightR, Bool.and_eq_true, decide_eq_true_eq] at h; exact h.1
    rw [putN_27 _ (by omega)]; omega
  · rename_i h
    rw [putN_27 _ (by decide)]
    constructor
    · intro e; omega
    · rintro rfl; exact absurd (by decide) h
theorem plain_law : ∀ (n : Nat) (L : List UInt8), L.length ≤ n → plainM L = (validM L && !(decide ((27 : UInt8) ∈ L)))
  | 0, L, h => by obtain rfl : L = [] := List.eq_nil_of_length_eq_zero (by omega); simp [plainM, validM, decP_nil]
  | n + 1, L, h => by
    by_cases e : L = []
    · subst e; simp [plainM, validM, decP_nil]
    · have h1 := (decM_size e).1
      have ih := plain_law n (L.drop (decM L).2.1) (by simp; omega)
      unfold plainM validM at ih ⊢
      rw [decP_step e, List.all_cons, List.all_cons, ih]
      cases hw : (decM L).2.2 with
      | false => simp
      | true =>
        have hp := put_dec hw
        have hm := putM_27 (decM L).1
        rw [hp] at hm
        have hsplit : (27 : UInt8) ∈ L ↔ (27 : UInt8) ∈ L.take (decM L).2.1 ∨ (27 : UInt8) ∈ L.drop (decM L).2.1 := by
          conv => lhs; rw [← List.take_append_drop (decM L).2.1 L]
          exact List.mem_append
        rw [hm] at hsplit
        by_cases h27 : (decM L).1 = 27
        · have : (27 : UInt8) ∈ L := hsplit.2 (.inl h27)
          simp [h27, this]
        · have h2 : ((27 : UInt8) ∈ L) = ((27 : UInt8) ∈ L.drop (decM L).2.1) := by
            rw [hsplit]; simp [h27]
          have h3 : ((decM L).1 != 27) = true := by simp [h27]
          simp only [h2, h3, Bool.true_and, Bool.and_true]
theorem plain_valid {L : List UInt8} (h : plainM L = true) {i : Nat} (hi : i < (decP L).length) : (nth (decP L) i).2.2 = true := by
  unfold plainM at h
  rw [List.all_eq_true] at h
  have := h _ (List.getElem_mem hi)
  rw [nth_eq hi]
  simp only [Bool.and_eq_true] at this
  exact this.1
/-- What a plain text's scalar is put as. -/
theorem plain_put {L : List UInt8} (h : plainM L = true) {i : Nat} (hi : i < (decP L).length) : putM (nth (decP L) i).1 = (L.take (atOf (decP L) (i + 1))).drop (atOf (decP L) i) := by
  have hv := plain_valid h hi
  have hd := ((decP_drop L i (by omega)).2 hi).1
  rw [← hd] at hv
  have hp := put_dec hv
  rw [hd] at hp
  rw [hp, atOf_succ _ _ hi, List.take_drop]

theorem escPlain_ret (l : List UInt8) (w : World) (hl : l.length ≤ 1000000) : Ret Tryz.prog 8 [.string (bs l)] w fun v w' => v = .bool (plainM l) ∧ Ext w w' := by
  have hlaw := plain_law _ l (Nat.le_refl _)
  refine Ret.enter Tryz.func8 Tryz.ntmps8 rfl rfl ?_
  refine WC.seq ?_
  refine WC.region ?_
  refine WL.v (RV.assign rfl) rfl ?_
  refine WL.nil ?_
  refine QF.seqNext ?_
  refine WC.seq ?_
  refine WC.region ?_
  refine WL.v (RV.move rfl) rfl ?_
  refine WL.bytesOf Tryz.underlying9 Tryz.underlying31 Tryz.underlying5 rfl (by omega) rfl ?_
  intro bv w1 hb hE1
  refine WL.call Tryz.call17 rfl (valid_ret l bv w1 hb) rfl ?_
  rintro v w2 ⟨rfl, hE2⟩
  refine WL.v (RV.move rfl) rfl ?_
  cases hv : validM l with
  | false =>
    rw [hv, Bool.false_and] at hlaw
    refine WL.know (d := 6) rfl (b' := false) (rfl) ?_
    refine WL.off rfl rfl rfl ?_
    refine WL.off rfl rfl rfl ?_
    refine WL.off rfl rfl rfl ?_
    refine WL.v (RV.pickF rfl rfl) rfl ?_
    refine WL.v (RV.assign rfl) rfl ?_
    refine WL.nil ?_
    refine QF.seqNext ?_
    refine WC.ret ?_
    refine QF.done1 rfl rfl (⟨by rw [hlaw], hE1.trans hE2⟩)
  | true =>
    rw [hv, Bool.true_and] at hlaw
    refine WL.know (d := 6) rfl (b' := true) (rfl) ?_
    refine WL.on rfl ?_
    refine WL.v (RV.move rfl) rfl ?_
    refine WL.on rfl ?_
    refine WL.call Tryz.call18 rfl (contains1_ret l 27 w2) rfl ?_
    rintro v _ ⟨rfl, rfl⟩
    refine WL.on rfl ?_
    refine WL.v (RV.not rfl) rfl ?_
    refine WL.v (RV.pickT rfl rfl) rfl ?_
    refine WL.v (RV.assign rfl) rfl ?_
    refine WL.nil ?_
    refine QF.seqNext ?_
    refine WC.ret ?_
    refine QF.done1 rfl rfl (⟨by rw [hlaw], hE1.trans hE2⟩)
end Go.Proofs.YtakigpnccppheaaGreatDoor
