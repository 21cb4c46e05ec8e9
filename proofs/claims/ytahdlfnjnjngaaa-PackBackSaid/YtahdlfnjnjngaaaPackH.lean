/- Chapter 12's statements, walked: Right. -/
import Derived.Test.YtahdlfnjnjngaaaPackG
namespace Go.Proofs.Ytahdlfnjnjngaaa
open Go.VL Go.Proofs

def wOk (width : Int) (n : Nat) : Bool := decide (1 ≤ width) && decide (width ≤ 64) && decide ((n : Int) ≤ 1000)
def inR (n : Int) : Bool := decide (0 ≤ n) && decide (n ≤ 65535)
theorem badRow_eq (width : Int) (row : List Int) : (!badRow width row) = ((row.length : Int) == width && row.all inR) := by
  simp only [badRow, bne, Bool.not_or, Bool.not_not]; rfl
theorem packBad_eq (width : Int) (L : List (List Int)) : (!packBad width L) = (wOk width L.length && L.all (fun r => !badRow width r)) := by
  simp only [packBad, wOk, Bool.not_or, List.not_any_eq_all_not]
  congr 2
  · congr 1 <;> rw [← decide_not] <;> exact decide_eq_decide.2 (by omega)
  · rw [← decide_not]; exact decide_eq_decide.2 (by omega)

theorem right12_ret (width : Int) (L : List (List Int)) (rv : Value) (w : World) (h : Rows w rv L) :
    Ret Try.prog 11 [.int .i64 width, rv] w fun v w' => v = .bool (!packBad width L) ∧ w = w' := by
  obtain ⟨rvs, hr, hrl, hri⟩ := h
  have hlm := hr.len_le
  refine Ret.enter Try.func11 Try.ntmps11 rfl rfl ?_
  refine WC.seq ?_
  refine WC.region ?_
  refine WL.v (RV.assign rfl) rfl ?_
  refine WL.nil ?_
  refine QF.seqNext ?_
  refine WC.seq ?_
  refine WC.region ?_
  refine WL.v (RV.move rfl) rfl ?_
  refine WL.v (RV.geq rfl rfl) rfl ?_
  refine WL.v (RV.move rfl) rfl ?_
  refine WL.andBS (fun w1 => _ = w1) (decide (width ≤ 64)) 2 (rfl) rfl rfl rfl rfl rfl ?_ ?_
  · skip
    intro h1
    refine WL.on rfl ?_
    refine WL.v (RV.move rfl) rfl ?_
    refine WL.on rfl ?_
    refine WL.v (RV.leq rfl rfl) rfl ?_
    refine WL.nil ?_
    refine QF.andEnd (tA := 10) 3 (rfl) rfl rfl rfl (fun v hv => (Option.some.inj hv).symm.trans (congrArg Value.bool h1)) rfl
  rintro _ rfl
  refine WL.v (RV.move rfl) rfl ?_
  refine WL.andBS (fun w1 => _ = w1) (decide ((rvs.length : Int) ≤ 1000)) 3 (rfl) rfl rfl rfl rfl rfl ?_ ?_
  · skip
    intro h2
    refine WL.on rfl ?_
    refine WL.v (RV.move rfl) rfl ?_
    refine WL.on rfl ?_
    refine WL.v (RV.len (by first | exact hr) Try.underlying22 rfl) rfl ?_
    refine WL.on rfl ?_
    refine WL.v (RV.leq rfl rfl) rfl ?_
    refine WL.nil ?_
    refine QF.andEnd (tA := 14) 4 (rfl) rfl rfl rfl (fun v hv => (Option.some.inj hv).symm.trans (congrArg Value.bool h2)) rfl
  rintro _ rfl
  refine WL.v (RV.assign rfl) rfl ?_
  refine WL.nil ?_
  refine QF.seqNext ?_
  refine WC.seq ?_
  refine WC.seq ?_
  refine WC.region ?_
  refine WL.v (RV.assign rfl) rfl ?_
  refine WL.nil ?_
  refine QF.seqNext ?_
  refine WC.block ?_
  rw [hrl]
  refine WC.loop (fun x : Nat × Bool => [(0, .int .i64 width), (1, rv), (5, .bool x.2), (6, .int .i64 x.1)]) (fun x : Nat × Bool => w) (fun x : Nat × Bool => x.1 ≤ L.length ∧ x.2 = (wOk width L.length && (L.take x.1).all (fun r => !badRow width r))) (fun x : Nat × Bool => L.length - x.1) (0, _) (⟨Nat.zero_le _, by simp only [List.take_zero, List.all_nil, Bool.and_true]; rfl⟩) ⟨rfl, rfl, rfl, rfl, trivial⟩ rfl ?_
  rintro ⟨i, ok⟩ ⟨hi, hok⟩
  dsimp only at hi hok ⊢
  refine WC.seq ?_
  refine WC.seq ?_
  refine WC.region ?_
  refine WL.v (RV.move rfl) rfl ?_
  refine WL.v (RV.move rfl) rfl ?_
  refine WL.v (RV.len (by first | exact hr) Try.underlying22 rfl) rfl ?_
  refine WL.v (RV.lss rfl rfl) rfl ?_
  refine WL.v (RV.move rfl) rfl ?_
  refine WL.andBS (fun w1 => _ = w1) (ok) 1 (rfl) rfl rfl rfl rfl rfl ?_ ?_
  · skip
    intro h1
    refine WL.on rfl ?_
    refine WL.v (RV.move rfl) rfl ?_
    refine WL.nil ?_
    refine QF.andEnd (tA := 23) 2 (rfl) rfl rfl rfl (fun v hv => (Option.some.inj hv).symm.trans (congrArg Value.bool h1)) rfl
  rintro _ rfl
  rw [hrl]
  refine WL.nil ?_
  refine QF.seqNext ?_
  refine WC.cond rfl ?_ ?_
  · intro hlt
    have hok1 : ok = true := by rw [Bool.and_eq_true] at hlt; exact hlt.2
    replace hlt : i < L.length := by rw [Bool.and_eq_true] at hlt; have := of_decide_eq_true hlt.1; omega
    have hri' := hri i hlt
    have hrim := hri'.len_le
    refine WC.skip ?_
    refine QF.seqNext ?_
    refine WC.seq ?_
    refine WC.block ?_
    refine WC.seq ?_
    refine WC.region ?_
    refine WL.v (RV.move rfl) rfl ?_
    refine WL.v (RV.move rfl) rfl ?_
    refine WL.v (RV.indexAddr (by first | exact hr | exact hri') Try.underlying22 (Try.sizeOf25 _) rfl rfl _ rfl (by omega)) rfl ?_
    refine WL.v (RV.load (by first | exact hr.ld (by omega) | exact hri'.ld (by omega)) (Try.isAgg25 _) rfl) rfl ?_
    refine WL.v (RV.len (by first | exact hr | exact hri') Try.underlying25 rfl) rfl ?_
    refine WL.v (RV.move rfl) rfl ?_
    refine WL.v (RV.eql rfl rfl) rfl ?_
    refine WL.v (RV.assign rfl) rfl ?_
    refine WL.nil ?_
    refine QF.seqNext ?_
    refine WC.seq ?_
    refine WC.region ?_
    refine WL.v (RV.assign rfl) rfl ?_
    refine WL.nil ?_
    refine QF.seqNext ?_
    refine WC.block ?_
    refine WC.loop (fun x : Nat × Bool => [(0, .int .i64 width), (1, rv), (5, .bool x.2), (6, .int .i64 i), (7, .int .i64 x.1)]) (fun x : Nat × Bool => w) (fun x : Nat × Bool => x.1 ≤ (nth L i).length ∧ x.2 = (((nth L i).length : Int) == width && ((nth L i).take x.1).all inR)) (fun x : Nat × Bool => (nth L i).length - x.1) (0, _) (⟨Nat.zero_le _, by simp⟩) ⟨rfl, rfl, rfl, rfl, rfl, trivial⟩ rfl ?_
    rintro ⟨k, ok2⟩ ⟨hk, hok2⟩
    dsimp only at hk hok2 ⊢
    refine WC.seq ?_
    refine WC.seq ?_
    refine WC.region ?_
    refine WL.v (RV.move rfl) rfl ?_
    refine WL.v (RV.move rfl) rfl ?_
    refine WL.v (RV.move rfl) rfl ?_
    refine WL.v (RV.indexAddr (by first | exact hr | exact hri') Try.underlying22 (Try.sizeOf25 _) rfl rfl _ rfl (by omega)) rfl ?_
    refine WL.v (RV.load (by first | exact hr.ld (by omega) | exact hri'.ld (by omega)) (Try.isAgg25 _) rfl) rfl ?_
    refine WL.v (RV.len (by first | exact hr | exact hri') Try.underlying25 rfl) rfl ?_
    refine WL.v (RV.lss rfl rfl) rfl ?_
    refine WL.nil ?_
    refine QF.seqNext ?_
    refine WC.cond rfl ?_ ?_
    · intro hltk
      replace hltk : k < (nth L i).length := by have := of_decide_eq_true hltk; omega
      refine WC.skip ?_
      refine QF.seqNext ?_
      refine WC.seq ?_
      refine WC.block ?_
      refine WC.region ?_
      refine WL.v (RV.move rfl) rfl ?_
      refine WL.v (RV.move rfl) rfl ?_
      refine WL.andBS (fun w1 => _ = w1) (decide (0 ≤ nth (nth L i) k)) 8 (rfl) rfl rfl rfl rfl rfl ?_ ?_
      · skip
        intro h1
        refine WL.on rfl ?_
        refine WL.v (RV.move rfl) rfl ?_
        refine WL.on rfl ?_
        refine WL.v (RV.move rfl) rfl ?_
        refine WL.on rfl ?_
        refine WL.v (RV.indexAddr (by first | exact hr | exact hri') Try.underlying22 (Try.sizeOf25 _) rfl rfl _ rfl (by omega)) rfl ?_
        refine WL.on rfl ?_
        refine WL.v (RV.load (by first | exact hr.ld (by omega) | exact hri'.ld (by omega)) (Try.isAgg25 _) rfl) rfl ?_
        refine WL.on rfl ?_
        refine WL.v (RV.move rfl) rfl ?_
        refine WL.on rfl ?_
        refine WL.v (RV.indexAddr (by first | exact hr | exact hri') Try.underlying25 (Try.sizeOf3 _) rfl rfl _ rfl (by omega)) rfl ?_
        refine WL.on rfl ?_
        refine WL.v (RV.load (by first | exact hr.ld (by omega) | exact hri'.ld (by omega)) (Try.isAgg3 _) rfl) rfl ?_
        refine WL.on rfl ?_
        refine WL.v (RV.geq rfl rfl) rfl ?_
        refine WL.nil ?_
        refine QF.andEnd (tA := 45) 9 (rfl) rfl rfl rfl (fun v hv => (Option.some.inj hv).symm.trans (congrArg Value.bool h1)) rfl
      rintro _ rfl
      refine WL.v (RV.move rfl) rfl ?_
      refine WL.andBS (fun w1 => _ = w1) (decide (nth (nth L i) k ≤ 65535)) 8 (rfl) rfl rfl rfl rfl rfl ?_ ?_
      · skip
        intro h2
        refine WL.on rfl ?_
        refine WL.v (RV.move rfl) rfl ?_
        refine WL.on rfl ?_
        refine WL.v (RV.move rfl) rfl ?_
        refine WL.on rfl ?_
        refine WL.v (RV.indexAddr (by first | exact hr | exact hri') Try.underlying22 (Try.sizeOf25 _) rfl rfl _ rfl (by omega)) rfl ?_
        refine WL.on rfl ?_
        refine WL.v (RV.load (by first | exact hr.ld (by omega) | exact hri'.ld (by omega)) (Try.isAgg25 _) rfl) rfl ?_
        refine WL.on rfl ?_
        refine WL.v (RV.move rfl) rfl ?_
        refine WL.on rfl ?_
        refine WL.v (RV.indexAddr (by first | exact hr | exact hri') Try.underlying25 (Try.sizeOf3 _) rfl rfl _ rfl (by omega)) rfl ?_
        refine WL.on rfl ?_
        refine WL.v (RV.load (by first | exact hr.ld (by omega) | exact hri'.ld (by omega)) (Try.isAgg3 _) rfl) rfl ?_
        refine WL.on rfl ?_
        refine WL.v (RV.leq rfl rfl) rfl ?_
        refine WL.nil ?_
        refine QF.andEnd (tA := 55) 9 (rfl) rfl rfl rfl (fun v hv => (Option.some.inj hv).symm.trans (congrArg Value.bool h2)) rfl
      rintro _ rfl
      refine WL.v (RV.assign rfl) rfl ?_
      refine WL.nil ?_
      refine QF.blockNormal ?_
      refine QF.seqNext ?_
      refine WC.region ?_
      refine WL.v (RV.move rfl) rfl ?_
      refine WL.v (RV.add rfl rfl (Fit.i64 (by omega))) rfl ?_
      refine WL.v (RV.assign rfl) rfl ?_
      refine WL.nil ?_
      refine QF.next ((k + 1, (ok2 && decide (0 ≤ nth (nth L i) k)) && decide (nth (nth L i) k ≤ 65535))) (⟨hltk, by dsimp only; rw [take_nth hltk, List.all_append, hok2]; simp [inR, Bool.and_assoc]⟩) (by omega) ⟨rfl, rfl, rfl, rfl, rfl, trivial⟩ rfl
    · intro hge
      replace hge : (nth L i).length ≤ k := by have := of_decide_eq_false hge; omega
      rw [List.take_of_length_le hge, ← badRow_eq] at hok2
      refine WC.exit ?_
      refine QF.thenExit ?_
      refine QF.thenExit ?_
      refine QF.blockHit ?_
      refine QF.blockNormal ?_
      refine QF.seqNext ?_
      refine WC.region ?_
      refine WL.v (RV.move rfl) rfl ?_
      refine WL.v (RV.add rfl rfl (Fit.i64 (by omega))) rfl ?_
      refine WL.v (RV.assign rfl) rfl ?_
      refine WL.nil ?_
      refine QF.next ((i + 1, ok2)) (⟨hlt, by rw [take_nth hlt, List.all_append, ← Bool.and_assoc, ← hok, hok1]; simp [hok2]⟩) (by omega) ⟨rfl, rfl, rfl, rfl, trivial⟩ rfl
  · intro hge
    refine WC.exit ?_
    refine QF.thenExit ?_
    refine QF.thenExit ?_
    refine QF.blockHit ?_
    refine QF.seqNext ?_
    refine WC.seq ?_
    refine WC.region ?_
    refine WL.v (RV.move rfl) rfl ?_
    refine WL.v (RV.assign rfl) rfl ?_
    refine WL.nil ?_
    refine QF.seqNext ?_
    refine WC.ret ?_
    refine QF.done1 rfl rfl (⟨?_, rfl⟩)
    rw [packBad_eq]
    rw [Bool.and_eq_false_iff] at hge
    rcases hge with h | h
    · have : L.length ≤ i := by have := of_decide_eq_false h; omega
      rw [hok, List.take_of_length_le this]
    · rw [h] at hok ⊢
      have e : L = L.take i ++ L.drop i := (List.take_append_drop i L).symm
      rw [e, List.all_append, ← e, ← Bool.and_assoc, ← hok]; rfl
end Go.Proofs.Ytahdlfnjnjngaaa
