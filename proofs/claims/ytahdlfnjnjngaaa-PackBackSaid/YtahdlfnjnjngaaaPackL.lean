/- Chapter 12 by the document: the usual entry, and whether a slot is taken. -/
import Derived.Test.YtahdlfnjnjngaaaPackP
import Derived.Test.YtahdlfnjnjngaaaVe
namespace Go.Proofs.Ytahdlfnjnjngaaa
open Go.VL Go.Proofs

def bstep (row : List Int) (s : Int × Nat) (n : Int) : Int × Nat := if s.2 < row.count n ∨ (row.count n = s.2 ∧ n < s.1) then (n, row.count n) else s
def bestTo (row : List Int) (i : Nat) : Int × Nat := (row.take i).foldl (bstep row) (0, 0)
theorem bestTo_succ (row : List Int) (i : Nat) (hi : i < row.length) : bestTo row (i + 1) = bstep row (bestTo row i) (nth row i) := by
  simp only [bestTo]; rw [take_nth hi, List.foldl_append]; rfl
theorem bstep_fold (row : List Int) : ∀ (l : List Int) (b : Int), l.foldl (bstep row) (b, row.count b) = (l.foldl (ustep row) b, row.count (l.foldl (ustep row) b))
  | [], b => rfl
  | n :: l, b => by
    simp only [List.foldl_cons]
    have : bstep row (b, row.count b) n = (ustep row b n, row.count (ustep row b n)) := by
      by_cases h : row.count b < row.count n ∨ (row.count n = row.count b ∧ n < b)
      · rw [bstep, ustep, if_pos h, if_pos (by simp only [cnt]; omega)]
      · rw [bstep, ustep, if_neg h, if_neg (by simp only [cnt]; omega)]
    rw [this]; exact bstep_fold row l _
theorem bestTo_usual (row : List Int) : (bestTo row row.length).1 = usualM row := by
  simp only [bestTo, List.take_length, usualM]
  cases row with
  | nil => show (0 : Int) = nth [] 0; simp [nth]
  | cons a l =>
    rw [nth_cons0]
    simp only [List.foldl_cons]
    have h1 : bstep (a :: l) (0, 0) a = (a, (a :: l).count a) := by
      have : 0 < (a :: l).count a := by simp
      simp only [bstep]; rw [if_pos (.inl this)]
    have h2 : ustep (a :: l) a a = a := by simp [ustep]
    rw [h1, h2, bstep_fold]
theorem count_le (l : List Int) (n : Int) : l.count n ≤ l.length := List.count_le_length
theorem bestTo_le (row : List Int) (i : Nat) : (bestTo row i).2 ≤ row.length := by
  have : ∀ (l : List Int) (s : Int × Nat), s.2 ≤ row.length → (l.foldl (bstep row) s).2 ≤ row.length := by
    intro l
    induction l with
    | nil => intro s h; exact h
    | cons n l ih =>
      intro s h
      refine ih _ ?_
      unfold bstep
      split
      · exact count_le row n
      · exact h
  exact this _ _ (Nat.zero_le _)

theorem refUsual_ret (row : List Int) (rv : Value) (w : World) (h : Ints w rv row) :
    Ret Try.prog 27 [rv] w fun v w' => v = .int .i64 (usualM row) ∧ Ext w w' := by
  have hm := h.len_le
  refine Ret.enter Try.func27 Try.ntmps27 rfl rfl ?_
  refine WC.seq ?_
  refine WC.region ?_
  refine WL.v (RV.assign rfl) rfl ?_
  refine WL.nil ?_
  refine QF.seqNext ?_
  refine WC.seq ?_
  refine WC.region ?_
  refine WL.v (RV.assign rfl) rfl ?_
  refine WL.v (RV.assign rfl) rfl ?_
  refine WL.nil ?_
  refine QF.seqNext ?_
  refine WC.seq ?_
  refine WC.seq ?_
  refine WC.region ?_
  refine WL.v (RV.assign rfl) rfl ?_
  refine WL.nil ?_
  refine QF.seqNext ?_
  refine WC.block ?_
  refine WC.loop (fun x : Nat × World => [(0, rv), (3, .int .i64 (bestTo row x.1).1), (4, .int .i64 (bestTo row x.1).2), (5, .int .i64 x.1)]) (fun x : Nat × World => x.2) (fun x : Nat × World => x.1 ≤ row.length ∧ Ext w x.2) (fun x : Nat × World => row.length - x.1) (0, w) (⟨Nat.zero_le _, Ext.refl _⟩) ⟨rfl, rfl, rfl, rfl, trivial⟩ rfl ?_
  rintro ⟨i, w1⟩ ⟨hi, hE1⟩
  dsimp only at hi hE1 ⊢
  have hbl := bestTo_le row i
  refine WC.seq ?_
  refine WC.seq ?_
  refine WC.region ?_
  refine WL.v (RV.move rfl) rfl ?_
  refine WL.v (RV.move rfl) rfl ?_
  refine WL.v (RV.len (by first | exact h.ext hE1) Try.underlying25 rfl) rfl ?_
  refine WL.v (RV.lss rfl rfl) rfl ?_
  refine WL.nil ?_
  refine QF.seqNext ?_
  refine WC.cond rfl ?_ ?_
  · intro hlt
    replace hlt : i < row.length := by have := of_decide_eq_true hlt; omega
    have hs := bestTo_succ row i hlt
    refine WC.skip ?_
    refine QF.seqNext ?_
    refine WC.seq ?_
    refine WC.block ?_
    refine WC.seq ?_
    refine WC.region ?_
    refine WL.v (RV.assign rfl) rfl ?_
    refine WL.nil ?_
    refine QF.seqNext ?_
    refine WC.seq ?_
    refine WC.seq ?_
    refine WC.region ?_
    refine WL.v (RV.assign rfl) rfl ?_
    refine WL.nil ?_
    refine QF.seqNext ?_
    refine WC.block ?_
    refine WC.loop (fun y : Nat × World => [(0, rv), (3, .int .i64 (bestTo row i).1), (4, .int .i64 (bestTo row i).2), (5, .int .i64 i), (6, .int .i64 ((row.take y.1).count (nth row i))), (7, .int .i64 y.1)]) (fun y : Nat × World => y.2) (fun y : Nat × World => y.1 ≤ row.length ∧ Ext w y.2) (fun y : Nat × World => row.length - y.1) (0, w1) (⟨Nat.zero_le _, hE1⟩) ⟨rfl, rfl, rfl, rfl, rfl, rfl, trivial⟩ rfl ?_
    rintro ⟨k, w2⟩ ⟨hk, hE2⟩
    dsimp only at hk hE2 ⊢
    have h2 := h.ext hE2
    have hc := count_le (row.take k) (nth row i)
    have hc2 : (row.take k).length ≤ k := by simp; omega
    refine WC.seq ?_
    refine WC.seq ?_
    refine WC.region ?_
    refine WL.v (RV.move rfl) rfl ?_
    refine WL.v (RV.move rfl) rfl ?_
    refine WL.v (RV.len (by first | exact h2) Try.underlying25 rfl) rfl ?_
    refine WL.v (RV.lss rfl rfl) rfl ?_
    refine WL.nil ?_
    refine QF.seqNext ?_
    refine WC.cond rfl ?_ ?_
    · intro hlt2
      replace hlt2 : k < row.length := by have := of_decide_eq_true hlt2; omega
      have hs2 : (row.take (k + 1)).count (nth row i) = (row.take k).count (nth row i) + (if nth row k = nth row i then 1 else 0) := by
        rw [take_nth hlt2, List.count_append]
        by_cases he : nth row k = nth row i <;> simp [he]
      refine WC.skip ?_
      refine QF.seqNext ?_
      refine WC.seq ?_
      refine WC.block ?_
      refine WC.seq ?_
      refine WC.still (by kernel_rfl) (by kernel_rfl) ?_
      refine WS.v (RV.move rfl) rfl ?_
      refine WS.v (RV.move rfl) rfl ?_
      refine WS.v (RV.indexAddr (by first | exact (h2).drew) Try.underlying25 (Try.sizeOf3 _) rfl rfl _ rfl (by omega)) rfl ?_
      refine WS.v (RV.load (by first | exact h2.drew.ld (by omega)) (Try.isAgg3 _) rfl) rfl ?_
      refine WS.v (RV.move rfl) rfl ?_
      refine WS.v (RV.move rfl) rfl ?_
      refine WS.v (RV.indexAddr (by first | exact (h2).drew) Try.underlying25 (Try.sizeOf3 _) rfl rfl _ rfl (by omega)) rfl ?_
      refine WS.v (RV.load (by first | exact h2.drew.ld (by omega)) (Try.isAgg3 _) rfl) rfl ?_
      refine WS.v (RV.eql rfl rfl) rfl ?_
      refine WS.nil ?_
      refine QF.seqNext ?_
      refine WC.cond rfl ?_ ?_
      · intro he
        replace he : nth row k = nth row i := by simpa using he
        rw [if_pos he] at hs2
        refine WC.region ?_
        refine WL.v (RV.move rfl) rfl ?_
        refine WL.v (RV.add rfl rfl (Fit.i64 (by omega))) rfl ?_
        refine WL.v (RV.assign rfl) rfl ?_
        refine WL.nil ?_
        refine QF.blockNormal ?_
        refine QF.seqNext ?_
        refine WC.region ?_
        refine WL.v (RV.move rfl) rfl ?_
        refine WL.v (RV.add rfl rfl (Fit.i64 (by omega))) rfl ?_
        refine WL.v (RV.assign rfl) rfl ?_
        refine WL.nil ?_
        refine QF.next (k + 1, w2.drew) ⟨hlt2, hE2.drew⟩ (by dsimp only; omega) ⟨rfl, rfl, rfl, rfl, ?_, rfl, trivial⟩ rfl
        dsimp only
        rw [hs2]; rfl
      · intro he
        replace he : nth row k ≠ nth row i := by simpa using he
        rw [if_neg he] at hs2
        refine WC.skip ?_
        refine QF.blockNormal ?_
        refine QF.seqNext ?_
        refine WC.region ?_
        refine WL.v (RV.move rfl) rfl ?_
        refine WL.v (RV.add rfl rfl (Fit.i64 (by omega))) rfl ?_
        refine WL.v (RV.assign rfl) rfl ?_
        refine WL.nil ?_
        refine QF.next (k + 1, w2.drew) ⟨hlt2, hE2.drew⟩ (by dsimp only; omega) ⟨rfl, rfl, rfl, rfl, ?_, rfl, trivial⟩ rfl
        dsimp only
        rw [hs2]; rfl
    · intro hge
      obtain rfl : k = row.length := by have := of_decide_eq_false hge; omega
      rw [List.take_length]
      refine WC.exit ?_
      refine QF.thenExit ?_
      refine QF.thenExit ?_
      refine QF.blockHit ?_
      refine QF.seqNext ?_
      refine WC.seq ?_
      refine WC.region ?_
      refine WL.v (RV.move rfl) rfl ?_
      refine WL.v (RV.move rfl) rfl ?_
      refine WL.v (RV.gtr rfl rfl) rfl ?_
      refine WL.v (RV.move rfl) rfl ?_
      have fin : ∀ (s : Int × Nat), bstep row (bestTo row i) (nth row i) = s → bestTo row (i + 1) = s := fun s hs' => by rw [hs, hs']
      by_cases a1 : (bestTo row i).2 < row.count (nth row i)
      · have r := fin _ (by rw [bstep, if_pos (.inl a1)])
        refine WL.know (d := 34) rfl (b' := true) (decide_eq_true (by omega)) ?_
        refine WL.off rfl rfl rfl ?_
        refine WL.off rfl rfl rfl ?_
        refine WL.off rfl rfl rfl ?_
        refine WL.off rfl rfl rfl ?_
        refine WL.offU rfl rfl ?_
        refine WL.offU rfl rfl ?_
        refine WL.offU rfl rfl ?_
        refine WL.offU rfl rfl ?_
        refine WL.offU rfl rfl ?_
        refine WL.offU rfl rfl ?_
        refine WL.off rfl rfl rfl ?_
        refine WL.v (RV.pickT rfl rfl) rfl ?_
        refine WL.nil ?_
        refine QF.seqNext ?_
        refine WC.condT rfl rfl ?_
        refine WC.region ?_
        refine WL.v (RV.move rfl) rfl ?_
        refine WL.v (RV.move rfl) rfl ?_
        refine WL.v (RV.indexAddr (by first | exact h2) Try.underlying25 (Try.sizeOf3 _) rfl rfl _ rfl (by omega)) rfl ?_
        refine WL.v (RV.load (by first | exact h2.ld (by omega)) (Try.isAgg3 _) rfl) rfl ?_
        refine WL.v (RV.move rfl) rfl ?_
        refine WL.v (RV.assign rfl) rfl ?_
        refine WL.v (RV.assign rfl) rfl ?_
        refine WL.nil ?_
        refine QF.blockNormal ?_
        refine QF.seqNext ?_
        refine WC.region ?_
        refine WL.v (RV.move rfl) rfl ?_
        refine WL.v (RV.add rfl rfl (Fit.i64 (by omega))) rfl ?_
        refine WL.v (RV.assign rfl) rfl ?_
        refine WL.nil ?_
        refine QF.next (i + 1, w2) ⟨hlt, hE2⟩ (by dsimp only; omega) ⟨rfl, ?_, ?_, rfl, trivial⟩ rfl
        · dsimp only; rw [r]; rfl
        · dsimp only; rw [r]; rfl
      · skip
        refine WL.know (d := 34) rfl (b' := false) (decide_eq_false (by omega)) ?_
        refine WL.on rfl ?_
        refine WL.v (RV.move rfl) rfl ?_
        refine WL.on rfl ?_
        refine WL.v (RV.move rfl) rfl ?_
        refine WL.on rfl ?_
        refine WL.v (RV.eql rfl rfl) rfl ?_
        refine WL.on rfl ?_
        refine WL.v (RV.move rfl) rfl ?_
        by_cases a2 : row.count (nth row i) = (bestTo row i).2
        · skip
          refine WL.know (d := 38) rfl (b' := true) (by rw [a2]; simp) ?_
          refine WL.on rfl ?_
          refine WL.v (RV.move rfl) rfl ?_
          refine WL.on rfl ?_
          refine WL.v (RV.move rfl) rfl ?_
          refine WL.on rfl ?_
          refine WL.v (RV.indexAddr (by first | exact h2) Try.underlying25 (Try.sizeOf3 _) rfl rfl _ rfl (by omega)) rfl ?_
          refine WL.on rfl ?_
          refine WL.v (RV.load (by first | exact h2.ld (by omega)) (Try.isAgg3 _) rfl) rfl ?_
          refine WL.on rfl ?_
          refine WL.v (RV.move rfl) rfl ?_
          refine WL.on rfl ?_
          refine WL.v (RV.lss rfl rfl) rfl ?_
          refine WL.on rfl ?_
          refine WL.v (RV.pickT rfl rfl) rfl ?_
          refine WL.v (RV.pickF rfl rfl) rfl ?_
          refine WL.nil ?_
          refine QF.seqNext ?_
          refine WC.cond rfl ?_ ?_
          · intro a3
            replace a3 : nth row i < (bestTo row i).1 := of_decide_eq_true a3
            have r := fin _ (by rw [bstep, if_pos (.inr ⟨a2, a3⟩)])
            refine WC.region ?_
            refine WL.v (RV.move rfl) rfl ?_
            refine WL.v (RV.move rfl) rfl ?_
            refine WL.v (RV.indexAddr (by first | exact h2) Try.underlying25 (Try.sizeOf3 _) rfl rfl _ rfl (by omega)) rfl ?_
            refine WL.v (RV.load (by first | exact h2.ld (by omega)) (Try.isAgg3 _) rfl) rfl ?_
            refine WL.v (RV.move rfl) rfl ?_
            refine WL.v (RV.assign rfl) rfl ?_
            refine WL.v (RV.assign rfl) rfl ?_
            refine WL.nil ?_
            refine QF.blockNormal ?_
            refine QF.seqNext ?_
            refine WC.region ?_
            refine WL.v (RV.move rfl) rfl ?_
            refine WL.v (RV.add rfl rfl (Fit.i64 (by omega))) rfl ?_
            refine WL.v (RV.assign rfl) rfl ?_
            refine WL.nil ?_
            refine QF.next (i + 1, w2) ⟨hlt, hE2⟩ (by dsimp only; omega) ⟨rfl, ?_, ?_, rfl, trivial⟩ rfl
            · dsimp only; rw [r]; rfl
            · dsimp only; rw [r]; rfl
          · intro a3
            replace a3 : ¬ nth row i < (bestTo row i).1 := of_decide_eq_false a3
            have r := fin _ (by rw [bstep, if_neg (fun h => h.elim a1 fun h => a3 h.2)])
            refine WC.skip ?_
            refine QF.blockNormal ?_
            refine QF.seqNext ?_
            refine WC.region ?_
            refine WL.v (RV.move rfl) rfl ?_
            refine WL.v (RV.add rfl rfl (Fit.i64 (by omega))) rfl ?_
            refine WL.v (RV.assign rfl) rfl ?_
            refine WL.nil ?_
            refine QF.next (i + 1, w2) ⟨hlt, hE2⟩ (by dsimp only; omega) ⟨rfl, ?_, ?_, rfl, trivial⟩ rfl
            · dsimp only; rw [r]; rfl
            · dsimp only; rw [r]; rfl
        · have r := fin _ (by rw [bstep, if_neg (fun h => h.elim a1 fun h => a2 h.1)])
          refine WL.know (d := 38) rfl (b' := false) (by simpa using (fun h : (row.count (nth row i) : Int) = ((bestTo row i).2 : Int) => a2 (by omega))) ?_
          refine WL.off rfl rfl rfl ?_
          refine WL.off rfl rfl rfl ?_
          refine WL.off rfl rfl rfl ?_
          refine WL.off rfl rfl rfl ?_
          refine WL.off rfl rfl rfl ?_
          refine WL.off rfl rfl rfl ?_
          refine WL.on rfl ?_
          refine WL.v (RV.pickF rfl rfl) rfl ?_
          refine WL.v (RV.pickF rfl rfl) rfl ?_
          refine WL.nil ?_
          refine QF.seqNext ?_
          refine WC.condF rfl rfl ?_
          refine WC.skip ?_
          refine QF.blockNormal ?_
          refine QF.seqNext ?_
          refine WC.region ?_
          refine WL.v (RV.move rfl) rfl ?_
          refine WL.v (RV.add rfl rfl (Fit.i64 (by omega))) rfl ?_
          refine WL.v (RV.assign rfl) rfl ?_
          refine WL.nil ?_
          refine QF.next (i + 1, w2) ⟨hlt, hE2⟩ (by dsimp only; omega) ⟨rfl, ?_, ?_, rfl, trivial⟩ rfl
          · dsimp only; rw [r]; rfl
          · dsimp only; rw [r]; rfl
  · intro hge
    obtain rfl : i = row.length := by have := of_decide_eq_false hge; omega
    rw [bestTo_usual]
    refine WC.exit ?_
    refine QF.thenExit ?_
    refine QF.thenExit ?_
    refine QF.blockHit ?_
    refine QF.seqNext ?_
    refine WC.seq ?_
    refine WC.region ?_
    refine WL.v (RV.move rfl) rfl ?_
    refine WL.v (RV.assign rfl) rfl ?_
    refine WL.nil ?_
    refine QF.seqNext ?_
    refine WC.ret ?_
    refine QF.done1 rfl rfl (⟨rfl, hE1⟩)

/-- A slot, its row, its entry. -/
abbrev Ent := Nat × Nat × Int
def enc3 (x : Ent) : List Value := [.int .i64 x.1, .int .i64 x.2.1, .int .i64 x.2.2]

theorem taken_ret (A : List Ent) (av : Value) (s : Nat) (w : World) (h : Sl enc3 3 w av A) :
    Ret Try.prog 28 [av, .int .i64 s] w fun v w' => v = .bool (A.any fun x => x.1 == s) ∧ w = w' := by
  have hm := h.len_le
  refine Ret.enter Try.func28 Try.ntmps28 rfl rfl ?_
  refine WC.seq ?_
  refine WC.region ?_
  refine WL.v (RV.assign rfl) rfl ?_
  refine WL.nil ?_
  refine QF.seqNext ?_
  refine WC.seq ?_
  refine WC.seq ?_
  refine WC.region ?_
  refine WL.v (RV.assign rfl) rfl ?_
  refine WL.nil ?_
  refine QF.seqNext ?_
  refine WC.block ?_
  refine WC.loop (fun i : Nat => [(0, av), (1, .int .i64 s), (5, .int .i64 i)]) (fun i : Nat => w) (fun i : Nat => i ≤ A.length ∧ (A.take i).any (fun x => x.1 == s) = false) (fun i : Nat => A.length - i) 0 (⟨Nat.zero_le _, by simp⟩) ⟨rfl, rfl, rfl, trivial⟩ rfl ?_
  rintro i ⟨hi, hno⟩
  refine WC.seq ?_
  refine WC.seq ?_
  refine WC.region ?_
  refine WL.v (RV.move rfl) rfl ?_
  refine WL.v (RV.move rfl) rfl ?_
  refine WL.v (RV.len (by first | exact h) Try.underlying52 rfl) rfl ?_
  refine WL.v (RV.lss rfl rfl) rfl ?_
  refine WL.nil ?_
  refine QF.seqNext ?_
  refine WC.cond rfl ?_ ?_
  · intro hlt
    replace hlt : i < A.length := by have := of_decide_eq_true hlt; omega
    refine WC.skip ?_
    refine QF.seqNext ?_
    refine WC.seq ?_
    refine WC.block ?_
    refine WC.seq ?_
    refine WC.region ?_
    refine WL.v (RV.move rfl) rfl ?_
    refine WL.v (RV.move rfl) rfl ?_
    refine WL.v (RV.indexAddr (by first | exact h) Try.underlying52 (Try.sizeOf56 _) rfl rfl _ rfl (by omega)) rfl ?_
    refine WL.v (RV.fieldAddr 0 Try.underlying56 rfl rfl (Try.sizeOf3 _) (by decide) rfl) rfl ?_
    refine WL.v (RV.load (by first | exact h.cell hlt (j := 0) rfl) (Try.isAgg3 _) rfl) rfl ?_
    refine WL.v (RV.move rfl) rfl ?_
    refine WL.v (RV.eql rfl rfl) rfl ?_
    refine WL.nil ?_
    refine QF.seqNext ?_
    refine WC.cond rfl ?_ ?_
    · intro he
      replace he : (nth A i).1 = s := by have := he; simp at this; omega
      refine WC.seq ?_
      refine WC.region ?_
      refine WL.v (RV.assign rfl) rfl ?_
      refine WL.nil ?_
      refine QF.seqNext ?_
      refine WC.ret ?_
      refine QF.blockRet ?_
      refine QF.thenRet ?_
      refine QF.thenRet ?_
      refine QF.blockRet ?_
      refine QF.thenRet ?_
      refine QF.done1 rfl rfl (⟨by rw [List.any_eq_true.2 ⟨_, nth_mem hlt, by simp [he]⟩], rfl⟩)
    · intro he
      replace he : (nth A i).1 ≠ s := by have := he; simp at this; omega
      refine WC.skip ?_
      refine QF.blockNormal ?_
      refine QF.seqNext ?_
      refine WC.region ?_
      refine WL.v (RV.move rfl) rfl ?_
      refine WL.v (RV.add rfl rfl (Fit.i64 (by omega))) rfl ?_
      refine WL.v (RV.assign rfl) rfl ?_
      refine WL.nil ?_
      refine QF.next (i + 1) (⟨hlt, by rw [take_nth hlt, List.any_append, hno]; simpa using he⟩) (by omega) ⟨rfl, rfl, rfl, trivial⟩ rfl
  · intro hge
    obtain rfl : i = A.length := by have := of_decide_eq_false hge; omega
    rw [List.take_length] at hno
    refine WC.exit ?_
    refine QF.thenExit ?_
    refine QF.thenExit ?_
    refine QF.blockHit ?_
    refine QF.seqNext ?_
    refine WC.seq ?_
    refine WC.region ?_
    refine WL.v (RV.assign rfl) rfl ?_
    refine WL.nil ?_
    refine QF.seqNext ?_
    refine WC.ret ?_
    refine QF.done1 rfl rfl (⟨by rw [hno], rfl⟩)
end Go.Proofs.Ytahdlfnjnjngaaa
