/- Chapter 28 by the document, walked: Mark, Escape, Plain. -/
import Derived.Test.YtakigpnccppheaaGreatDoorScalG
namespace Go.Proofs.YtakigpnccppheaaGreatDoor
open Go.VL Go.Proofs
set_option maxRecDepth 4000

/-- What may be laid between; none: there is none of this kind. -/
def markM (kind : Int) : List UInt8 :=
  if kind = 0 then [60, 98, 62] else if kind = 1 then [60, 47, 98, 62] else if kind = 2 then [60, 105, 32, 99, 108, 97, 115, 115, 61, 34, 97, 62, 98, 34, 62]
  else if kind = 3 then [60, 33, 45, 45, 120, 45, 45, 62] else if kind = 4 then [60, 33, 121, 62] else if kind = 5 then [27, 91, 49, 109] else if kind = 6 then [60, 47, 115, 112, 97, 110, 62] else []
theorem mark_ret (kind : Int) (w : World) : Ret Tryz.prog 10 [.int .i64 kind] w fun v w' => v = .string (bs (markM kind)) ∧ w = w' := by
  refine Ret.enter Tryz.func10 Tryz.ntmps10 rfl rfl ?_
  refine WC.seq ?_
  refine WC.region ?_
  refine WL.v (RV.assign rfl) rfl ?_
  refine WL.nil ?_
  refine QF.seqNext ?_
  refine WC.seq ?_
  refine WC.seq ?_
  refine WC.region ?_
  refine WL.v (RV.move rfl) rfl ?_
  refine WL.nil ?_
  refine QF.seqNext ?_
  refine WC.block ?_
  refine WC.seq ?_
  refine WC.region ?_
  refine WL.v (RV.eql rfl rfl) rfl ?_
  refine WL.v (RV.assign rfl) rfl ?_
  refine WL.nil ?_
  refine QF.seqNext ?_
  refine WC.cond rfl ?_ ?_
  · intro q0
    replace q0 : kind = 0 := by simpa using q0
    refine WC.seq ?_
    refine WC.region ?_
    refine WL.v (RV.assign rfl) rfl ?_
    refine WL.nil ?_
    refine QF.seqNext ?_
    refine WC.ret ?_
    refine QF.blockRet ?_
    refine QF.thenRet ?_
    refine QF.done1 rfl rfl (⟨by subst q0; rfl, rfl⟩)
  · intro n0
    replace n0 : kind ≠ 0 := by simpa using n0
    refine WC.seq ?_
    refine WC.region ?_
    refine WL.v (RV.eql rfl rfl) rfl ?_
    refine WL.v (RV.assign rfl) rfl ?_
    refine WL.nil ?_
    refine QF.seqNext ?_
    refine WC.cond rfl ?_ ?_
    · intro q1
      replace q1 : kind = 1 := by simpa using q1
      refine WC.seq ?_
      refine WC.region ?_
      refine WL.v (RV.assign rfl) rfl ?_
      refine WL.nil ?_
      refine QF.seqNext ?_
      refine WC.ret ?_
      refine QF.blockRet ?_
      refine QF.thenRet ?_
      refine QF.done1 rfl rfl (⟨by subst q1; rfl, rfl⟩)
    · intro n1
      replace n1 : kind ≠ 1 := by simpa using n1
      refine WC.seq ?_
      refine WC.region ?_
      refine WL.v (RV.eql rfl rfl) rfl ?_
      refine WL.v (RV.assign rfl) rfl ?_
      refine WL.nil ?_
      refine QF.seqNext ?_
      refine WC.cond rfl ?_ ?_
      · intro q2
        replace q2 : kind = 2 := by simpa using q2
        refine WC.seq ?_
        refine WC.region ?_
        refine WL.v (RV.assign rfl) rfl ?_
        refine WL.nil ?_
        refine QF.seqNext ?_
        refine WC.ret ?_
        refine QF.blockRet ?_
        refine QF.thenRet ?_
        refine QF.done1 rfl rfl (⟨by subst q2; rfl, rfl⟩)
      · intro n2
        replace n2 : kind ≠ 2 := by simpa using n2
        refine WC.seq ?_
        refine WC.region ?_
        refine WL.v (RV.eql rfl rfl) rfl ?_
        refine WL.v (RV.assign rfl) rfl ?_
        refine WL.nil ?_
        refine QF.seqNext ?_
        refine WC.cond rfl ?_ ?_
        · intro q3
          replace q3 : kind = 3 := by simpa using q3
          refine WC.seq ?_
          refine WC.region ?_
          refine WL.v (RV.assign rfl) rfl ?_
          refine WL.nil ?_
          refine QF.seqNext ?_
          refine WC.ret ?_
          refine QF.blockRet ?_
          refine QF.thenRet ?_
          refine QF.done1 rfl rfl (⟨by subst q3; rfl, rfl⟩)
        · intro n3
          replace n3 : kind ≠ 3 := by simpa using n3
          refine WC.seq ?_
          refine WC.region ?_
          refine WL.v (RV.eql rfl rfl) rfl ?_
          refine WL.v (RV.assign rfl) rfl ?_
          refine WL.nil ?_
          refine QF.seqNext ?_
          refine WC.cond rfl ?_ ?_
          · intro q4
            replace q4 : kind = 4 := by simpa using q4
            refine WC.seq ?_
            refine WC.region ?_
            refine WL.v (RV.assign rfl) rfl ?_
            refine WL.nil ?_
            refine QF.seqNext ?_
            refine WC.ret ?_
            refine QF.blockRet ?_
            refine QF.thenRet ?_
            refine QF.done1 rfl rfl (⟨by subst q4; rfl, rfl⟩)
          · intro n4
            replace n4 : kind ≠ 4 := by simpa using n4
            refine WC.seq ?_
            refine WC.region ?_
            refine WL.v (RV.eql rfl rfl) rfl ?_
            refine WL.v (RV.assign rfl) rfl ?_
            refine WL.nil ?_
            refine QF.seqNext ?_
            refine WC.cond rfl ?_ ?_
            · intro q5
              replace q5 : kind = 5 := by simpa using q5
              refine WC.seq ?_
              refine WC.region ?_
              refine WL.v (RV.assign rfl) rfl ?_
              refine WL.nil ?_
              refine QF.seqNext ?_
              refine WC.ret ?_
              refine QF.blockRet ?_
              refine QF.thenRet ?_
              refine QF.done1 rfl rfl (⟨by subst q5; rfl, rfl⟩)
            · intro n5
              replace n5 : kind ≠ 5 := by simpa using n5
              refine WC.seq ?_
              refine WC.region ?_
              refine WL.v (RV.eql rfl rfl) rfl ?_
              refine WL.v (RV.assign rfl) rfl ?_
              refine WL.nil ?_
              refine QF.seqNext ?_
              refine WC.cond rfl ?_ ?_
              · intro q6
                replace q6 : kind = 6 := by simpa using q6
                refine WC.seq ?_
                refine WC.region ?_
                refine WL.v (RV.assign rfl) rfl ?_
                refine WL.nil ?_
                refine QF.seqNext ?_
                refine WC.ret ?_
                refine QF.blockRet ?_
                refine QF.thenRet ?_
                refine QF.done1 rfl rfl (⟨by subst q6; rfl, rfl⟩)
              · intro n6
                replace n6 : kind ≠ 6 := by simpa using n6
                refine WC.skip ?_
                refine QF.blockNormal ?_
                refine QF.seqNext ?_
                refine WC.seq ?_
                refine WC.region ?_
                refine WL.v (RV.assign rfl) rfl ?_
                refine WL.nil ?_
                refine QF.seqNext ?_
                refine WC.ret ?_
                refine QF.done1 rfl rfl (⟨by rw [markM, if_neg n0, if_neg n1, if_neg n2, if_neg n3, if_neg n4, if_neg n5, if_neg n6]; rfl, rfl⟩)

def escB (b : UInt8) : List UInt8 := if b = 38 then [38, 97, 109, 112, 59] else if b = 60 then [38, 108, 116, 59] else if b = 62 then [38, 103, 116, 59] else [b]
/-- A text, escaped. -/
def escM (l : List UInt8) : List UInt8 := l.flatMap escB
theorem escB_len (b : UInt8) : (escB b).length ≤ 5 := by unfold escB; (repeat' split) <;> simp
theorem escM_len (l : List UInt8) : (escM l).length ≤ 5 * l.length := by
  induction l with
  | nil => simp [escM]
  | cons b l ih => have := escB_len b; simp only [escM, List.flatMap_cons, List.length_append, List.length_cons] at ih ⊢; omega
theorem escM_succ (l : List UInt8) (i : Nat) (h : i < l.length) : escM (l.take (i + 1)) = escM (l.take i) ++ escB (nth l i) := by
  simp only [escM]; rw [take_nth h, List.flatMap_append]; simp
theorem byte_eq (b : UInt8) (k : Nat) (hk : k < 256) : ((b.toNat : Int) == (k : Int)) = decide (b = UInt8.ofNat k) := by
  by_cases h : b = UInt8.ofNat k
  · subst h; simp; omega
  · have : b.toNat ≠ k := fun e => h (by rw [← e]; simp)
    simp [h]; omega
theorem take_drop_one (l : List UInt8) (i : Nat) (h : i < l.length) : (l.take (i + 1)).drop i = [nth l i] := by
  rw [take_nth h, List.drop_append_of_le_length (by simp; omega)]; simp

theorem refEsc_ret (l : List UInt8) (w : World) (hl : l.length ≤ 1000000) : Ret Tryz.prog 7 [.string (bs l)] w fun v w' => v = .string (bs (escM l)) ∧ w = w' := by
  refine Ret.enter Tryz.func7 Tryz.ntmps7 rfl rfl ?_
  refine WC.seq ?_
  refine WC.region ?_
  refine WL.v (RV.assign rfl) rfl ?_
  refine WL.nil ?_
  refine QF.seqNext ?_
  refine WC.seq ?_
  refine WC.region ?_
  refine WL.v (RV.assign rfl) rfl ?_
  refine WL.nil ?_
  refine QF.seqNext ?_
  refine WC.seq ?_
  refine WC.seq ?_
  refine WC.region ?_
  refine WL.v (RV.assign rfl) rfl ?_
  refine WL.nil ?_
  refine QF.seqNext ?_
  refine WC.block ?_
  refine WC.loop (fun x : Nat × List UInt8 => [(0, .string (bs l)), (3, .string (bs x.2)), (4, .int .i64 x.1)]) (fun x : Nat × List UInt8 => w) (fun x : Nat × List UInt8 => x.1 ≤ l.length ∧ x.2 = escM (l.take x.1)) (fun x : Nat × List UInt8 => l.length - x.1) (0, []) (⟨Nat.zero_le _, rfl⟩) ⟨rfl, rfl, rfl, trivial⟩ rfl ?_
  rintro ⟨i, out⟩ ⟨hi, ho⟩
  dsimp only at hi ho ⊢
  have hol : out.length ≤ 5 * l.length := by rw [ho]; have := escM_len (l.take i); simp at this; omega
  refine WC.seq ?_
  refine WC.seq ?_
  refine WC.region ?_
  refine WL.v (RV.move rfl) rfl ?_
  refine WL.v (RV.move rfl) rfl ?_
  refine WL.v (RV.lenS Tryz.underlying9 rfl) rfl ?_
  refine WL.v (RV.lss rfl rfl) rfl ?_
  refine WL.nil ?_
  refine QF.seqNext ?_
  refine WC.cond rfl ?_ ?_
  · intro hlt
    replace hlt : i < l.length := by have := of_decide_eq_true hlt; omega
    have e1 := byte_eq (nth l i) 38 (by decide)
    have e2 := byte_eq (nth l i) 60 (by decide)
    have e3 := byte_eq (nth l i) 62 (by decide)
    refine WC.skip ?_
    refine QF.seqNext ?_
    refine WC.seq ?_
    refine WC.block ?_
    refine WC.seq ?_
    refine WC.region ?_
    refine WL.v (RV.move rfl) rfl ?_
    refine WL.v (RV.move rfl) rfl ?_
    refine WL.v (RV.indexS Tryz.underlying9 rfl rfl _ rfl (by omega)) rfl ?_
    refine WL.nil ?_
    refine QF.seqNext ?_
    refine WC.block ?_
    refine WC.seq ?_
    refine WC.region ?_
    refine WL.v (RV.eql rfl rfl) rfl ?_
    refine WL.v (RV.assign rfl) rfl ?_
    refine WL.nil ?_
    refine QF.seqNext ?_
    refine WC.cond rfl ?_ ?_
    · intro q
      replace q : nth l i = 38 := of_decide_eq_true (e1.symm.trans q)
      have hb : escB (nth l i) = [38, 97, 109, 112, 59] := by rw [escB, if_pos q]
      refine WC.region ?_
      refine WL.v (RV.move rfl) rfl ?_
      refine WL.v (RV.addS rfl rfl (by simp only [List.length_cons, List.length_nil]; omega)) rfl ?_
      refine WL.v (RV.assign rfl) rfl ?_
      refine WL.nil ?_
      refine QF.blockNormal ?_
      refine QF.blockNormal ?_
      refine QF.seqNext ?_
      refine WC.region ?_
      refine WL.v (RV.move rfl) rfl ?_
      refine WL.v (RV.add rfl rfl (Fit.i64 (by omega))) rfl ?_
      refine WL.v (RV.assign rfl) rfl ?_
      refine WL.nil ?_
      refine QF.next ((i + 1, out ++ [38, 97, 109, 112, 59])) (⟨hlt, by dsimp only; rw [escM_succ _ _ hlt, ho, hb]⟩) (by dsimp only; omega) ⟨rfl, rfl, rfl, trivial⟩ rfl
    · intro q1
      replace q1 : nth l i ≠ 38 := of_decide_eq_false (e1.symm.trans q1)
      refine WC.seq ?_
      refine WC.region ?_
      refine WL.v (RV.eql rfl rfl) rfl ?_
      refine WL.v (RV.assign rfl) rfl ?_
      refine WL.nil ?_
      refine QF.seqNext ?_
      refine WC.cond rfl ?_ ?_
      · intro q
        replace q : nth l i = 60 := of_decide_eq_true (e2.symm.trans q)
        have hb : escB (nth l i) = [38, 108, 116, 59] := by rw [escB, if_neg q1, if_pos q]
        refine WC.region ?_
        refine WL.v (RV.move rfl) rfl ?_
        refine WL.v (RV.addS rfl rfl (by simp only [List.length_cons, List.length_nil]; omega)) rfl ?_
        refine WL.v (RV.assign rfl) rfl ?_
        refine WL.nil ?_
        refine QF.blockNormal ?_
        refine QF.blockNormal ?_
        refine QF.seqNext ?_
        refine WC.region ?_
        refine WL.v (RV.move rfl) rfl ?_
        refine WL.v (RV.add rfl rfl (Fit.i64 (by omega))) rfl ?_
        refine WL.v (RV.assign rfl) rfl ?_
        refine WL.nil ?_
        refine QF.next ((i + 1, out ++ [38, 108, 116, 59])) (⟨hlt, by dsimp only; rw [escM_succ _ _ hlt, ho, hb]⟩) (by dsimp only; omega) ⟨rfl, rfl, rfl, trivial⟩ rfl
      · intro q2
        replace q2 : nth l i ≠ 60 := of_decide_eq_false (e2.symm.trans q2)
        refine WC.seq ?_
        refine WC.region ?_
        refine WL.v (RV.eql rfl rfl) rfl ?_
        refine WL.v (RV.assign rfl) rfl ?_
        refine WL.nil ?_
        refine QF.seqNext ?_
        refine WC.cond rfl ?_ ?_
        · intro q
          replace q : nth l i = 62 := of_decide_eq_true (e3.symm.trans q)
          have hb : escB (nth l i) = [38, 103, 116, 59] := by rw [escB, if_neg q1, if_neg q2, if_pos q]
          refine WC.region ?_
          refine WL.v (RV.move rfl) rfl ?_
          refine WL.v (RV.addS rfl rfl (by simp only [List.length_cons, List.length_nil]; omega)) rfl ?_
          refine WL.v (RV.assign rfl) rfl ?_
          refine WL.nil ?_
          refine QF.blockNormal ?_
          refine QF.blockNormal ?_
          refine QF.seqNext ?_
          refine WC.region ?_
          refine WL.v (RV.move rfl) rfl ?_
          refine WL.v (RV.add rfl rfl (Fit.i64 (by omega))) rfl ?_
          refine WL.v (RV.assign rfl) rfl ?_
          refine WL.nil ?_
          refine QF.next ((i + 1, out ++ [38, 103, 116, 59])) (⟨hlt, by dsimp only; rw [escM_succ _ _ hlt, ho, hb]⟩) (by dsimp only; omega) ⟨rfl, rfl, rfl, trivial⟩ rfl
        · intro q3
          replace q3 : nth l i ≠ 62 := of_decide_eq_false (e3.symm.trans q3)
          have hb : escB (nth l i) = [nth l i] := by rw [escB, if_neg q1, if_neg q2, if_neg q3]
          have ht := take_drop_one l i hlt
          refine WC.region ?_
          refine WL.v (RV.move rfl) rfl ?_
          refine WL.v (RV.move rfl) rfl ?_
          refine WL.v (RV.move rfl) rfl ?_
          refine WL.v (RV.move rfl) rfl ?_
          refine WL.v (RV.add rfl rfl (Fit.i64 (by omega))) rfl ?_
          refine WL.v (RV.sliceS Tryz.underlying9 rfl rfl rfl i (i + 1) rfl rfl (by omega) (by omega)) rfl ?_
          rw [ht]
          refine WL.v (RV.addS rfl rfl (by simp only [List.length_cons, List.length_nil]; omega)) rfl ?_
          refine WL.v (RV.assign rfl) rfl ?_
          refine WL.nil ?_
          refine QF.blockNormal ?_
          refine QF.blockNormal ?_
          refine QF.seqNext ?_
          refine WC.region ?_
          refine WL.v (RV.move rfl) rfl ?_
          refine WL.v (RV.add rfl rfl (Fit.i64 (by omega))) rfl ?_
          refine WL.v (RV.assign rfl) rfl ?_
          refine WL.nil ?_
          refine QF.next ((i + 1, out ++ [nth l i])) (⟨hlt, by dsimp only; rw [escM_succ _ _ hlt, ho, hb]⟩) (by dsimp only; omega) ⟨rfl, rfl, rfl, trivial⟩ rfl
  · intro hge
    obtain rfl : i = l.length := by have := of_decide_eq_false hge; omega
    rw [List.take_length] at ho
    refine WC.exit ?_
    refine QF.thenExit ?_
    refine QF.thenExit ?_
    refine QF.blockHit ?_
    refine QF.seqNext ?_
    refine WC.seq ?_
    refine WC.region ?_
    refine WL.v (RV.move rfl) rfl ?_
    refine WL.v (RV.assign rfl) rfl ?_
    refine WL.nil ?_
    refine QF.seqNext ?_
    refine WC.ret ?_
    refine QF.done1 rfl rfl (⟨by rw [ho], rfl⟩)

/-- Is a text plain? -/
def plainM (l : List UInt8) : Bool := (decP l).all fun p => p.2.2 && p.1 != 27
theorem refPlain_ret (l : List UInt8) (w : World) (hl : l.length ≤ 1000000) : Ret Tryz.prog 9 [.string (bs l)] w fun v w' => v = .bool (plainM l) ∧ Ext w w' := by
  have hpl := decP_len l
  refine Ret.enter Tryz.func9 Tryz.ntmps9 rfl rfl ?_
  refine WC.seq ?_
  refine WC.region ?_
  refine WL.v (RV.assign rfl) rfl ?_
  refine WL.nil ?_
  refine QF.seqNext ?_
  refine WC.seq ?_
  refine WC.region ?_
  refine WL.v (RV.move rfl) rfl ?_
  refine WL.bytesOf Tryz.underlying9 Tryz.underlying31 Tryz.underlying5 rfl (by omega) rfl ?_
  intro bv w1 hb hE1
  refine WL.call Tryz.call19 rfl (all01_ret l bv w1 hb hl) rfl ?_
  rintro pv w2 ⟨hp, hE2⟩
  refine WL.v (RV.assign rfl) rfl ?_
  refine WL.nil ?_
  refine QF.seqNext ?_
  refine WC.seq ?_
  refine WC.seq ?_
  refine WC.region ?_
  refine WL.v (RV.assign rfl) rfl ?_
  refine WL.nil ?_
  refine QF.seqNext ?_
  refine WC.block ?_
  refine WC.loop (fun i : Nat => [(3, pv), (4, .int .i64 i)]) (fun i : Nat => w2) (fun i : Nat => i ≤ (decP l).length ∧ ((decP l).take i).all (fun p => p.2.2 && p.1 != 27) = true) (fun i : Nat => (decP l).length - i) 0 (⟨Nat.zero_le _, rfl⟩) ⟨rfl, rfl, trivial⟩ rfl ?_
  intro i ⟨hi, hall⟩
  refine WC.seq ?_
  refine WC.seq ?_
  refine WC.region ?_
  refine WL.v (RV.move rfl) rfl ?_
  refine WL.v (RV.move rfl) rfl ?_
  refine WL.v (RV.len (by first | exact hp) Tryz.underlying44 rfl) rfl ?_
  refine WL.v (RV.lss rfl rfl) rfl ?_
  refine WL.nil ?_
  refine QF.seqNext ?_
  refine WC.cond rfl ?_ ?_
  · intro hlt
    replace hlt : i < (decP l).length := by have := of_decide_eq_true hlt; omega
    refine WC.skip ?_
    refine QF.seqNext ?_
    refine WC.seq ?_
    refine WC.block ?_
    refine WC.seq ?_
    refine WC.region ?_
    refine WL.v (RV.move rfl) rfl ?_
    refine WL.v (RV.move rfl) rfl ?_
    refine WL.v (RV.indexAddr (by first | exact hp) Tryz.underlying44 (Tryz.sizeOf47 _) rfl rfl _ rfl (by omega)) rfl ?_
    refine WL.v (RV.fieldAddr 2 Tryz.underlying47 rfl rfl (Tryz.sizeOf4 _) (by decide) rfl) rfl ?_
    refine WL.v (RV.load (by first | exact hp.cell hlt (j := 2) rfl) (Tryz.isAgg4 _) rfl) rfl ?_
    refine WL.v (RV.not rfl) rfl ?_
    refine WL.v (RV.move rfl) rfl ?_
    refine WL.orBS (fun w1 => _ = w1) ((nth (decP l) i).1 == 27) 6 (rfl) rfl rfl rfl rfl rfl ?_ ?_
    · skip
      intro h1
      refine WL.on rfl ?_
      refine WL.v (RV.move rfl) rfl ?_
      refine WL.on rfl ?_
      refine WL.v (RV.move rfl) rfl ?_
      refine WL.on rfl ?_
      refine WL.v (RV.indexAddr (by first | exact hp) Tryz.underlying44 (Tryz.sizeOf47 _) rfl rfl _ rfl (by omega)) rfl ?_
      refine WL.on rfl ?_
      refine WL.v (RV.fieldAddr 0 Tryz.underlying47 rfl rfl (Tryz.sizeOf21 _) (by decide) rfl) rfl ?_
      refine WL.on rfl ?_
      refine WL.v (RV.load (by first | exact hp.cell hlt (j := 0) rfl) (Tryz.isAgg21 _) rfl) rfl ?_
      refine WL.on rfl ?_
      refine WL.v (RV.eql rfl rfl) rfl ?_
      refine WL.nil ?_
      refine QF.andEnd (tA := 20) 7 (rfl) rfl rfl rfl (fun v hv => (Option.some.inj hv).symm.trans (congrArg Value.bool h1)) rfl
    rintro _ rfl
    refine WL.nil ?_
    refine QF.seqNext ?_
    refine WC.cond rfl ?_ ?_
    · intro hbad
      have hno : plainM l = false := by
        rw [plainM, List.all_eq_false]
        refine ⟨_, nth_mem hlt, ?_⟩
        cases hw : (nth (decP l) i).2.2 <;> simp [hw] at hbad ⊢
        exact hbad
      refine WC.seq ?_
      refine WC.region ?_
      refine WL.v (RV.assign rfl) rfl ?_
      refine WL.nil ?_
      refine QF.seqNext ?_
      refine WC.ret ?_
      refine QF.blockRet ?_
      refine QF.thenRet ?_
      refine QF.thenRet ?_
      refine QF.blockRet ?_
      refine QF.thenRet ?_
      refine QF.done1 rfl rfl (⟨by rw [hno], hE1.trans hE2⟩)
    · intro hok
      have hnx : ((decP l).take (i + 1)).all (fun p => p.2.2 && p.1 != 27) = true := by
        rw [take_nth hlt, List.all_append, hall]
        cases hw : (nth (decP l) i).2.2 <;> simp [hw] at hok ⊢
        exact hok
      refine WC.skip ?_
      refine QF.blockNormal ?_
      refine QF.seqNext ?_
      refine WC.region ?_
      refine WL.v (RV.move rfl) rfl ?_
      refine WL.v (RV.add rfl rfl (Fit.i64 (by omega))) rfl ?_
      refine WL.v (RV.assign rfl) rfl ?_
      refine WL.nil ?_
      refine QF.next (i + 1) (⟨hlt, hnx⟩) (by omega) ⟨rfl, rfl, trivial⟩ rfl
  · intro hge
    obtain rfl : i = (decP l).length := by have := of_decide_eq_false hge; omega
    rw [List.take_length] at hall
    refine WC.exit ?_
    refine QF.thenExit ?_
    refine QF.thenExit ?_
    refine QF.blockHit ?_
    refine QF.seqNext ?_
    refine WC.seq ?_
    refine WC.region ?_
    refine WL.v (RV.assign rfl) rfl ?_
    refine WL.nil ?_
    refine QF.seqNext ?_
    refine WC.ret ?_
    refine QF.done1 rfl rfl (⟨by rw [plainM, hall], hE1.trans hE2⟩)
end Go.Proofs.YtakigpnccppheaaGreatDoor
