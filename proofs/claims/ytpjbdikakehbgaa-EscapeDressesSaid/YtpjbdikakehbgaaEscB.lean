/- Chapter 28 by the document, walked: Dress. -/
import Derived.Test.YtpjbdikakehbgaaEscA
namespace Go.Proofs.Ytpjbdikakehbgaa
open Go.VL Go.Proofs
set_option maxRecDepth 4000

abbrev Ins := Int × Int
@[simp] def encI (x : Ins) : List Value := [.int .i64 x.1, .int .i64 x.2]
theorem markM_len (k : Int) : (markM k).length ≤ 15 := by unfold markM; (repeat' split) <;> simp
/-- What is laid at one place, by the first inserts. -/
def marksTo (ins : List Ins) (i : Int) (k : Nat) : List UInt8 := (ins.take k).flatMap fun x => if x.1 = i then markM x.2 else []
theorem marksTo_succ (ins : List Ins) (i : Int) (k : Nat) (h : k < ins.length) : marksTo ins i (k + 1) = marksTo ins i k ++ (if (nth ins k).1 = i then markM (nth ins k).2 else []) := by
  simp only [marksTo]; rw [take_nth h, List.flatMap_append]; simp
theorem marksTo_len (ins : List Ins) (i : Int) (k : Nat) : (marksTo ins i k).length ≤ 15 * k := by
  have : ∀ (l : List Ins), (l.flatMap fun x => if x.1 = i then markM x.2 else []).length ≤ 15 * l.length := by
    intro l
    induction l with
    | nil => simp
    | cons x l ih =>
      have := markM_len x.2
      simp only [List.flatMap_cons, List.length_append, List.length_cons]
      split
      · omega
      · simp only [List.length_nil]; omega
  have h2 := this (ins.take k)
  simp only [marksTo]
  simp only [List.length_take] at h2
  omega
/-- Where a piece begins. -/
def atOf (ps : List Pce) (i : Nat) : Nat := ((ps.take i).map (·.2.1)).sum
theorem atOf_succ (ps : List Pce) (i : Nat) (h : i < ps.length) : atOf ps (i + 1) = atOf ps i + (nth ps i).2.1 := by
  simp only [atOf]; rw [take_nth h]; simp
theorem decP_sum : ∀ (n : Nat) (L : List UInt8), L.length ≤ n → ((decP L).map (·.2.1)).sum = L.length
  | 0, L, h => by obtain rfl : L = [] := List.eq_nil_of_length_eq_zero (by omega); rfl
  | n + 1, L, h => by
    by_cases e : L = []
    · subst e; rfl
    · have h1 := decM_size e
      have := decP_sum n (L.drop (decM L).2.1) (by simp; omega)
      rw [decP_step e]; simp at this ⊢; omega
theorem atOf_le (L : List UInt8) (i : Nat) : atOf (decP L) i ≤ L.length := by
  have h := decP_sum _ L (Nat.le_refl _)
  have h2 : (decP L).map (·.2.1) = ((decP L).take i).map (·.2.1) ++ ((decP L).drop i).map (·.2.1) := by rw [← List.map_append, List.take_append_drop]
  rw [h2, List.sum_append] at h
  unfold atOf; omega
/-- A text with what is laid ahead of its first pieces. -/
def dressTo (l : List UInt8) (ins : List Ins) (i : Nat) : List UInt8 := (List.range i).flatMap fun (j : Nat) => marksTo ins (j : Int) ins.length ++ escM ((l.take (atOf (decP l) (j + 1))).drop (atOf (decP l) j))
theorem dressTo_succ (l : List UInt8) (ins : List Ins) (i : Nat) : dressTo l ins (i + 1) = dressTo l ins i ++ (marksTo ins (i : Int) ins.length ++ escM ((l.take (atOf (decP l) (i + 1))).drop (atOf (decP l) i))) := by
  simp [dressTo, List.range_succ]
def dressM (l : List UInt8) (ins : List Ins) : List UInt8 := dressTo l ins (decP l).length ++ marksTo ins ((decP l).length : Int) ins.length
theorem dressTo_len (l : List UInt8) (ins : List Ins) : ∀ i, (dressTo l ins i).length ≤ i * (15 * ins.length + 5 * l.length)
  | 0 => by simp [dressTo]
  | i + 1 => by
    have h1 := dressTo_len l ins i
    have h2 := marksTo_len ins i ins.length
    have h3 := escM_len ((l.take (atOf (decP l) (i + 1))).drop (atOf (decP l) i))
    have h4 : ((l.take (atOf (decP l) (i + 1))).drop (atOf (decP l) i)).length ≤ l.length := by simp; omega
    rw [dressTo_succ, Nat.succ_mul]
    simp only [List.length_append]
    omega

theorem refDress_ret (l : List UInt8) (ins : List Ins) (iv : Value) (w : World) (hi : Sl encI 2 w iv ins) (hl : l.length ≤ 100) (hn : ins.length ≤ 20) :
    Ret Try.prog 10 [.string (bs l), iv] w fun v w' => v = .string (bs (dressM l ins)) ∧ Ext w w' := by
  have hpl := decP_len l
  refine Ret.enter Try.func10 Try.ntmps10 rfl rfl ?_
  refine WC.seq ?_
  refine WC.region ?_
  refine WL.v (RV.assign rfl) rfl ?_
  refine WL.nil ?_
  refine QF.seqNext ?_
  refine WC.seq ?_
  refine WC.region ?_
  refine WL.v (RV.move rfl) rfl ?_
  refine WL.bytesOf Try.underlying9 Try.underlying31 Try.underlying5 rfl (by omega) rfl ?_
  intro bv w1 hb hE1
  refine WL.call Try.call7 rfl (all01_ret l bv w1 hb (by omega)) rfl ?_
  rintro pv w2 ⟨hp, hE2⟩
  have hE := hE1.trans hE2
  replace hi := hi.ext hE
  refine WL.v (RV.assign rfl) rfl ?_
  refine WL.nil ?_
  refine QF.seqNext ?_
  refine WC.seq ?_
  refine WC.region ?_
  refine WL.v (RV.assign rfl) rfl ?_
  refine WL.nil ?_
  refine QF.seqNext ?_
  refine WC.seq ?_
  refine WC.region ?_
  refine WL.v (RV.assign rfl) rfl ?_
  refine WL.nil ?_
  refine QF.seqNext ?_
  refine WC.seq ?_
  refine WC.seq ?_
  refine WC.region ?_
  refine WL.v (RV.assign rfl) rfl ?_
  refine WL.nil ?_
  refine QF.seqNext ?_
  refine WC.block ?_
  refine WC.loop (fun x : Nat × List UInt8 × Int => [(0, .string (bs l)), (1, iv), (5, pv), (6, .string (bs x.2.1)), (7, .int .i64 x.2.2), (8, .int .i64 x.1)]) (fun x : Nat × List UInt8 × Int => w2) (fun x : Nat × List UInt8 × Int => (x.1 ≤ (decP l).length ∧ x.2.1 = dressTo l ins x.1 ∧ x.2.2 = atOf (decP l) x.1) ∨ (x.1 = (decP l).length + 1 ∧ x.2.1 = dressM l ins)) (fun x : Nat × List UInt8 × Int => (decP l).length + 1 - x.1) (0, [], 0) (.inl ⟨Nat.zero_le _, rfl, rfl⟩) ⟨rfl, rfl, rfl, rfl, rfl, rfl, trivial⟩ rfl ?_
  rintro ⟨i, out, at'⟩ hinv
  dsimp only at hinv ⊢
  refine WC.seq ?_
  refine WC.seq ?_
  refine WC.region ?_
  refine WL.v (RV.move rfl) rfl ?_
  refine WL.v (RV.move rfl) rfl ?_
  refine WL.v (RV.len (by first | exact hp | exact hi) Try.underlying29 rfl) rfl ?_
  refine WL.v (RV.leq rfl rfl) rfl ?_
  refine WL.nil ?_
  refine QF.seqNext ?_
  refine WC.cond rfl ?_ ?_
  · intro hlt
    replace hlt : i ≤ (decP l).length := by have := of_decide_eq_true hlt; omega
    obtain ⟨_, ho, hat⟩ := hinv.resolve_right (by omega)
    have hol := dressTo_len l ins i
    have hol2 : i * (15 * ins.length + 5 * l.length) ≤ 100 * 800 := Nat.mul_le_mul (by omega) (by omega)
    rw [← ho] at hol
    subst hat
    refine WC.skip ?_
    refine QF.seqNext ?_
    refine WC.seq ?_
    refine WC.block ?_
    refine WC.seq ?_
    refine WC.seq ?_
    refine WC.region ?_
    refine WL.v (RV.assign rfl) rfl ?_
    refine WL.nil ?_
    refine QF.seqNext ?_
    refine WC.block ?_
    refine WC.loop (fun y : Nat × List UInt8 => [(0, .string (bs l)), (1, iv), (5, pv), (6, .string (bs y.2)), (7, .int .i64 (atOf (decP l) i : Nat)), (8, .int .i64 i), (9, .int .i64 y.1)]) (fun y : Nat × List UInt8 => w2) (fun y : Nat × List UInt8 => y.1 ≤ ins.length ∧ y.2 = out ++ marksTo ins i y.1) (fun y : Nat × List UInt8 => ins.length - y.1) (0, out) (⟨Nat.zero_le _, by simp [marksTo]⟩) ⟨rfl, rfl, rfl, rfl, rfl, rfl, rfl, trivial⟩ rfl ?_
    rintro ⟨k, ms⟩ ⟨hk, hms⟩
    dsimp only at hk hms ⊢
    have hml := marksTo_len ins i k
    have hmsl : ms.length = out.length + (marksTo ins i k).length := by rw [hms]; simp
    refine WC.seq ?_
    refine WC.seq ?_
    refine WC.region ?_
    refine WL.v (RV.move rfl) rfl ?_
    refine WL.v (RV.move rfl) rfl ?_
    refine WL.v (RV.len (by first | exact hp | exact hi) Try.underlying22 rfl) rfl ?_
    refine WL.v (RV.lss rfl rfl) rfl ?_
    refine WL.nil ?_
    refine QF.seqNext ?_
    refine WC.cond rfl ?_ ?_
    · intro hlk
      replace hlk : k < ins.length := by have := of_decide_eq_true hlk; omega
      have hs := marksTo_succ ins i k hlk
      have hmk := markM_len (nth ins k).2
      refine WC.skip ?_
      refine QF.seqNext ?_
      refine WC.seq ?_
      refine WC.block ?_
      refine WC.seq ?_
      refine WC.region ?_
      refine WL.v (RV.move rfl) rfl ?_
      refine WL.v (RV.move rfl) rfl ?_
      refine WL.v (RV.indexAddr (by first | exact hp | exact hi) Try.underlying22 (Try.sizeOf33 _) rfl rfl _ rfl (by omega)) rfl ?_
      refine WL.v (RV.fieldAddr 0 Try.underlying33 rfl rfl (Try.sizeOf3 _) (by decide) rfl) rfl ?_
      refine WL.v (RV.load (by first | exact hi.cell hlk (j := 0) rfl) (Try.isAgg3 _) rfl) rfl ?_
      refine WL.v (RV.move rfl) rfl ?_
      refine WL.v (RV.eql rfl rfl) rfl ?_
      refine WL.nil ?_
      refine QF.seqNext ?_
      refine WC.cond rfl ?_ ?_
      · intro he
        replace he : (nth ins k).1 = i := by simpa using he
        rw [if_pos he] at hs
        refine WC.region ?_
        refine WL.v (RV.move rfl) rfl ?_
        refine WL.v (RV.move rfl) rfl ?_
        refine WL.v (RV.move rfl) rfl ?_
        refine WL.v (RV.indexAddr (by first | exact hp | exact hi) Try.underlying22 (Try.sizeOf33 _) rfl rfl _ rfl (by omega)) rfl ?_
        refine WL.v (RV.fieldAddr 1 Try.underlying33 rfl rfl (Try.sizeOf3 _) (by decide) rfl) rfl ?_
        refine WL.v (RV.load (by first | exact hi.cell hlk (j := 1) rfl) (Try.isAgg3 _) rfl) rfl ?_
        refine WL.call Try.call8 rfl (mark_ret (nth ins k).2 w2) rfl ?_
        rintro v _ ⟨rfl, rfl⟩
        refine WL.v (RV.addS rfl rfl (by omega)) rfl ?_
        refine WL.v (RV.assign rfl) rfl ?_
        refine WL.nil ?_
        refine QF.blockNormal ?_
        refine QF.seqNext ?_
        refine WC.region ?_
        refine WL.v (RV.move rfl) rfl ?_
        refine WL.v (RV.add rfl rfl (Fit.i64 (by omega))) rfl ?_
        refine WL.v (RV.assign rfl) rfl ?_
        refine WL.nil ?_
        refine QF.next ((k + 1, ms ++ markM (nth ins k).2)) (⟨hlk, by dsimp only; rw [hs, hms, List.append_assoc]⟩) (by dsimp only; omega) ⟨rfl, rfl, rfl, rfl, rfl, rfl, rfl, trivial⟩ rfl
      · intro he
        replace he : ¬ (nth ins k).1 = i := by simpa using he
        rw [if_neg he, List.append_nil] at hs
        refine WC.skip ?_
        refine QF.blockNormal ?_
        refine QF.seqNext ?_
        refine WC.region ?_
        refine WL.v (RV.move rfl) rfl ?_
        refine WL.v (RV.add rfl rfl (Fit.i64 (by omega))) rfl ?_
        refine WL.v (RV.assign rfl) rfl ?_
        refine WL.nil ?_
        refine QF.next ((k + 1, ms)) (⟨hlk, by dsimp only; rw [hs, hms]⟩) (by dsimp only; omega) ⟨rfl, rfl, rfl, rfl, rfl, rfl, rfl, trivial⟩ rfl
    · intro hgk
      obtain rfl : k = ins.length := by have := of_decide_eq_false hgk; omega
      refine WC.exit ?_
      refine QF.thenExit ?_
      refine QF.thenExit ?_
      refine QF.blockHit ?_
      refine QF.seqNext ?_
      refine WC.seq ?_
      refine WC.region ?_
      refine WL.v (RV.move rfl) rfl ?_
      refine WL.v (RV.move rfl) rfl ?_
      refine WL.v (RV.len (by first | exact hp | exact hi) Try.underlying29 rfl) rfl ?_
      refine WL.v (RV.lss rfl rfl) rfl ?_
      refine WL.nil ?_
      refine QF.seqNext ?_
      refine WC.cond rfl ?_ ?_
      · intro hip
        replace hip : i < (decP l).length := by have := of_decide_eq_true hip; omega
        have hat1 := atOf_succ (decP l) i hip
        have hal := atOf_le l (i + 1)
        have hpe := escM_len ((l.take (atOf (decP l) (i + 1))).drop (atOf (decP l) i))
        have hpl2 : ((l.take (atOf (decP l) (i + 1))).drop (atOf (decP l) i)).length ≤ l.length := by simp; omega
        refine WC.seq ?_
        refine WC.region ?_
        refine WL.v (RV.move rfl) rfl ?_
        refine WL.v (RV.move rfl) rfl ?_
        refine WL.v (RV.move rfl) rfl ?_
        refine WL.v (RV.move rfl) rfl ?_
        refine WL.v (RV.move rfl) rfl ?_
        refine WL.v (RV.move rfl) rfl ?_
        refine WL.v (RV.indexAddr (by first | exact hp | exact hi) Try.underlying29 (Try.sizeOf57 _) rfl rfl _ rfl (by omega)) rfl ?_
        refine WL.v (RV.fieldAddr 1 Try.underlying57 rfl rfl (Try.sizeOf3 _) (by decide) rfl) rfl ?_
        refine WL.v (RV.load (by first | exact hp.cell hip (j := 1) rfl) (Try.isAgg3 _) rfl) rfl ?_
        refine WL.v (RV.add rfl rfl (Fit.i64 (by omega))) rfl ?_
        refine WL.v (RV.sliceS Try.underlying9 rfl rfl rfl (atOf (decP l) i) (atOf (decP l) (i + 1)) rfl (by rw [hat1]; rfl) (by omega) hal) rfl ?_
        refine WL.call Try.call21 rfl (refEsc_ret ((l.take (atOf (decP l) (i + 1))).drop (atOf (decP l) i)) w2 (by omega)) rfl ?_
        rintro v _ ⟨rfl, rfl⟩
        refine WL.v (RV.addS rfl rfl (by omega)) rfl ?_
        refine WL.v (RV.assign rfl) rfl ?_
        refine WL.nil ?_
        refine QF.seqNext ?_
        refine WC.region ?_
        refine WL.v (RV.move rfl) rfl ?_
        refine WL.v (RV.move rfl) rfl ?_
        refine WL.v (RV.move rfl) rfl ?_
        refine WL.v (RV.indexAddr (by first | exact hp | exact hi) Try.underlying29 (Try.sizeOf57 _) rfl rfl _ rfl (by omega)) rfl ?_
        refine WL.v (RV.fieldAddr 1 Try.underlying57 rfl rfl (Try.sizeOf3 _) (by decide) rfl) rfl ?_
        refine WL.v (RV.load (by first | exact hp.cell hip (j := 1) rfl) (Try.isAgg3 _) rfl) rfl ?_
        refine WL.v (RV.add rfl rfl (Fit.i64 (by omega))) rfl ?_
        refine WL.v (RV.assign rfl) rfl ?_
        refine WL.nil ?_
        refine QF.blockNormal ?_
        refine QF.seqNext ?_
        refine WC.region ?_
        refine WL.v (RV.move rfl) rfl ?_
        refine WL.v (RV.add rfl rfl (Fit.i64 (by omega))) rfl ?_
        refine WL.v (RV.assign rfl) rfl ?_
        refine WL.nil ?_
        refine QF.next ((i + 1, ms ++ escM ((l.take (atOf (decP l) (i + 1))).drop (atOf (decP l) i)), ((atOf (decP l) i : Nat) : Int) + ((nth (decP l) i).2.1 : Nat))) (.inl ⟨hip, by dsimp only; rw [dressTo_succ, hms, ho, List.append_assoc], by dsimp only; rw [hat1]; rfl⟩) (by dsimp only; omega) ⟨rfl, rfl, rfl, rfl, rfl, rfl, trivial⟩ rfl
      · intro hip
        replace hip : i = (decP l).length := by have := of_decide_eq_false hip; omega
        refine WC.skip ?_
        refine QF.blockNormal ?_
        refine QF.seqNext ?_
        refine WC.region ?_
        refine WL.v (RV.move rfl) rfl ?_
        refine WL.v (RV.add rfl rfl (Fit.i64 (by omega))) rfl ?_
        refine WL.v (RV.assign rfl) rfl ?_
        refine WL.nil ?_
        refine QF.next ((i + 1, ms, ((atOf (decP l) i : Nat) : Int))) (.inr ⟨by dsimp only; omega, by dsimp only; rw [dressM, hms, ho, hip]⟩) (by dsimp only; omega) ⟨rfl, rfl, rfl, rfl, rfl, rfl, trivial⟩ rfl
  · intro hge
    replace hge : ¬ i ≤ (decP l).length := by have := of_decide_eq_false hge; omega
    obtain ⟨_, ho⟩ := hinv.resolve_left (fun h => hge h.1)
    refine WC.exit ?_
    refine QF.thenExit ?_
    refine QF.thenExit ?_
    refine QF.blockHit ?_
    refine QF.seqNext ?_
    refine WC.seq ?_
    refine WC.region ?_
    refine WL.v (RV.move rfl) rfl ?_
    refine WL.v (RV.assign rfl) rfl ?_
    refine WL.nil ?_
    refine QF.seqNext ?_
    refine WC.ret ?_
    refine QF.done1 rfl rfl (⟨by rw [ho], hE⟩)
end Go.Proofs.Ytpjbdikakehbgaa
