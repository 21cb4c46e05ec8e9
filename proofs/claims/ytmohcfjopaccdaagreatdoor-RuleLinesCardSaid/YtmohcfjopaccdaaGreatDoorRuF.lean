/- Packages prop, expr and rule, walked: names; which meanings are right; what is printed. -/
import Derived.Test.YtmohcfjopaccdaaGreatDoorRuE
namespace Go.Proofs.YtmohcfjopaccdaaGreatDoor
open Go.VL Go.Proofs
set_option maxRecDepth 10000

/-! Plain. -/
def joinM (sep : List UInt8) : List (List UInt8) → List UInt8
  | [] => []
  | a :: r => a ++ r.flatMap fun x => sep ++ x
mutual
def textM : Nd → List UInt8
  | .mk k c l =>
    if k = 0 then nameM c else if k = 1 then [97, 110, 121] else if k = 2 then 126 :: nameM c else if k = 3 then [94]
    else if k = 4 then joinM [32] (toldL [4, 5] l) else if k = 5 then joinM [124] (toldL [5] l)
    else if k = 6 ∨ k = 7 ∨ k = 8 then (toldL [4, 5, 6, 7, 8] l).headD [] ++ [nth [42, 43, 63] (k - 6).toNat] else []
def toldL (ks : List Int) : List Nd → List (List UInt8)
  | [] => []
  | t :: r => (if t.kind ∈ ks then 40 :: (textM t ++ [41]) else textM t) :: toldL ks r
end
def printM (t : Nd) : List UInt8 := if rightM t = true then textM t else []
def badAt (l : List Int) (i : Nat) : Bool := (decide (nth l i < 0) || decide (36 ≤ nth l i)) || (decide ((0 : Int) < (i : Int)) && decide (nth l i ≤ nth l (i - 1)))
def risesM (l : List Int) : Bool := !(anyN (badAt l) l.length)
def ruleR (t : R3) : Bool := (rightM t.1 && rightM t.2.1) && (looksM t.2.1 == 0)
def allR (ts : List R3) : Bool := !(anyN (fun i => !(ruleR (nth ts i))) ts.length)
def rightT (li lk : List Int) (ts : List R3) : Bool := ((decide ((ts.length : Int) ≤ 40) && risesM li) && risesM lk) && allR ts
def clsM (c : Int) : List UInt8 := [32] ++ nameM c
def classesM (word : List UInt8) (l : List Int) : List UInt8 := if l = [] then [] else word ++ l.flatMap clsM ++ [10]
def signM (b : Bool) : List UInt8 := if b = true then [47] else [33]
def ruleTextM (t : R3) : List UInt8 := trimM (printM t.1 ++ [32] ++ signM t.2.2 ++ [32] ++ printM t.2.1) ++ [10]
def printT (li lk : List Int) (ts : List R3) : List UInt8 := if rightT li lk ts = true then classesM [105, 103, 110, 111, 114, 101] li ++ classesM [107, 101, 101, 112] lk ++ ts.flatMap ruleTextM else []

/-! Walks. -/
theorem namesL_len : namesL.length = 36 := rfl
theorem nameM_le (c : Int) : (nameM c).length ≤ 10 := by
  unfold nameM
  split
  · rename_i h
    have hlt : c.toNat < 36 := by omega
    have : ∀ x ∈ namesL, x.length ≤ 10 := by decide
    exact this _ (by rw [nth_eq (by rw [namesL_len]; exact hlt)]; exact List.getElem_mem _)
  · simp
theorem name1_ret (c : Int) (w : World) : Ret Tryz.prog 43 [.int .i64 c] w fun v w' => v = .string (bs (nameM c)) ∧ Ext w w' := by
  refine Ret.enter Tryz.func43 Tryz.ntmps43 rfl rfl ?_
  refine WC.seq ?_
  refine WC.region ?_
  refine WL.v (RV.assign rfl) rfl ?_
  refine WL.nil ?_
  refine QF.seqNext ?_
  refine WC.seq ?_
  refine WC.seq ?_
  refine WC.region ?_
  refine WL.v (RV.move rfl) rfl ?_
  refine WL.v (RV.lss rfl rfl) rfl ?_
  refine WL.v (RV.move rfl) rfl ?_
  refine WL.orBS (fun w1 => _ = w1) (decide (36 ≤ c)) 2 (rfl) rfl rfl rfl rfl rfl ?_ ?_
  · skip
    intro a1
    refine WL.on rfl ?_
    refine WL.v (RV.move rfl) rfl ?_
    refine WL.on rfl ?_
    refine WL.v (RV.geq rfl rfl) rfl ?_
    refine WL.nil ?_
    refine QF.andEnd (tA := 5) 3 (rfl) rfl rfl rfl (fun v hv => (Option.some.inj hv).symm.trans (congrArg Value.bool a1)) rfl
  rintro _ rfl
  refine WL.nil ?_
  refine QF.seqNext ?_
  cases h : (decide (c < 0) || decide (36 ≤ c)) with
  | true =>
    have hn : nameM c = [] := by
      unfold nameM
      simp only [Bool.or_eq_true, decide_eq_true_eq] at h
      rw [if_neg (by omega)]
    refine WC.condT rfl (rfl) ?_
    refine WC.seq ?_
    refine WC.region ?_
    refine WL.v (RV.assign rfl) rfl ?_
    refine WL.nil ?_
    refine QF.seqNext ?_
    refine WC.ret ?_
    refine QF.thenRet ?_
    refine QF.done1 rfl rfl (⟨by rw [hn]; rfl, Ext.refl _⟩)
  | false =>
    simp only [Bool.or_eq_false_iff, decide_eq_false_iff_not] at h
    have hlt : c.toNat < namesL.length := by rw [namesL_len]; omega
    have hn : nameM c = nth namesL c.toNat := by unfold nameM; rw [if_pos (by omega)]
    refine WC.condF rfl (rfl) ?_
    refine WC.skip ?_
    refine QF.seqNext ?_
    refine WC.seq ?_
    refine WC.region ?_
    refine WL.call Tryz.call64 rfl (names_ret w) rfl ?_
    rintro v w1 ⟨rfl, hE1⟩
    refine WL.v (RV.move rfl) rfl ?_
    refine WL.v (RV.indexArr Tryz.underlying104 (Tryz.sizeOf9 _) (Tryz.isAgg9 _) rfl rfl c.toNat (by omega) (by omega) (show namesC[c.toNat]? = some (.string (bs (nameM c))) by unfold namesC; rw [hn, nth_eq hlt]; simp [hlt])) rfl ?_
    refine WL.v (RV.assign rfl) rfl ?_
    refine WL.nil ?_
    refine QF.seqNext ?_
    refine WC.ret ?_
    refine QF.done1 rfl rfl (⟨rfl, hE1⟩)
theorem rises_ret (l : List Int) (sv : Value) (w : World) (h : Sl (fun c : Int => [Value.int .i64 c]) 1 w sv l) : Ret Tryz.prog 27 [sv] w fun v w' => v = .bool (risesM l) ∧ w' = w := by
  have hlen := h.len_le
  refine Ret.enter Tryz.func27 Tryz.ntmps27 rfl rfl ?_
  refine WC.seq ?_
  refine WC.region ?_
  refine WL.v (RV.assign rfl) rfl ?_
  refine WL.nil ?_
  refine QF.seqNext ?_
  refine WC.seq ?_
  refine WC.seq ?_
  refine WC.region ?_
  refine WL.v (RV.move rfl) rfl ?_
  refine WL.v (RV.len (by first | exact h) Tryz.underlying23 rfl) rfl ?_
  refine WL.v (RV.move rfl) rfl ?_
  refine WL.nil ?_
  refine QF.seqNext ?_
  refine WC.block ?_
  refine WC.loop (fun x : Nat => [(0, sv), (5, sv), (6, .int .i64 l.length), (7, .int .i64 x)]) (fun x : Nat => w) (fun x : Nat => x ≤ l.length ∧ ∀ i, i < x → badAt l i = false) (fun x : Nat => l.length - x) 0 (⟨Nat.zero_le _, fun i hi => absurd hi (Nat.not_lt_zero i)⟩) ⟨rfl, rfl, rfl, rfl, trivial⟩ rfl ?_
  rintro k ⟨hk, hno⟩
  refine WC.seq ?_
  refine WC.region ?_
  refine WL.v (RV.lss rfl rfl) rfl ?_
  refine WL.nil ?_
  refine QF.seqNext ?_
  refine WC.seq ?_
  refine WC.cond rfl ?_ ?_
  · intro hlt
    replace hlt : k < l.length := by have := of_decide_eq_true hlt; omega
    refine WC.skip ?_
    refine QF.seqNext ?_
    refine WC.seq ?_
    refine WC.block ?_
    refine WC.seq ?_
    refine WC.region ?_
    refine WL.v (RV.move rfl) rfl ?_
    refine WL.v (RV.indexAddr (by first | exact h) Tryz.underlying23 (Tryz.sizeOf3 _) rfl rfl _ rfl (by omega)) rfl ?_
    refine WL.v (RV.load (by first | exact h.ld hlt) (Tryz.isAgg3 _) rfl) rfl ?_
    refine WL.v (RV.assign rfl) rfl ?_
    refine WL.v (RV.assign rfl) rfl ?_
    refine WL.nil ?_
    refine QF.seqNext ?_
    refine WC.seq ?_
    refine WC.region ?_
    refine WL.v (RV.move rfl) rfl ?_
    refine WL.v (RV.lss rfl rfl) rfl ?_
    refine WL.v (RV.move rfl) rfl ?_
    refine WL.orBS (fun w1 => _ = w1) (decide (36 ≤ nth l k)) 2 (rfl) rfl rfl rfl rfl rfl ?_ ?_
    · skip
      intro a1
      refine WL.on rfl ?_
      refine WL.v (RV.move rfl) rfl ?_
      refine WL.on rfl ?_
      refine WL.v (RV.geq rfl rfl) rfl ?_
      refine WL.nil ?_
      refine QF.andEnd (tA := 14) 3 (rfl) rfl rfl rfl (fun v hv => (Option.some.inj hv).symm.trans (congrArg Value.bool a1)) rfl
    rintro _ rfl
    refine WL.v (RV.move rfl) rfl ?_
    refine WL.orBS (fun w1 => _ = w1) ((decide ((0 : Int) < (k : Int)) && decide (nth l k ≤ nth l (k - 1)))) 11 (rfl) rfl rfl rfl rfl rfl ?_ ?_
    · skip
      intro a2
      refine WL.on rfl ?_
      refine WL.v (RV.move rfl) rfl ?_
      refine WL.on rfl ?_
      refine WL.v (RV.gtr rfl rfl) rfl ?_
      refine WL.on rfl ?_
      refine WL.v (RV.move rfl) rfl ?_
      cases hk0 : decide ((0 : Int) < (k : Int)) with
      | true =>
        have hkp := of_decide_eq_true hk0
        refine WL.know (d := 21) rfl (b' := true) (rfl) ?_
        refine WL.on rfl ?_
        refine WL.v (RV.move rfl) rfl ?_
        refine WL.on rfl ?_
        refine WL.v (RV.move rfl) rfl ?_
        refine WL.on rfl ?_
        refine WL.v (RV.move rfl) rfl ?_
        refine WL.on rfl ?_
        refine WL.v (RV.sub rfl rfl (Fit.i64 (by omega))) rfl ?_
        rw [show (k : Int) - 1 = ((k - 1 : Nat) : Int) from by omega]
        refine WL.on rfl ?_
        refine WL.v (RV.indexAddr (by first | exact h) Tryz.underlying23 (Tryz.sizeOf3 _) rfl rfl _ rfl (by omega)) rfl ?_
        refine WL.on rfl ?_
        refine WL.v (RV.load (by first | exact h.ld (i := k - 1) (by omega)) (Tryz.isAgg3 _) rfl) rfl ?_
        refine WL.on rfl ?_
        refine WL.v (RV.leq rfl rfl) rfl ?_
        refine WL.on rfl ?_
        refine WL.v (RV.pickT rfl rfl) rfl ?_
        refine WL.nil ?_
        refine QF.andEnd (tA := 18) 13 (rfl) rfl rfl rfl (fun v hv => (Option.some.inj hv).symm.trans (congrArg Value.bool a2)) rfl
      | false =>
        refine WL.know (d := 21) rfl (b' := false) (rfl) ?_
        refine WL.off rfl rfl rfl ?_
        refine WL.off rfl rfl rfl ?_
        refine WL.off rfl rfl rfl ?_
        refine WL.off rfl rfl rfl ?_
        refine WL.off rfl rfl rfl ?_
        refine WL.off rfl rfl rfl ?_
        refine WL.off rfl rfl rfl ?_
        refine WL.on rfl ?_
        refine WL.v (RV.pickF rfl rfl) rfl ?_
        refine WL.nil ?_
        refine QF.andEnd (tA := 18) 13 (rfl) rfl rfl rfl (fun v hv => (Option.some.inj hv).symm.trans (congrArg Value.bool a2)) rfl
    rintro _ rfl
    refine WL.nil ?_
    refine QF.seqNext ?_
    refine WC.cond rfl ?_ ?_
    · intro hy
      refine WC.seq ?_
      refine WC.region ?_
      refine WL.v (RV.assign rfl) rfl ?_
      refine WL.nil ?_
      refine QF.seqNext ?_
      refine WC.ret ?_
      refine QF.blockRet ?_
      refine QF.thenRet ?_
      refine QF.thenRet ?_
      refine QF.blockRet ?_
      refine QF.thenRet ?_
      refine QF.done1 rfl rfl (⟨by unfold risesM; rw [anyN_true.2 ⟨k, hlt, hy⟩]; rfl, rfl⟩)
    · intro hy
      refine WC.skip ?_
      refine QF.blockNormal ?_
      refine QF.seqNext ?_
      refine WC.region ?_
      refine WL.v (RV.add rfl rfl (Fit.i64 (by omega))) rfl ?_
      refine WL.v (RV.move rfl) rfl ?_
      refine WL.nil ?_
      refine QF.next (k + 1) (⟨hlt, fun i hi => (Nat.lt_succ_iff_lt_or_eq.1 hi).elim (hno i) (fun e => by rw [e]; exact hy)⟩) (by omega) ⟨rfl, rfl, rfl, rfl, trivial⟩ rfl
  · intro hge
    replace hge : l.length ≤ k := by have := of_decide_eq_false hge; omega
    refine WC.exit ?_
    refine QF.thenExit ?_
    refine QF.thenExit ?_
    refine QF.blockHit ?_
    refine QF.seqNext ?_
    refine WC.seq ?_
    refine WC.region ?_
    refine WL.v (RV.assign rfl) rfl ?_
    refine WL.nil ?_
    refine QF.seqNext ?_
    refine WC.ret ?_
    refine QF.done1 rfl rfl (⟨by unfold risesM; rw [anyN_false.2 fun i hi => hno i (by omega)]; rfl, rfl⟩)
def accM {α : Type} (f : α → List UInt8) (a : List UInt8) (l : List α) (k : Nat) : List UInt8 := (l.take k).foldl (fun a c => a ++ f c) a
theorem accM_succ {α : Type} [Inhabited α] {f : α → List UInt8} {a : List UInt8} {l : List α} {k : Nat} (h : k < l.length) : accM f a l (k + 1) = accM f a l k ++ f (nth l k) := by
  unfold accM
  rw [List.take_succ_eq_append_getElem h, List.foldl_append, nth_eq h]; rfl
theorem foldl_cat {α : Type} (f : α → List UInt8) : ∀ (l : List α) (a : List UInt8), l.foldl (fun a c => a ++ f c) a = a ++ l.flatMap f
  | [], a => by simp
  | x :: l, a => by rw [List.foldl_cons, foldl_cat f l, List.flatMap_cons, List.append_assoc]
theorem accM_all {α : Type} {f : α → List UInt8} {a : List UInt8} {l : List α} : accM f a l l.length = a ++ l.flatMap f := by
  unfold accM; rw [List.take_length, foldl_cat]
theorem flat_len {α : Type} {f : α → List UInt8} {m : Nat} : ∀ {l : List α}, (∀ c ∈ l, (f c).length ≤ m) → (l.flatMap f).length ≤ m * l.length
  | [], _ => by simp
  | x :: l, h => by
    have h1 := h x (by simp)
    have h2 := flat_len (l := l) fun c hc => h c (by simp [hc])
    rw [List.flatMap_cons, List.length_append, List.length_cons, Nat.mul_add]; omega
theorem accM_len {α : Type} {f : α → List UInt8} {a : List UInt8} {l : List α} {k m : Nat} (h : ∀ c ∈ l, (f c).length ≤ m) : (accM f a l k).length ≤ a.length + m * l.length := by
  unfold accM
  rw [foldl_cat, List.length_append]
  have h1 := flat_len (l := l.take k) fun c hc => h c (List.mem_of_mem_take hc)
  have h2 : m * (l.take k).length ≤ m * l.length := Nat.mul_le_mul_left _ (by simp; omega)
  omega
theorem clsM_len (c : Int) : (clsM c).length ≤ 11 := by
  have := nameM_le c
  simp [clsM]; omega
theorem classes_ret (word : List UInt8) (l : List Int) (sv : Value) (w : World) (h : Sl (fun c : Int => [Value.int .i64 c]) 1 w sv l) (hw : word.length ≤ 100) (hl : l.length ≤ 1000000) : Ret Tryz.prog 22 [.string (bs word), sv] w fun v w' => v = .string (bs (classesM word l)) ∧ Ext w w' := by
  refine Ret.enter Tryz.func22 Tryz.ntmps22 rfl rfl ?_
  refine WC.seq ?_
  refine WC.region ?_
  refine WL.v (RV.assign rfl) rfl ?_
  refine WL.nil ?_
  refine QF.seqNext ?_
  refine WC.seq ?_
  refine WC.seq ?_
  refine WC.region ?_
  refine WL.v (RV.move rfl) rfl ?_
  refine WL.v (RV.len (by first | exact h) Tryz.underlying23 rfl) rfl ?_
  refine WL.v (RV.eql rfl rfl) rfl ?_
  refine WL.nil ?_
  refine QF.seqNext ?_
  by_cases h0 : l = []
  · skip
    refine WC.condT rfl ((by subst h0; rfl)) ?_
    refine WC.seq ?_
    refine WC.region ?_
    refine WL.v (RV.assign rfl) rfl ?_
    refine WL.nil ?_
    refine QF.seqNext ?_
    refine WC.ret ?_
    refine QF.thenRet ?_
    refine QF.done1 rfl rfl (⟨by unfold classesM; rw [if_pos h0]; rfl, Ext.refl _⟩)
  · skip
    refine WC.condF rfl ((by simpa using h0)) ?_
    refine WC.skip ?_
    refine QF.seqNext ?_
    refine WC.seq ?_
    refine WC.region ?_
    refine WL.v (RV.move rfl) rfl ?_
    refine WL.v (RV.assign rfl) rfl ?_
    refine WL.nil ?_
    refine QF.seqNext ?_
    refine WC.seq ?_
    refine WC.seq ?_
    refine WC.region ?_
    refine WL.v (RV.move rfl) rfl ?_
    refine WL.v (RV.len (by first | exact h) Tryz.underlying23 rfl) rfl ?_
    refine WL.v (RV.move rfl) rfl ?_
    refine WL.nil ?_
    refine QF.seqNext ?_
    refine WC.block ?_
    refine WC.loop (fun x : Nat × World => [(5, .string (bs (accM clsM word l x.1))), (12, sv), (13, .int .i64 l.length), (14, .int .i64 x.1)]) (fun x : Nat × World => x.2) (fun x : Nat × World => x.1 ≤ l.length ∧ Ext w x.2) (fun x : Nat × World => l.length - x.1) (0, w) (⟨Nat.zero_le _, Ext.refl _⟩) ⟨rfl, rfl, rfl, rfl, trivial⟩ rfl ?_
    rintro ⟨k, w1⟩ ⟨hk, hE⟩
    dsimp only at hk hE ⊢
    have h1 := h.ext hE
    have hal : (accM clsM word l k).length ≤ word.length + 11 * l.length := accM_len fun c _ => clsM_len c
    refine WC.seq ?_
    refine WC.region ?_
    refine WL.v (RV.lss rfl rfl) rfl ?_
    refine WL.nil ?_
    refine QF.seqNext ?_
    refine WC.seq ?_
    refine WC.cond rfl ?_ ?_
    · intro hlt
      replace hlt : k < l.length := by have := of_decide_eq_true hlt; omega
      have hnl := nameM_le (nth l k)
      refine WC.skip ?_
      refine QF.seqNext ?_
      refine WC.seq ?_
      refine WC.block ?_
      refine WC.seq ?_
      refine WC.region ?_
      refine WL.v (RV.indexAddr (by first | exact h1) Tryz.underlying23 (Tryz.sizeOf3 _) rfl rfl _ rfl (by omega)) rfl ?_
      refine WL.v (RV.load (by first | exact h1.ld hlt) (Tryz.isAgg3 _) rfl) rfl ?_
      refine WL.v (RV.assign rfl) rfl ?_
      refine WL.nil ?_
      refine QF.seqNext ?_
      refine WC.region ?_
      refine WL.v (RV.move rfl) rfl ?_
      refine WL.v (RV.move rfl) rfl ?_
      refine WL.call Tryz.call43 rfl (name1_ret (nth l k) w1) rfl ?_
      rintro v w2 ⟨rfl, hE2⟩
      refine WL.v (RV.addS rfl rfl (by simp; omega)) rfl ?_
      refine WL.v (RV.addS rfl rfl (by simp; omega)) rfl ?_
      refine WL.v (RV.assign rfl) rfl ?_
      refine WL.nil ?_
      refine QF.blockNormal ?_
      refine QF.seqNext ?_
      refine WC.region ?_
      refine WL.v (RV.add rfl rfl (Fit.i64 (by omega))) rfl ?_
      refine WL.v (RV.move rfl) rfl ?_
      refine WL.nil ?_
      rw [show accM clsM word l k ++ ([32] ++ nameM (nth l k)) = accM clsM word l (k + 1) from (accM_succ hlt).symm]
      refine QF.next ((k + 1, w2)) (⟨hlt, hE.trans hE2⟩) (by dsimp only; omega) ⟨rfl, rfl, rfl, rfl, trivial⟩ rfl
    · intro hge
      obtain rfl : k = l.length := by have := of_decide_eq_false hge; omega
      refine WC.exit ?_
      refine QF.thenExit ?_
      refine QF.thenExit ?_
      refine QF.blockHit ?_
      refine QF.seqNext ?_
      refine WC.seq ?_
      refine WC.region ?_
      refine WL.v (RV.move rfl) rfl ?_
      refine WL.v (RV.addS rfl rfl (by simp; omega)) rfl ?_
      refine WL.v (RV.assign rfl) rfl ?_
      refine WL.nil ?_
      refine QF.seqNext ?_
      refine WC.ret ?_
      refine QF.done1 rfl rfl (⟨by unfold classesM; rw [if_neg h0, accM_all], hE⟩)
end Go.Proofs.YtmohcfjopaccdaaGreatDoor
