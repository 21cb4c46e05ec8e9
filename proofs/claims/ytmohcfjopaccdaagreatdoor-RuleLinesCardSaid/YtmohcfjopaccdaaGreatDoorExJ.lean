/- Package expr, walked: fits, Right; longest, has. -/
import Derived.Test.YtmohcfjopaccdaaGreatDoorExH
namespace Go.Proofs.YtmohcfjopaccdaaGreatDoor
open Go.VL Go.Proofs
set_option maxRecDepth 10000
/-- 'slices.IndexFunc[[]virgule/expr.Node,virgule/expr.Node]': the first place at which a function says yes; the function may make memory. -/
theorem indexFuncNode_ret {F : FuncId} (hF : ∀ (args : Array Value) (w : World), (callFunc F args).run Tryz.prog w = .ok (.enter F args) w) (cs : Array Value) (l : List (N3)) (sv : Value) (q : Nat → Bool) (w : World) (h : Sl encN 3 w sv l)
    (hq : ∀ i, i < l.length → ∀ w', Ext w w' → Ret Tryz.prog F ([nv (nth l i)] ++ cs.toList) w' fun v w'' => v = .bool (q i) ∧ Ext w' w'') :
    Ret Tryz.prog 122 [sv, .func (.func F) #[] cs] w fun v w' => v = .int .i64 (firstN q l.length) ∧ Ext w w' := by
  have hl := h.len_le
  refine Ret.enter Tryz.func122 Tryz.ntmps122 rfl rfl ?_
  refine WC.seq ?_
  refine WC.region ?_
  refine WL.v (RV.assign rfl) rfl ?_
  refine WL.nil ?_
  refine QF.seqNext ?_
  refine WC.seq ?_
  refine WC.seq ?_
  refine WC.region ?_
  refine WL.v (RV.move rfl) rfl ?_
  refine WL.v (RV.len (by first | exact h) Tryz.underlying46 rfl) rfl ?_
  refine WL.v (RV.move rfl) rfl ?_
  refine WL.nil ?_
  refine QF.seqNext ?_
  refine WC.block ?_
  refine WC.loop (fun x : Nat × World => [(0, sv), (1, .func (.func F) #[] cs), (7, .int .i64 l.length), (8, .int .i64 x.1)]) (fun x : Nat × World => x.2) (fun x : Nat × World => x.1 ≤ l.length ∧ Ext w x.2 ∧ ∀ i, i < x.1 → q i = false) (fun x : Nat × World => l.length - x.1) (0, w) (⟨Nat.zero_le _, Ext.refl _, fun i hi => absurd hi (Nat.not_lt_zero i)⟩) ⟨rfl, rfl, rfl, rfl, trivial⟩ rfl ?_
  rintro ⟨k, w1⟩ ⟨hk, hE, hno⟩
  dsimp only at hk hE hno ⊢
  have h1 := h.ext hE
  refine WC.seq ?_
  refine WC.region ?_
  refine WL.v (RV.lss rfl rfl) rfl ?_
  refine WL.nil ?_
  refine QF.seqNext ?_
  refine WC.seq ?_
  refine WC.cond rfl ?_ ?_
  · intro hlt
    replace hlt : k < l.length := by have := of_decide_eq_true hlt; omega
    refine WC.skip ?_
    refine QF.seqNext ?_
    refine WC.seq ?_
    refine WC.block ?_
    refine WC.seq ?_
    refine WC.region ?_
    refine WL.v (RV.move rfl) rfl ?_
    refine WL.v (RV.assign rfl) rfl ?_
    refine WL.nil ?_
    refine QF.seqNext ?_
    refine WC.seq ?_
    refine WC.region ?_
    refine WL.v (RV.move rfl) rfl ?_
    refine WL.v (RV.move rfl) rfl ?_
    refine WL.v (RV.move rfl) rfl ?_
    refine WL.v (RV.indexAddr (by first | exact h1) Tryz.underlying46 (Tryz.sizeOf48 _) rfl rfl _ rfl (by omega)) rfl ?_
    refine WL.v (RV.loadAgg (us := encN (nth l k)) (fun j u hu => h1.cell hlt hu) (Tryz.isAgg48 _) (Tryz.sizeOf48 _) rfl) rfl ?_
    refine WL.callV rfl hF rfl (hq k hlt w1 hE) rfl ?_
    rintro v w2 ⟨rfl, hE2⟩
    refine WL.nil ?_
    refine QF.seqNext ?_
    refine WC.cond rfl ?_ ?_
    · intro hy
      refine WC.seq ?_
      refine WC.region ?_
      refine WL.v (RV.move rfl) rfl ?_
      refine WL.v (RV.assign rfl) rfl ?_
      refine WL.nil ?_
      refine QF.seqNext ?_
      refine WC.ret ?_
      refine QF.blockRet ?_
      refine QF.thenRet ?_
      refine QF.thenRet ?_
      refine QF.blockRet ?_
      refine QF.thenRet ?_
      refine QF.done1 rfl rfl (⟨by rw [firstN_yes hlt hy hno], hE.trans hE2⟩)
    · intro hy
      refine WC.skip ?_
      refine QF.blockNormal ?_
      refine QF.seqNext ?_
      refine WC.region ?_
      refine WL.v (RV.add rfl rfl (Fit.i64 (by omega))) rfl ?_
      refine WL.v (RV.move rfl) rfl ?_
      refine WL.nil ?_
      refine QF.next ((k + 1, w2)) (⟨hlt, hE.trans hE2, fun i hi => (Nat.lt_succ_iff_lt_or_eq.1 hi).elim (hno i) (fun e => by rw [e]; exact hy)⟩) (by omega) ⟨rfl, rfl, rfl, rfl, trivial⟩ rfl
  · intro hge
    replace hge : l.length ≤ k := by have := of_decide_eq_false hge; omega
    refine WC.exit ?_
    refine QF.thenExit ?_
    refine QF.thenExit ?_
    refine QF.blockHit ?_
    refine QF.seqNext ?_
    refine WC.seq ?_
    refine WC.region ?_
    refine WL.v (RV.assign rfl) rfl ?_
    refine WL.nil ?_
    refine QF.seqNext ?_
    refine WC.ret ?_
    refine QF.done1 rfl rfl (⟨by rw [firstN_no fun i hi => hno i (by omega)], hE⟩)
theorem containsFuncNode_ret {F : FuncId} (hF : ∀ (args : Array Value) (w : World), (callFunc F args).run Tryz.prog w = .ok (.enter F args) w) (cs : Array Value) (l : List (N3)) (sv : Value) (q : Nat → Bool) (w : World) (h : Sl encN 3 w sv l)
    (hq : ∀ i, i < l.length → ∀ w', Ext w w' → Ret Tryz.prog F ([nv (nth l i)] ++ cs.toList) w' fun v w'' => v = .bool (q i) ∧ Ext w' w'') :
    Ret Tryz.prog 96 [sv, .func (.func F) #[] cs] w fun v w' => v = .bool (anyN q l.length) ∧ Ext w w' := by
  refine Ret.enter Tryz.func96 Tryz.ntmps96 rfl rfl ?_
  refine WC.seq ?_
  refine WC.region ?_
  refine WL.v (RV.assign rfl) rfl ?_
  refine WL.nil ?_
  refine QF.seqNext ?_
  refine WC.seq ?_
  refine WC.region ?_
  refine WL.v (RV.move rfl) rfl ?_
  refine WL.v (RV.move rfl) rfl ?_
  refine WL.call Tryz.call122 rfl (indexFuncNode_ret hF cs l sv q w h hq) rfl ?_
  rintro v w1 ⟨rfl, hE⟩
  refine WL.v (RV.geq rfl rfl) rfl ?_
  refine WL.v (RV.assign rfl) rfl ?_
  refine WL.nil ?_
  refine QF.seqNext ?_
  refine WC.ret ?_
  refine QF.done1 rfl rfl (⟨by rw [firstN_any], hE⟩)

def named (k : Int) : Bool := (k == 0) || (k == 2)
def least (k : Int) : Int := if k = 4 ∨ k = 5 then 2 else if k = 6 ∨ k = 7 ∨ k = 8 then 1 else 0
def most (k : Int) : Int := if k = 4 ∨ k = 5 then 2000 else if k = 6 ∨ k = 7 ∨ k = 8 then 1 else 0
def headOK (k c : Int) (n : Nat) (within : Bool) : Bool :=
  !(decide (k < 0) || decide (9 < k) || ((k == 9) && within)) && (!(decide ((n : Int) < least k) || decide (most k < (n : Int))) &&
  !((named k && (decide (c < 0) || decide (36 ≤ c))) || (!named k && (c != 0))))
mutual
def fitsM : Nd → Bool → Bool | .mk k c l, wi => headOK k c l.length wi && fitsL l
def fitsL : List Nd → Bool | [] => true | t :: r => fitsM t true && fitsL r
end
def rightM (t : Nd) : Bool := decide (nsz t ≤ 2000) && fitsM t false
theorem fitsL_any : ∀ (l : List Nd), (!(anyN (fun i => !(fitsM (nth l i) true)) l.length)) = fitsL l := by
  intro l
  rw [Bool.eq_iff_iff]
  rw [Bool.not_eq_true', Bool.eq_false_iff, Ne, anyN_true]
  induction l with
  | nil => simp [fitsL]
  | cons t r ih =>
    simp only [fitsL, Bool.and_eq_true, ← ih, List.length_cons]
    constructor
    · intro h
      refine ⟨?_, fun ⟨i, hi, hq⟩ => h ⟨i + 1, by omega, by rw [nth_cons]; exact hq⟩⟩
      cases ht : fitsM t true with
      | true => rfl
      | false => exact absurd ⟨0, by omega, by rw [nth_cons0, ht]; rfl⟩ h
    · rintro ⟨h1, h2⟩ ⟨i, hi, hq⟩
      cases i with
      | zero => rw [nth_cons0, h1] at hq; simp at hq
      | succ i => rw [nth_cons] at hq; exact h2 ⟨i, by omega, hq⟩
theorem many_ret (k : Int) (w : World) : Ret Tryz.prog 95 [.int .i64 k] w fun v w' => v = .tuple #[.int .i64 (least k), .int .i64 (most k)] ∧ w' = w := by
  refine Ret.enter Tryz.func95 Tryz.ntmps95 rfl rfl ?_
  refine WC.seq ?_
  refine WC.region ?_
  refine WL.v (RV.assign rfl) rfl ?_
  refine WL.v (RV.assign rfl) rfl ?_
  refine WL.nil ?_
  refine QF.seqNext ?_
  refine WC.seq ?_
  refine WC.seq ?_
  refine WC.region ?_
  refine WL.v (RV.move rfl) rfl ?_
  refine WL.nil ?_
  refine QF.seqNext ?_
  refine WC.block ?_
  refine WC.seq ?_
  refine WC.seq ?_
  refine WC.region ?_
  refine WL.v (RV.eql rfl rfl) rfl ?_
  refine WL.v (RV.assign rfl) rfl ?_
  refine WL.nil ?_
  refine QF.seqNext ?_
  by_cases h4 : k = 4
  · subst h4
    refine WC.condT rfl (rfl) ?_
    refine WC.skip ?_
    refine QF.seqNext ?_
    refine WC.condT rfl (rfl) ?_
    refine WC.seq ?_
    refine WC.region ?_
    refine WL.v (RV.assign rfl) rfl ?_
    refine WL.v (RV.assign rfl) rfl ?_
    refine WL.nil ?_
    refine QF.seqNext ?_
    refine WC.ret ?_
    refine QF.blockRet ?_
    refine QF.thenRet ?_
    refine QF.done2 rfl rfl rfl (⟨rfl, rfl⟩)
  · skip
    refine WC.condF rfl ((beq_eq_false_iff_ne.2 h4)) ?_
    refine WC.region ?_
    refine WL.v (RV.eql rfl rfl) rfl ?_
    refine WL.v (RV.assign rfl) rfl ?_
    refine WL.nil ?_
    refine QF.seqNext ?_
    by_cases h5 : k = 5
    · subst h5
      refine WC.condT rfl (rfl) ?_
      refine WC.seq ?_
      refine WC.region ?_
      refine WL.v (RV.assign rfl) rfl ?_
      refine WL.v (RV.assign rfl) rfl ?_
      refine WL.nil ?_
      refine QF.seqNext ?_
      refine WC.ret ?_
      refine QF.blockRet ?_
      refine QF.thenRet ?_
      refine QF.done2 rfl rfl rfl (⟨rfl, rfl⟩)
    · skip
      refine WC.condF rfl ((beq_eq_false_iff_ne.2 h5)) ?_
      refine WC.seq ?_
      refine WC.seq ?_
      refine WC.region ?_
      refine WL.v (RV.eql rfl rfl) rfl ?_
      refine WL.v (RV.assign rfl) rfl ?_
      refine WL.nil ?_
      refine QF.seqNext ?_
      by_cases h6 : k = 6
      · subst h6
        refine WC.condT rfl (rfl) ?_
        refine WC.skip ?_
        refine QF.seqNext ?_
        refine WC.condT rfl (rfl) ?_
        refine WC.seq ?_
        refine WC.region ?_
        refine WL.v (RV.assign rfl) rfl ?_
        refine WL.v (RV.assign rfl) rfl ?_
        refine WL.nil ?_
        refine QF.seqNext ?_
        refine WC.ret ?_
        refine QF.blockRet ?_
        refine QF.thenRet ?_
        refine QF.done2 rfl rfl rfl (⟨rfl, rfl⟩)
      · skip
        refine WC.condF rfl ((beq_eq_false_iff_ne.2 h6)) ?_
        refine WC.seq ?_
        refine WC.region ?_
        refine WL.v (RV.eql rfl rfl) rfl ?_
        refine WL.v (RV.assign rfl) rfl ?_
        refine WL.nil ?_
        refine QF.seqNext ?_
        by_cases h7 : k = 7
        · subst h7
          refine WC.condT rfl (rfl) ?_
          refine WC.skip ?_
          refine QF.seqNext ?_
          refine WC.condT rfl (rfl) ?_
          refine WC.seq ?_
          refine WC.region ?_
          refine WL.v (RV.assign rfl) rfl ?_
          refine WL.v (RV.assign rfl) rfl ?_
          refine WL.nil ?_
          refine QF.seqNext ?_
          refine WC.ret ?_
          refine QF.blockRet ?_
          refine QF.thenRet ?_
          refine QF.done2 rfl rfl rfl (⟨rfl, rfl⟩)
        · skip
          refine WC.condF rfl ((beq_eq_false_iff_ne.2 h7)) ?_
          refine WC.region ?_
          refine WL.v (RV.eql rfl rfl) rfl ?_
          refine WL.v (RV.assign rfl) rfl ?_
          refine WL.nil ?_
          refine QF.seqNext ?_
          by_cases h8 : k = 8
          · subst h8
            refine WC.condT rfl (rfl) ?_
            refine WC.seq ?_
            refine WC.region ?_
            refine WL.v (RV.assign rfl) rfl ?_
            refine WL.v (RV.assign rfl) rfl ?_
            refine WL.nil ?_
            refine QF.seqNext ?_
            refine WC.ret ?_
            refine QF.blockRet ?_
            refine QF.thenRet ?_
            refine QF.done2 rfl rfl rfl (⟨rfl, rfl⟩)
          · skip
            refine WC.condF rfl ((beq_eq_false_iff_ne.2 h8)) ?_
            refine WC.skip ?_
            refine QF.blockNormal ?_
            refine QF.seqNext ?_
            refine WC.seq ?_
            refine WC.region ?_
            refine WL.v (RV.assign rfl) rfl ?_
            refine WL.v (RV.assign rfl) rfl ?_
            refine WL.nil ?_
            refine QF.seqNext ?_
            refine WC.ret ?_
            refine QF.done2 rfl rfl rfl (⟨by simp [least, most, h4, h5, h6, h7, h8], rfl⟩)
theorem fits1_of {b : Bool} {t : Nd} (ih : ∀ (y : N3) (W : World), Nt (fun _ => 0) W t y → Ret Tryz.prog 74 [nv y, .bool true] W fun v w' => v = .bool b ∧ Ext W w') (x : N3) (w : World) (h : Nt (fun _ => 0) w t x) :
    Ret Tryz.prog 97 [nv x] w fun v w' => v = .bool (!b) ∧ Ext w w' := by
  refine Ret.enter Tryz.func97 Tryz.ntmps97 rfl rfl ?_
  refine WC.seq ?_
  refine WC.region ?_
  refine WL.boxO (Rng.start w) 1 (by omega) rfl rfl ?_
  intro xb w1 O1 hx1 hU1 hR1 hE1
  refine WL.v (RV.assign rfl) rfl ?_
  refine WL.nil ?_
  refine QF.seqNext ?_
  refine WC.seq ?_
  refine WC.region ?_
  refine WL.v (RV.loadAgg (us := encN x) hx1.cellsAdd (Tryz.isAgg48 _) (Tryz.sizeOf48 _) rfl) rfl ?_
  refine WL.call Tryz.call74 rfl (ih x w1 (h.ext hE1)) rfl ?_
  rintro v w2 ⟨rfl, hE2⟩
  refine WL.v (RV.not rfl) rfl ?_
  refine WL.v (RV.assign rfl) rfl ?_
  refine WL.nil ?_
  refine QF.seqNext ?_
  refine WC.ret ?_
  refine QF.done1 rfl rfl (⟨rfl, hE1.trans hE2⟩)
theorem fits_ret : ∀ (n : Nat) (t : Nd), nsz t ≤ n → ∀ (x : N3) (w : World) (within : Bool), Nt (fun _ => 0) w t x → Ret Tryz.prog 74 [nv x, .bool within] w fun v w' => v = .bool (fitsM t within) ∧ Ext w w'
  | 0, t, hn => by have := nsz_pos t; omega
  | n + 1, .mk k c kids, hn => by
    intro x w within h
    have hx0 := h.ones
    obtain ⟨xs, hs, hf, hl, hk⟩ := h.kids
    simp only [Nd.kids] at hl hk
    simp only [nsz] at hn
    have hF : fitsM (.mk k c kids) within = (headOK k c kids.length within && fitsL kids) := rfl
    rw [hF]
    generalize x.2.2 = sv at *
    subst hx0
    simp only [Nd.kind, Nd.cls]
    refine Ret.enter Tryz.func74 Tryz.ntmps74 rfl rfl ?_
    refine WC.seq ?_
    refine WC.region ?_
    refine WL.boxO (Rng.start w) 1 (by omega) rfl rfl ?_
    intro xb w1 O1 hx1 hU1 hR1 hE1
    have c0 : w1.cell? ((⟨xb, 0, none⟩ : Addr).add 0) = some (.int .i64 k) := hx1.cell 0 rfl
    have c1 : w1.cell? ((⟨xb, 0, none⟩ : Addr).add 1) = some (.int .i64 c) := hx1.cell 1 rfl
    have c2 : w1.cell? ((⟨xb, 0, none⟩ : Addr).add 2) = some sv := hx1.cell 2 rfl
    have hs1 := hs.ext hE1
    refine WL.v (RV.assign rfl) rfl ?_
    refine WL.nil ?_
    refine QF.seqNext ?_
    refine WC.seq ?_
    refine WC.region ?_
    refine WL.v (RV.fieldAddr 0 Tryz.underlying48 rfl rfl (Tryz.sizeOf3 _) (by decide) rfl) rfl ?_
    refine WL.v (RV.load (by first | exact c0 | exact c1 | exact c2) (Tryz.isAgg3 _) rfl) rfl ?_
    refine WL.v (RV.eql rfl rfl) rfl ?_
    refine WL.v (RV.move rfl) rfl ?_
    refine WL.orBS (fun w1 => _ = w1) ((k == 2)) 3 (rfl) rfl rfl rfl rfl rfl ?_ ?_
    · skip
      intro a1
      refine WL.on rfl ?_
      refine WL.v (RV.fieldAddr 0 Tryz.underlying48 rfl rfl (Tryz.sizeOf3 _) (by decide) rfl) rfl ?_
      refine WL.on rfl ?_
      refine WL.v (RV.load (by first | exact c0 | exact c1 | exact c2) (Tryz.isAgg3 _) rfl) rfl ?_
      refine WL.on rfl ?_
      refine WL.v (RV.eql rfl rfl) rfl ?_
      refine WL.nil ?_
      refine QF.andEnd (tA := 11) 4 (rfl) rfl rfl rfl (fun v hv => (Option.some.inj hv).symm.trans (congrArg Value.bool a1)) rfl
    rintro _ rfl
    refine WL.v (RV.assign rfl) rfl ?_
    refine WL.nil ?_
    refine QF.seqNext ?_
    refine WC.seq ?_
    refine WC.region ?_
    refine WL.v (RV.fieldAddr 0 Tryz.underlying48 rfl rfl (Tryz.sizeOf3 _) (by decide) rfl) rfl ?_
    refine WL.v (RV.load (by first | exact c0 | exact c1 | exact c2) (Tryz.isAgg3 _) rfl) rfl ?_
    refine WL.call Tryz.call95 rfl (many_ret k w1) rfl ?_
    rintro v w9 ⟨rfl, hw9⟩
    rw [hw9]
    clear hw9 w9
    refine WL.v (RV.move rfl) rfl ?_
    refine WL.v (RV.extract rfl rfl) rfl ?_
    refine WL.v (RV.extract rfl rfl) rfl ?_
    refine WL.v (RV.assign rfl) rfl ?_
    refine WL.v (RV.assign rfl) rfl ?_
    refine WL.nil ?_
    refine QF.seqNext ?_
    refine WC.seq ?_
    refine WC.block ?_
    refine WC.seq ?_
    refine WC.region ?_
    refine WL.v (RV.fieldAddr 0 Tryz.underlying48 rfl rfl (Tryz.sizeOf3 _) (by decide) rfl) rfl ?_
    refine WL.v (RV.load (by first | exact c0 | exact c1 | exact c2) (Tryz.isAgg3 _) rfl) rfl ?_
    refine WL.v (RV.lss rfl rfl) rfl ?_
    refine WL.v (RV.move rfl) rfl ?_
    refine WL.orBS (fun w1 => _ = w1) (decide (9 < k)) 3 (rfl) rfl rfl rfl rfl rfl ?_ ?_
    · skip
      intro a2
      refine WL.on rfl ?_
      refine WL.v (RV.fieldAddr 0 Tryz.underlying48 rfl rfl (Tryz.sizeOf3 _) (by decide) rfl) rfl ?_
      refine WL.on rfl ?_
      refine WL.v (RV.load (by first | exact c0 | exact c1 | exact c2) (Tryz.isAgg3 _) rfl) rfl ?_
      refine WL.on rfl ?_
      refine WL.v (RV.gtr rfl rfl) rfl ?_
      refine WL.nil ?_
      refine QF.andEnd (tA := 26) 4 (rfl) rfl rfl rfl (fun v hv => (Option.some.inj hv).symm.trans (congrArg Value.bool a2)) rfl
    rintro _ rfl
    refine WL.v (RV.move rfl) rfl ?_
    refine WL.orBS (fun w1 => _ = w1) (((k == 9) && within)) 6 (rfl) rfl rfl rfl rfl rfl ?_ ?_
    · skip
      intro a3
      refine WL.on rfl ?_
      refine WL.v (RV.fieldAddr 0 Tryz.underlying48 rfl rfl (Tryz.sizeOf3 _) (by decide) rfl) rfl ?_
      refine WL.on rfl ?_
      refine WL.v (RV.load (by first | exact c0 | exact c1 | exact c2) (Tryz.isAgg3 _) rfl) rfl ?_
      refine WL.on rfl ?_
      refine WL.v (RV.eql rfl rfl) rfl ?_
      refine WL.on rfl ?_
      refine WL.v (RV.move rfl) rfl ?_
      cases hk9 : (k == 9) with
      | true =>
        refine WL.know (d := 35) rfl (b' := true) (rfl) ?_
        refine WL.on rfl ?_
        refine WL.v (RV.move rfl) rfl ?_
        refine WL.on rfl ?_
        refine WL.v (RV.pickT rfl rfl) rfl ?_
        refine WL.nil ?_
        refine QF.andEnd (tA := 31) 8 (rfl) rfl rfl rfl (fun v hv => (Option.some.inj hv).symm.trans (congrArg Value.bool a3)) rfl
      | false =>
        refine WL.know (d := 35) rfl (b' := false) (rfl) ?_
        refine WL.off rfl rfl rfl ?_
        refine WL.on rfl ?_
        refine WL.v (RV.pickF rfl rfl) rfl ?_
        refine WL.nil ?_
        refine QF.andEnd (tA := 31) 8 (rfl) rfl rfl rfl (fun v hv => (Option.some.inj hv).symm.trans (congrArg Value.bool a3)) rfl
    rintro _ rfl
    refine WL.v (RV.assign rfl) rfl ?_
    refine WL.nil ?_
    refine QF.seqNext ?_
    cases h1 : (decide (k < 0) || decide (9 < k) || ((k == 9) && within)) with
    | true =>
      refine WC.condT rfl (rfl) ?_
      refine WC.seq ?_
      refine WC.region ?_
      refine WL.v (RV.assign rfl) rfl ?_
      refine WL.nil ?_
      refine QF.seqNext ?_
      refine WC.ret ?_
      refine QF.blockRet ?_
      refine QF.thenRet ?_
      refine QF.done1 rfl rfl (⟨by simp only [headOK, h1]; rfl, hE1⟩)
    | false =>
      refine WC.condF rfl (rfl) ?_
      refine WC.seq ?_
      refine WC.region ?_
      refine WL.v (RV.fieldAddr 2 Tryz.underlying48 rfl rfl (Tryz.sizeOf46 _) (by decide) rfl) rfl ?_
      refine WL.v (RV.load (by first | exact c0 | exact c1 | exact c2) (Tryz.isAgg46 _) rfl) rfl ?_
      refine WL.v (RV.len (by first | exact hs1) Tryz.underlying46 rfl) rfl ?_
      refine WL.v (RV.move rfl) rfl ?_
      refine WL.v (RV.lss rfl rfl) rfl ?_
      refine WL.v (RV.move rfl) rfl ?_
      refine WL.orBS (fun w1 => _ = w1) (decide (most k < (xs.length : Int))) 5 (rfl) rfl rfl rfl rfl rfl ?_ ?_
      · skip
        intro a5
        refine WL.on rfl ?_
        refine WL.v (RV.fieldAddr 2 Tryz.underlying48 rfl rfl (Tryz.sizeOf46 _) (by decide) rfl) rfl ?_
        refine WL.on rfl ?_
        refine WL.v (RV.load (by first | exact c0 | exact c1 | exact c2) (Tryz.isAgg46 _) rfl) rfl ?_
        refine WL.on rfl ?_
        refine WL.v (RV.len (by first | exact hs1) Tryz.underlying46 rfl) rfl ?_
        refine WL.on rfl ?_
        refine WL.v (RV.move rfl) rfl ?_
        refine WL.on rfl ?_
        refine WL.v (RV.gtr rfl rfl) rfl ?_
        refine WL.nil ?_
        refine QF.andEnd (tA := 45) 6 (rfl) rfl rfl rfl (fun v hv => (Option.some.inj hv).symm.trans (congrArg Value.bool a5)) rfl
      rintro _ rfl
      refine WL.v (RV.assign rfl) rfl ?_
      refine WL.nil ?_
      refine QF.seqNext ?_
      cases h2 : (decide ((xs.length : Int) < least k) || decide (most k < (xs.length : Int))) with
      | true =>
        refine WC.condT rfl (rfl) ?_
        refine WC.seq ?_
        refine WC.region ?_
        refine WL.v (RV.assign rfl) rfl ?_
        refine WL.nil ?_
        refine QF.seqNext ?_
        refine WC.ret ?_
        refine QF.blockRet ?_
        refine QF.thenRet ?_
        refine QF.done1 rfl rfl (⟨by simp only [headOK, h1, hl, h2]; rfl, hE1⟩)
      | false =>
        refine WC.condF rfl (rfl) ?_
        refine WC.seq ?_
        refine WC.region ?_
        refine WL.v (RV.move rfl) rfl ?_
        refine WL.v (RV.move rfl) rfl ?_
        refine WL.andBS (fun w1 => _ = w1) ((decide (c < 0) || decide (36 ≤ c))) 8 (rfl) rfl rfl rfl rfl rfl ?_ ?_
        · skip
          intro a6
          refine WL.on rfl ?_
          refine WL.v (RV.fieldAddr 1 Tryz.underlying48 rfl rfl (Tryz.sizeOf3 _) (by decide) rfl) rfl ?_
          refine WL.on rfl ?_
          refine WL.v (RV.load (by first | exact c0 | exact c1 | exact c2) (Tryz.isAgg3 _) rfl) rfl ?_
          refine WL.on rfl ?_
          refine WL.v (RV.lss rfl rfl) rfl ?_
          refine WL.on rfl ?_
          refine WL.v (RV.move rfl) rfl ?_
          cases hk9 : decide (c < 0) with
          | true =>
            refine WL.know (d := 58) rfl (b' := true) (rfl) ?_
            refine WL.off rfl rfl rfl ?_
            refine WL.off rfl rfl rfl ?_
            refine WL.off rfl rfl rfl ?_
            refine WL.on rfl ?_
            refine WL.v (RV.pickT rfl rfl) rfl ?_
            refine WL.nil ?_
            refine QF.andEnd (tA := 54) 10 (rfl) rfl rfl rfl (fun v hv => (Option.some.inj hv).symm.trans (congrArg Value.bool a6)) rfl
          | false =>
            refine WL.know (d := 58) rfl (b' := false) (rfl) ?_
            refine WL.on rfl ?_
            refine WL.v (RV.fieldAddr 1 Tryz.underlying48 rfl rfl (Tryz.sizeOf3 _) (by decide) rfl) rfl ?_
            refine WL.on rfl ?_
            refine WL.v (RV.load (by first | exact c0 | exact c1 | exact c2) (Tryz.isAgg3 _) rfl) rfl ?_
            refine WL.on rfl ?_
            refine WL.v (RV.geq rfl rfl) rfl ?_
            refine WL.on rfl ?_
            refine WL.v (RV.pickF rfl rfl) rfl ?_
            refine WL.nil ?_
            refine QF.andEnd (tA := 54) 10 (rfl) rfl rfl rfl (fun v hv => (Option.some.inj hv).symm.trans (congrArg Value.bool a6)) rfl
        rintro _ rfl
        refine WL.v (RV.move rfl) rfl ?_
        refine WL.orBS (fun w1 => _ = w1) ((!((k == 0) || (k == 2)) && (c != 0))) 7 (rfl) rfl rfl rfl rfl rfl ?_ ?_
        · skip
          intro a8
          refine WL.on rfl ?_
          refine WL.v (RV.move rfl) rfl ?_
          refine WL.on rfl ?_
          refine WL.v (RV.not rfl) rfl ?_
          refine WL.on rfl ?_
          refine WL.v (RV.move rfl) rfl ?_
          cases hk9 : ((k == 0) || (k == 2)) with
          | true =>
            rw [hk9] at a8
            refine WL.know (d := 67) rfl (b' := false) (rfl) ?_
            refine WL.off rfl rfl rfl ?_
            refine WL.off rfl rfl rfl ?_
            refine WL.off rfl rfl rfl ?_
            refine WL.on rfl ?_
            refine WL.v (RV.pickF rfl rfl) rfl ?_
            refine WL.nil ?_
            refine QF.andEnd (tA := 64) 9 (rfl) rfl rfl rfl (fun v hv => (Option.some.inj hv).symm.trans (congrArg Value.bool a8)) rfl
          | false =>
            rw [hk9] at a8
            refine WL.know (d := 67) rfl (b' := true) (rfl) ?_
            refine WL.on rfl ?_
            refine WL.v (RV.fieldAddr 1 Tryz.underlying48 rfl rfl (Tryz.sizeOf3 _) (by decide) rfl) rfl ?_
            refine WL.on rfl ?_
            refine WL.v (RV.load (by first | exact c0 | exact c1 | exact c2) (Tryz.isAgg3 _) rfl) rfl ?_
            refine WL.on rfl ?_
            refine WL.v (RV.neq rfl rfl) rfl ?_
            refine WL.on rfl ?_
            refine WL.v (RV.pickT rfl rfl) rfl ?_
            refine WL.nil ?_
            refine QF.andEnd (tA := 64) 9 (rfl) rfl rfl rfl (fun v hv => (Option.some.inj hv).symm.trans (congrArg Value.bool a8)) rfl
        rintro _ rfl
        refine WL.v (RV.assign rfl) rfl ?_
        refine WL.nil ?_
        refine QF.seqNext ?_
        cases h3 : (((((k == 0) || (k == 2)) && (decide (c < 0) || decide (36 ≤ c)))) || (!((k == 0) || (k == 2)) && (c != 0))) with
        | true =>
          refine WC.condT rfl (rfl) ?_
          refine WC.seq ?_
          refine WC.region ?_
          refine WL.v (RV.assign rfl) rfl ?_
          refine WL.nil ?_
          refine QF.seqNext ?_
          refine WC.ret ?_
          refine QF.blockRet ?_
          refine QF.thenRet ?_
          refine QF.done1 rfl rfl (⟨by simp only [headOK, h1, hl, h2, named, h3]; rfl, hE1⟩)
        | false =>
          refine WC.condF rfl (rfl) ?_
          refine WC.skip ?_
          refine QF.blockNormal ?_
          refine QF.seqNext ?_
          refine WC.seq ?_
          refine WC.region ?_
          refine WL.v (RV.fieldAddr 2 Tryz.underlying48 rfl rfl (Tryz.sizeOf46 _) (by decide) rfl) rfl ?_
          refine WL.v (RV.load (by first | exact c0 | exact c1 | exact c2) (Tryz.isAgg46 _) rfl) rfl ?_
          refine WL.call Tryz.call96 rfl (containsFuncNode_ret Tryz.call97 #[] xs sv (fun i => !(fitsM (nth kids i) true)) w1 hs1 (fun i hi w' hE => fits1_of (fun y W hy => fits_ret n (nth kids i) (by have := nszL_nth kids i (by omega); omega) y W true hy) (nth xs i) w' ((hk i hi).ext (hE1.trans hE)))) rfl ?_
          rintro v w2 ⟨rfl, hE2⟩
          refine WL.v (RV.not rfl) rfl ?_
          refine WL.v (RV.assign rfl) rfl ?_
          refine WL.nil ?_
          refine QF.seqNext ?_
          refine WC.ret ?_
          have hfl := fitsL_any kids
          rw [hl] at hfl
          refine QF.done1 rfl rfl (⟨by rw [hfl]; simp only [headOK, h1, hl, h2, named, h3]; rfl, hE1.trans hE2⟩)
theorem right_ret (t : Nd) (x : N3) (w : World) (h : Nt (fun _ => 0) w t x) : Ret Tryz.prog 49 [nv x] w fun v w' => v = .bool (rightM t) ∧ Ext w w' := by
  have hx := h.ones
  refine Ret.enter Tryz.func49 Tryz.ntmps49 rfl rfl ?_
  refine WC.seq ?_
  refine WC.region ?_
  refine WL.boxO (Rng.start w) 1 (by omega) rfl rfl ?_
  intro xb w1 O1 hx1 hU1 hR1 hE1
  have hc1 : ∀ W, Ext w1 W → ∀ (j : Nat) (u : Value), (encN x)[j]? = some u → W.cell? ((⟨xb, 0, none⟩ : Addr).add j) = some u := fun W hE j u hu => hE.cell (hx1.cellsAdd j u hu)
  refine WL.v (RV.assign rfl) rfl ?_
  refine WL.nil ?_
  refine QF.seqNext ?_
  refine WC.seq ?_
  refine WC.region ?_
  refine WL.v (RV.loadAgg (us := encN x) (hc1 w1 (Ext.refl _)) (Tryz.isAgg48 _) (Tryz.sizeOf48 _) rfl) rfl ?_
  refine WL.call Tryz.call73 rfl (size_ret (nsz t) t (Nat.le_refl _) x w1 2000 (h.ext hE1) (by omega)) rfl ?_
  rintro v w2 ⟨rfl, hE2⟩
  have hd : decide (((min (nsz t) (2000 + 1) : Nat) : Int) ≤ 2000) = decide (nsz t ≤ 2000) := decide_eq_decide.2 (by omega)
  refine WL.v (RV.leq rfl rfl) rfl ?_
  refine WL.v (RV.move rfl) rfl ?_
  rw [hd]
  refine WL.andBS (Ext w1) (fitsM t false) 2 (hE2) rfl rfl rfl rfl rfl ?_ ?_
  · skip
    intro a1
    refine WL.on rfl ?_
    refine WL.v (RV.loadAgg (us := encN x) (hc1 _ hE2) (Tryz.isAgg48 _) (Tryz.sizeOf48 _) rfl) rfl ?_
    refine WL.on rfl ?_
    refine WL.call Tryz.call74 rfl (fits_ret (nsz t) t (Nat.le_refl _) x _ false (h.ext (hE1.trans hE2))) rfl ?_
    rintro v w3 ⟨rfl, hE3⟩
    refine WL.nil ?_
    refine QF.andEnd (tA := 6) 3 (hE2.trans hE3) rfl rfl rfl (fun v hv => (Option.some.inj hv).symm.trans (congrArg Value.bool a1)) rfl
  intro w3 hE3
  refine WL.v (RV.assign rfl) rfl ?_
  refine WL.nil ?_
  refine QF.seqNext ?_
  refine WC.ret ?_
  refine QF.done1 rfl rfl (⟨rfl, hE1.trans hE3⟩)
end Go.Proofs.YtmohcfjopaccdaaGreatDoor
