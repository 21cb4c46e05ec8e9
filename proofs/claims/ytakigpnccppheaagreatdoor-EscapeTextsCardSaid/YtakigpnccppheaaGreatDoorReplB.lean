/- Package strings, walked: a Replacer's Replace; package escape: Escape. -/
import Derived.Test.YtakigpnccppheaaGreatDoorRepl
import Derived.Lib.Bytealg
namespace Go.Proofs.YtakigpnccppheaaGreatDoor
open Go.VL Go.Proofs
set_option maxRecDepth 10000

def RepR (w : World) (sv : Value) : Option (List UInt8) → Prop
  | none => sv = .slice none 0 0
  | some r => Sl encB 1 w sv r ∧ ∃ q c, sv = .slice (some q) r.length c
structure BuiltR (w : World) (rb : Nat) : Prop where
  reps : ∀ k, k < 256 → ∃ sv, w.cell? ((⟨rb, 0, none⟩ : Addr).add k) = some sv ∧ RepR w sv (repAt 3 k)
  to : ∃ tv, w.cell? ⟨rb, 256, none⟩ = some tv ∧ Sl encS 1 w tv (toM 3)
theorem RepR.ext {w w' : World} {sv : Value} {o : Option (List UInt8)} (h : RepR w sv o) (e : Ext w w') : RepR w' sv o := by
  cases o with
  | none => exact h
  | some r => exact ⟨h.1.ext e, h.2⟩
theorem BuiltR.ext {w w' : World} {rb : Nat} (h : BuiltR w rb) (e : Ext w w') : BuiltR w' rb := by
  refine ⟨fun k hk => ?_, ?_⟩
  · obtain ⟨sv, h1, h2⟩ := h.reps k hk
    exact ⟨sv, e.cell h1, h2.ext e⟩
  · obtain ⟨tv, h1, h2⟩ := h.to
    exact ⟨tv, e.cell h1, h2.ext e⟩
theorem add_at (b k : Nat) : (⟨b, 0, none⟩ : Addr).add k = ⟨b, k, none⟩ := by
  simp only [Addr.add]; split <;> simp_all
theorem Built.r {O : Nat → Nat} {w : World} {rb : Nat} {cs : Array Value} (h : Built O w rb cs) : BuiltR w rb := by
  refine ⟨fun k hk => ?_, ?_⟩
  · obtain ⟨sv, h1, h2⟩ := h.reps k hk
    refine ⟨sv, by rw [add_at]; exact h.blk.cell k h1, ?_⟩
    cases hr : repAt 3 k with
    | none => rw [hr] at h2; exact h2
    | some r => rw [hr] at h2; exact ⟨h2.1, h2.2.2⟩
  · obtain ⟨tv, h1, h2⟩ := h.to
    exact ⟨tv, h.blk.cell 256 h1, h2.sl⟩
theorem repAt_len {k : Nat} {r : List UInt8} (h : repAt 3 k = some r) : 0 < r.length ∧ r.length ≤ 5 := by
  unfold repAt at h
  split at h
  · cases h; decide
  · split at h
    · cases h; decide
    · split at h
      · cases h; decide
      · cases h
theorem escM_take {l : List UInt8} {i : Nat} (h : i < l.length) : escM (l.take (i + 1)) = escM (l.take i) ++ (repAt 3 (nth l i).toNat).getD [nth l i] := by
  rw [take_nth h, ← repAt_escB]; simp [escM]
theorem escM_part (l : List UInt8) (i : Nat) : (escM (l.take i)).length ≤ (escM l).length := by
  have : escM l = escM (l.take i) ++ escM (l.drop i) := by
    unfold escM; rw [← List.flatMap_append, List.take_append_drop]
  rw [this, List.length_append]; omega
theorem elB : Elem Tryz.prog 31 5 1 1 := ⟨Tryz.underlying31, by kernel_rfl, by decide⟩
theorem infoB : (Tryz.prog.info? 5).map (·.size) = some 1 := by kernel_rfl
theorem toNat_lt (b : UInt8) : b.toNat < 256 := b.toNat_lt

/-- By how much a text grows, by the first bytes that are replaced. -/
def cntTo (l : List UInt8) : Nat → Int
  | 0 => 0
  | 1 => (l.count 62 : Int) * 3
  | 2 => (l.count 62 : Int) * 3 + (l.count 60 : Int) * 3
  | _ => (l.count 62 : Int) * 3 + (l.count 60 : Int) * 3 + (l.count 38 : Int) * 4
theorem cntTo_all (l : List UInt8) : ((escM l).length : Int) = l.length + cntTo l 3 := by
  simp only [cntTo]
  induction l with
  | nil => simp [escM]
  | cons b l ih =>
    have e : escM (b :: l) = escB b ++ escM l := by simp [escM]
    rw [e, List.length_append, List.count_cons, List.count_cons, List.count_cons, List.length_cons]
    unfold escB
    by_cases h1 : b = 38
    · subst h1
      rw [if_pos rfl]
      have e1 : ((38 : UInt8) == 62) = false := rfl
      have e2 : ((38 : UInt8) == 60) = false := rfl
      have e3 : ((38 : UInt8) == 38) = true := rfl
      rw [e1, e2, e3]
      simp only [List.length_cons, List.length_nil, Bool.false_eq_true, if_false, if_true]
      omega
    · rw [if_neg h1]
      have f1 : (b == 38) = false := by simpa using h1
      rw [f1]
      by_cases h2 : b = 60
      · subst h2
        rw [if_pos rfl]
        have e1 : ((60 : UInt8) == 62) = false := rfl
        have e2 : ((60 : UInt8) == 60) = true := rfl
        rw [e1, e2]
        simp only [List.length_cons, List.length_nil, Bool.false_eq_true, if_false, if_true]
        omega
      · rw [if_neg h2]
        have f2 : (b == 60) = false := by simpa using h2
        rw [f2]
        by_cases h3 : b = 62
        · subst h3
          rw [if_pos rfl]
          have e1 : ((62 : UInt8) == 62) = true := rfl
          rw [e1]
          simp only [List.length_cons, List.length_nil, Bool.false_eq_true, if_false, if_true]
          omega
        · rw [if_neg h3]
          have f3 : (b == 62) = false := by simpa using h3
          rw [f3]
          simp only [List.length_cons, List.length_nil, Bool.false_eq_true, if_false]
          omega
theorem cnt_none (l : List UInt8) (h1 : l.count 62 = 0) (h2 : l.count 60 = 0) (h3 : l.count 38 = 0) : escM l = l := by
  rw [List.count_eq_zero] at h1 h2 h3
  induction l with
  | nil => rfl
  | cons b l ih =>
    simp only [List.mem_cons, not_or] at h1 h2 h3
    have e : escM (b :: l) = escB b ++ escM l := by simp [escM]
    rw [e, ih h1.2 h2.2 h3.2, escB, if_neg (fun e => h3.1 e.symm), if_neg (fun e => h2.1 e.symm), if_neg (fun e => h1.1 e.symm)]
    rfl
theorem count1_ret (l : List UInt8) (c : UInt8) (w : World) : Ret Tryz.prog 217 [.string (bs l), .string (bs [c])] w fun v w' => v = .int .i64 (l.count c) ∧ w = w' := by
  have hl1 : [c].length = 1 := rfl
  have hrun : ∀ W : World, (callFunc 219 #[.string (bs l), .int .u8 (c.toNat : Int)]).run Tryz.prog W = .ok (.value (.int .i64 (l.count c))) W := fun W => by
    rw [run_callFunc_extern Tryz.func219 (by kernel_rfl) (by kernel_rfl) (by kernel_rfl) (e := Extern.BytealgCount.count) (by kernel_rfl), Lib.run_countString]
    simp [Result.andThen, Lib.countByte, bs]
  refine Ret.enter Tryz.func217 Tryz.ntmps217 rfl rfl ?_
  refine WC.seq ?_
  refine WC.region ?_
  refine WL.v (RV.assign rfl) rfl ?_
  refine WL.nil ?_
  refine QF.seqNext ?_
  refine WC.seq ?_
  refine WC.seq ?_
  refine WC.region ?_
  refine WL.v (RV.move rfl) rfl ?_
  refine WL.v (RV.lenS Tryz.underlying9 rfl) rfl ?_
  refine WL.v (RV.eql rfl rfl) rfl ?_
  refine WL.nil ?_
  refine QF.seqNext ?_
  refine WC.condF rfl (rfl) ?_
  refine WC.skip ?_
  refine QF.seqNext ?_
  refine WC.seq ?_
  refine WC.seq ?_
  refine WC.region ?_
  refine WL.v (RV.move rfl) rfl ?_
  refine WL.v (RV.lenS Tryz.underlying9 rfl) rfl ?_
  refine WL.v (RV.eql rfl rfl) rfl ?_
  refine WL.nil ?_
  refine QF.seqNext ?_
  refine WC.condT rfl (rfl) ?_
  refine WC.seq ?_
  refine WC.region ?_
  refine WL.v (RV.move rfl) rfl ?_
  refine WL.v (RV.move rfl) rfl ?_
  refine WL.v (RV.indexS1 Tryz.underlying9 rfl rfl 0 rfl rfl) rfl ?_
  refine WL.v (RV.ext (vs := [.string (bs l), .int .u8 (c.toNat : Int)]) (hrun w) rfl) rfl ?_
  refine WL.v (RV.assign rfl) rfl ?_
  refine WL.nil ?_
  refine QF.seqNext ?_
  refine WC.ret ?_
  refine QF.thenRet ?_
  refine QF.done1 rfl rfl (⟨rfl, rfl⟩)
theorem toM_cell {W : World} {tv : Value} (h : Sl encS 1 W tv (toM 3)) (n : Nat) {s : List UInt8} (hn : (toM 3)[n]? = some s) : W.cell? (adr tv 1 n) = some (.string (bs s)) := by
  obtain ⟨h1, h2⟩ := List.getElem?_eq_some_iff.1 hn
  have := h.cells n h1 0 _ rfl
  rw [h2] at this
  exact this

def toB (j : Nat) : UInt8 := if j = 0 then 62 else if j = 1 then 60 else 38
theorem bsr_ret (l : List UInt8) (rb : Nat) (w : World) (h : BuiltR w rb) (hl : l.length ≤ 1000000) :
    Ret Tryz.prog 215 [.pointer (some ⟨rb, 0, none⟩), .string (bs l)] w fun v w' => v = .string (bs (escM l)) ∧ Ext w w' := by
  obtain ⟨tv, htv, hts⟩ := h.to
  have htl : (toM 3).length = 3 := rfl
  have hM := escM_len l
  refine Ret.enter Tryz.func215 Tryz.ntmps215 rfl rfl ?_
  refine WC.seq ?_
  refine WC.region ?_
  refine WL.v (RV.assign rfl) rfl ?_
  refine WL.nil ?_
  refine QF.seqNext ?_
  refine WC.seq ?_
  refine WC.region ?_
  refine WL.v (RV.move rfl) rfl ?_
  refine WL.v (RV.lenS Tryz.underlying9 rfl) rfl ?_
  refine WL.v (RV.assign rfl) rfl ?_
  refine WL.nil ?_
  refine QF.seqNext ?_
  refine WC.seq ?_
  refine WC.region ?_
  refine WL.v (RV.assign rfl) rfl ?_
  refine WL.nil ?_
  refine QF.seqNext ?_
  refine WC.seq ?_
  refine WC.seq ?_
  refine WC.region ?_
  refine WL.v (RV.move rfl) rfl ?_
  refine WL.v (RV.nilPtr rfl) rfl ?_
  refine WL.v (RV.fieldAddr 256 Tryz.underlying150 rfl rfl (Tryz.sizeOf40 _) (by decide) rfl) rfl ?_
  refine WL.v (RV.load (by first | exact htv) (Tryz.isAgg40 _) rfl) rfl ?_
  refine WL.v (RV.len (by first | exact hts) Tryz.underlying40 rfl) rfl ?_
  refine WL.v (RV.mul rfl rfl (Fit.i64 (by omega))) rfl ?_
  refine WL.v (RV.move rfl) rfl ?_
  refine WL.v (RV.lenS Tryz.underlying9 rfl) rfl ?_
  refine WL.v (RV.leq rfl rfl) rfl ?_
  refine WL.nil ?_
  refine QF.seqNext ?_
  refine WC.cond rfl ?_ ?_
  · intro hbig
    clear hbig
    refine WC.seq ?_
    refine WC.region ?_
    refine WL.v (RV.move rfl) rfl ?_
    refine WL.v (RV.nilPtr rfl) rfl ?_
    refine WL.v (RV.fieldAddr 256 Tryz.underlying150 rfl rfl (Tryz.sizeOf40 _) (by decide) rfl) rfl ?_
    refine WL.v (RV.load (by first | exact htv) (Tryz.isAgg40 _) rfl) rfl ?_
    refine WL.v (RV.len (by first | exact hts) Tryz.underlying40 rfl) rfl ?_
    refine WL.v (RV.move rfl) rfl ?_
    refine WL.nil ?_
    refine QF.seqNext ?_
    refine WC.block ?_
    refine WC.loop (fun x : Nat × Int × Bool × World => [(0, .pointer (some ⟨rb, 0, none⟩)), (1, .string (bs l)), (5, .int .i64 x.2.1), (6, .bool x.2.2.1), (30, tv), (31, .int .i64 ((toM 3).length : Nat)), (32, .int .i64 x.1)]) (fun x : Nat × Int × Bool × World => x.2.2.2) (fun x : Nat × Int × Bool × World => x.1 ≤ 3 ∧ x.2.1 = l.length + cntTo l x.1 ∧ (x.2.2.1 = false → ∀ j, j < x.1 → l.count (toB j) = 0) ∧ Ext w x.2.2.2) (fun x : Nat × Int × Bool × World => 3 - x.1) (0, (l.length : Int), false, w) (⟨Nat.zero_le _, by simp [cntTo], (fun _ j hj => by omega), Ext.refl w⟩) ⟨rfl, rfl, rfl, rfl, rfl, rfl, rfl, trivial⟩ rfl ?_
    rintro ⟨i, ns, any, w1⟩ ⟨hi, hns, hany, hEw⟩
    dsimp only at hi hns hany hEw ⊢
    subst hns
    have h1 := h.ext hEw
    have hts1 := hts.ext hEw
    refine WC.seq ?_
    refine WC.region ?_
    refine WL.v (RV.lss rfl rfl) rfl ?_
    refine WL.nil ?_
    refine QF.seqNext ?_
    refine WC.seq ?_
    refine WC.cond rfl ?_ ?_
    · intro hlt
      replace hlt : i < 3 := by have := of_decide_eq_true hlt; omega
      have hc1 : l.count 62 ≤ l.length := List.count_le_length
      have hc2 : l.count 60 ≤ l.length := List.count_le_length
      have hct : ∀ j, j ≤ 2 → 0 ≤ cntTo l j ∧ cntTo l j ≤ 6 * l.length := fun j hj => by
        obtain rfl | rfl | rfl : j = 0 ∨ j = 1 ∨ j = 2 := by omega
        · simp only [cntTo]; omega
        · simp only [cntTo]; omega
        · simp only [cntTo]; omega
      have hct := hct i (by omega)
      refine WC.skip ?_
      refine QF.seqNext ?_
      refine WC.seq ?_
      refine WC.block ?_
      refine WC.seq ?_
      refine WC.region ?_
      obtain rfl | rfl | rfl : i = 0 ∨ i = 1 ∨ i = 2 := by omega
      · skip
        obtain ⟨sv, hsv, hrep⟩ := h1.reps 62 (by decide)
        rw [show repAt 3 62 = some [38, 103, 116, 59] from rfl] at hrep
        obtain ⟨hrs, q, c, rfl⟩ := hrep
        have hrl : ([38, 103, 116, 59] : List UInt8).length = 3 + 1 := rfl
        have hcl : l.count 62 ≤ l.length := List.count_le_length
        refine WL.v (RV.indexAddr hts1 Tryz.underlying40 (Tryz.sizeOf9 _) rfl rfl 0 rfl (by decide)) rfl ?_
        refine WL.v (RV.load (by first | exact toM_cell hts1 0 rfl) (Tryz.isAgg9 _) rfl) rfl ?_
        refine WL.v (RV.assign rfl) rfl ?_
        refine WL.nil ?_
        refine QF.seqNext ?_
        refine WC.seq ?_
        refine WC.region ?_
        refine WL.v (RV.move rfl) rfl ?_
        refine WL.v (RV.move rfl) rfl ?_
        refine WL.call Tryz.call217 rfl (count1_ret l 62 w1) rfl ?_
        rintro v _ ⟨rfl, rfl⟩
        refine WL.v (RV.assign rfl) rfl ?_
        refine WL.nil ?_
        refine QF.seqNext ?_
        refine WC.seq ?_
        refine WC.region ?_
        refine WL.v (RV.move rfl) rfl ?_
        refine WL.v (RV.neq rfl rfl) rfl ?_
        refine WL.nil ?_
        refine QF.seqNext ?_
        refine WC.cond rfl ?_ ?_
        · intro hc
          replace hc : l.count 62 ≠ 0 := by intro e; rw [e] at hc; cases hc
          refine WC.seq ?_
          refine WC.still (by kernel_rfl) (by kernel_rfl) ?_
          refine WS.v (RV.move rfl) rfl ?_
          refine WS.v (RV.move rfl) rfl ?_
          refine WS.v (RV.move rfl) rfl ?_
          refine WS.v (RV.move rfl) rfl ?_
          refine WS.v (RV.indexS1 (a := [62]) Tryz.underlying9 rfl rfl 0 rfl rfl) rfl ?_
          refine WS.v (RV.nilPtr rfl) rfl ?_
          refine WS.v (RV.fieldAddr 0 Tryz.underlying150 rfl rfl (Tryz.sizeOf148 _) (by decide) rfl) rfl ?_
          refine WS.v (RV.indexAddrA1 Tryz.underlying148 (Tryz.sizeOf31 _) rfl rfl 62 rfl (by decide)) rfl ?_
          refine WS.v (RV.load (by first | exact hsv) (Tryz.isAgg31 _) rfl) rfl ?_
          refine WS.v (RV.len (by first | exact (hrs).drew) Tryz.underlying31 rfl) rfl ?_
          refine WS.v (RV.sub rfl rfl (Fit.i64 (by omega))) rfl ?_
          refine WS.v (RV.mul rfl rfl (Fit.i64 (by rw [hrl]; omega))) rfl ?_
          refine WS.v (RV.add rfl rfl (Fit.i64 (by rw [hrl]; omega))) rfl ?_
          refine WS.v (RV.assign rfl) rfl ?_
          refine WS.nil ?_
          refine QF.seqNext ?_
          refine WC.region ?_
          refine WL.v (RV.assign rfl) rfl ?_
          refine WL.nil ?_
          refine QF.blockNormal ?_
          refine QF.seqNext ?_
          refine WC.region ?_
          refine WL.v (RV.add rfl rfl (Fit.i64 (by omega))) rfl ?_
          refine WL.v (RV.move rfl) rfl ?_
          refine WL.nil ?_
          refine QF.next ((0 + 1, (l.length : Int) + cntTo l 0 + (l.count 62 : Int) * ((([38, 103, 116, 59] : List UInt8).length : Int) - 1), true, w1.drew)) (⟨by dsimp only; omega, by dsimp only; rw [hrl]; simp only [cntTo]; omega, (fun e => by cases e), hEw.drew⟩) (by dsimp only; omega) ⟨rfl, rfl, rfl, rfl, rfl, rfl, rfl, trivial⟩ rfl
        · intro hc
          replace hc : l.count 62 = 0 := by refine Classical.byContradiction fun hne => ?_; simp [hne] at hc
          have hnx : any = false → ∀ j, j < 0 + 1 → l.count (toB j) = 0 := fun e j hj => by
            rcases Nat.lt_or_ge j 0 with hj2 | hj2
            · exact hany e j hj2
            · have : j = 0 := by omega
              rw [this]; exact hc
          refine WC.skip ?_
          refine QF.blockNormal ?_
          refine QF.seqNext ?_
          refine WC.region ?_
          refine WL.v (RV.add rfl rfl (Fit.i64 (by omega))) rfl ?_
          refine WL.v (RV.move rfl) rfl ?_
          refine WL.nil ?_
          refine QF.next ((0 + 1, l.length + cntTo l 0, any, w1)) (⟨by dsimp only; omega, by dsimp only; simp only [cntTo, hc]; try omega, hnx, hEw⟩) (by dsimp only; omega) ⟨rfl, rfl, rfl, rfl, rfl, rfl, rfl, trivial⟩ rfl
      · skip
        obtain ⟨sv, hsv, hrep⟩ := h1.reps 60 (by decide)
        rw [show repAt 3 60 = some [38, 108, 116, 59] from rfl] at hrep
        obtain ⟨hrs, q, c, rfl⟩ := hrep
        have hrl : ([38, 108, 116, 59] : List UInt8).length = 3 + 1 := rfl
        have hcl : l.count 60 ≤ l.length := List.count_le_length
        refine WL.v (RV.indexAddr hts1 Tryz.underlying40 (Tryz.sizeOf9 _) rfl rfl 1 rfl (by decide)) rfl ?_
        refine WL.v (RV.load (by first | exact toM_cell hts1 1 rfl) (Tryz.isAgg9 _) rfl) rfl ?_
        refine WL.v (RV.assign rfl) rfl ?_
        refine WL.nil ?_
        refine QF.seqNext ?_
        refine WC.seq ?_
        refine WC.region ?_
        refine WL.v (RV.move rfl) rfl ?_
        refine WL.v (RV.move rfl) rfl ?_
        refine WL.call Tryz.call217 rfl (count1_ret l 60 w1) rfl ?_
        rintro v _ ⟨rfl, rfl⟩
        refine WL.v (RV.assign rfl) rfl ?_
        refine WL.nil ?_
        refine QF.seqNext ?_
        refine WC.seq ?_
        refine WC.region ?_
        refine WL.v (RV.move rfl) rfl ?_
        refine WL.v (RV.neq rfl rfl) rfl ?_
        refine WL.nil ?_
        refine QF.seqNext ?_
        refine WC.cond rfl ?_ ?_
        · intro hc
          replace hc : l.count 60 ≠ 0 := by intro e; rw [e] at hc; cases hc
          refine WC.seq ?_
          refine WC.still (by kernel_rfl) (by kernel_rfl) ?_
          refine WS.v (RV.move rfl) rfl ?_
          refine WS.v (RV.move rfl) rfl ?_
          refine WS.v (RV.move rfl) rfl ?_
          refine WS.v (RV.move rfl) rfl ?_
          refine WS.v (RV.indexS1 (a := [60]) Tryz.underlying9 rfl rfl 0 rfl rfl) rfl ?_
          refine WS.v (RV.nilPtr rfl) rfl ?_
          refine WS.v (RV.fieldAddr 0 Tryz.underlying150 rfl rfl (Tryz.sizeOf148 _) (by decide) rfl) rfl ?_
          refine WS.v (RV.indexAddrA1 Tryz.underlying148 (Tryz.sizeOf31 _) rfl rfl 60 rfl (by decide)) rfl ?_
          refine WS.v (RV.load (by first | exact hsv) (Tryz.isAgg31 _) rfl) rfl ?_
          refine WS.v (RV.len (by first | exact (hrs).drew) Tryz.underlying31 rfl) rfl ?_
          refine WS.v (RV.sub rfl rfl (Fit.i64 (by omega))) rfl ?_
          refine WS.v (RV.mul rfl rfl (Fit.i64 (by rw [hrl]; omega))) rfl ?_
          refine WS.v (RV.add rfl rfl (Fit.i64 (by rw [hrl]; omega))) rfl ?_
          refine WS.v (RV.assign rfl) rfl ?_
          refine WS.nil ?_
          refine QF.seqNext ?_
          refine WC.region ?_
          refine WL.v (RV.assign rfl) rfl ?_
          refine WL.nil ?_
          refine QF.blockNormal ?_
          refine QF.seqNext ?_
          refine WC.region ?_
          refine WL.v (RV.add rfl rfl (Fit.i64 (by omega))) rfl ?_
          refine WL.v (RV.move rfl) rfl ?_
          refine WL.nil ?_
          refine QF.next ((1 + 1, (l.length : Int) + cntTo l 1 + (l.count 60 : Int) * ((([38, 108, 116, 59] : List UInt8).length : Int) - 1), true, w1.drew)) (⟨by dsimp only; omega, by dsimp only; rw [hrl]; simp only [cntTo]; omega, (fun e => by cases e), hEw.drew⟩) (by dsimp only; omega) ⟨rfl, rfl, rfl, rfl, rfl, rfl, rfl, trivial⟩ rfl
        · intro hc
          replace hc : l.count 60 = 0 := by refine Classical.byContradiction fun hne => ?_; simp [hne] at hc
          have hnx : any = false → ∀ j, j < 1 + 1 → l.count (toB j) = 0 := fun e j hj => by
            rcases Nat.lt_or_ge j 1 with hj2 | hj2
            · exact hany e j hj2
            · have : j = 1 := by omega
              rw [this]; exact hc
          refine WC.skip ?_
          refine QF.blockNormal ?_
          refine QF.seqNext ?_
          refine WC.region ?_
          refine WL.v (RV.add rfl rfl (Fit.i64 (by omega))) rfl ?_
          refine WL.v (RV.move rfl) rfl ?_
          refine WL.nil ?_
          refine QF.next ((1 + 1, l.length + cntTo l 1, any, w1)) (⟨by dsimp only; omega, by dsimp only; simp only [cntTo, hc]; try omega, hnx, hEw⟩) (by dsimp only; omega) ⟨rfl, rfl, rfl, rfl, rfl, rfl, rfl, trivial⟩ rfl
      · skip
        obtain ⟨sv, hsv, hrep⟩ := h1.reps 38 (by decide)
        rw [show repAt 3 38 = some [38, 97, 109, 112, 59] from rfl] at hrep
        obtain ⟨hrs, q, c, rfl⟩ := hrep
        have hrl : ([38, 97, 109, 112, 59] : List UInt8).length = 4 + 1 := rfl
        have hcl : l.count 38 ≤ l.length := List.count_le_length
        refine WL.v (RV.indexAddr hts1 Tryz.underlying40 (Tryz.sizeOf9 _) rfl rfl 2 rfl (by decide)) rfl ?_
        refine WL.v (RV.load (by first | exact toM_cell hts1 2 rfl) (Tryz.isAgg9 _) rfl) rfl ?_
        refine WL.v (RV.assign rfl) rfl ?_
        refine WL.nil ?_
        refine QF.seqNext ?_
        refine WC.seq ?_
        refine WC.region ?_
        refine WL.v (RV.move rfl) rfl ?_
        refine WL.v (RV.move rfl) rfl ?_
        refine WL.call Tryz.call217 rfl (count1_ret l 38 w1) rfl ?_
        rintro v _ ⟨rfl, rfl⟩
        refine WL.v (RV.assign rfl) rfl ?_
        refine WL.nil ?_
        refine QF.seqNext ?_
        refine WC.seq ?_
        refine WC.region ?_
        refine WL.v (RV.move rfl) rfl ?_
        refine WL.v (RV.neq rfl rfl) rfl ?_
        refine WL.nil ?_
        refine QF.seqNext ?_
        refine WC.cond rfl ?_ ?_
        · intro hc
          replace hc : l.count 38 ≠ 0 := by intro e; rw [e] at hc; cases hc
          refine WC.seq ?_
          refine WC.still (by kernel_rfl) (by kernel_rfl) ?_
          refine WS.v (RV.move rfl) rfl ?_
          refine WS.v (RV.move rfl) rfl ?_
          refine WS.v (RV.move rfl) rfl ?_
          refine WS.v (RV.move rfl) rfl ?_
          refine WS.v (RV.indexS1 (a := [38]) Tryz.underlying9 rfl rfl 0 rfl rfl) rfl ?_
          refine WS.v (RV.nilPtr rfl) rfl ?_
          refine WS.v (RV.fieldAddr 0 Tryz.underlying150 rfl rfl (Tryz.sizeOf148 _) (by decide) rfl) rfl ?_
          refine WS.v (RV.indexAddrA1 Tryz.underlying148 (Tryz.sizeOf31 _) rfl rfl 38 rfl (by decide)) rfl ?_
          refine WS.v (RV.load (by first | exact hsv) (Tryz.isAgg31 _) rfl) rfl ?_
          refine WS.v (RV.len (by first | exact (hrs).drew) Tryz.underlying31 rfl) rfl ?_
          refine WS.v (RV.sub rfl rfl (Fit.i64 (by omega))) rfl ?_
          refine WS.v (RV.mul rfl rfl (Fit.i64 (by rw [hrl]; omega))) rfl ?_
          refine WS.v (RV.add rfl rfl (Fit.i64 (by rw [hrl]; omega))) rfl ?_
          refine WS.v (RV.assign rfl) rfl ?_
          refine WS.nil ?_
          refine QF.seqNext ?_
          refine WC.region ?_
          refine WL.v (RV.assign rfl) rfl ?_
          refine WL.nil ?_
          refine QF.blockNormal ?_
          refine QF.seqNext ?_
          refine WC.region ?_
          refine WL.v (RV.add rfl rfl (Fit.i64 (by omega))) rfl ?_
          refine WL.v (RV.move rfl) rfl ?_
          refine WL.nil ?_
          refine QF.next ((2 + 1, (l.length : Int) + cntTo l 2 + (l.count 38 : Int) * ((([38, 97, 109, 112, 59] : List UInt8).length : Int) - 1), true, w1.drew)) (⟨by dsimp only; omega, by dsimp only; rw [hrl]; simp only [cntTo]; omega, (fun e => by cases e), hEw.drew⟩) (by dsimp only; omega) ⟨rfl, rfl, rfl, rfl, rfl, rfl, rfl, trivial⟩ rfl
        · intro hc
          replace hc : l.count 38 = 0 := by refine Classical.byContradiction fun hne => ?_; simp [hne] at hc
          have hnx : any = false → ∀ j, j < 2 + 1 → l.count (toB j) = 0 := fun e j hj => by
            rcases Nat.lt_or_ge j 2 with hj2 | hj2
            · exact hany e j hj2
            · have : j = 2 := by omega
              rw [this]; exact hc
          refine WC.skip ?_
          refine QF.blockNormal ?_
          refine QF.seqNext ?_
          refine WC.region ?_
          refine WL.v (RV.add rfl rfl (Fit.i64 (by omega))) rfl ?_
          refine WL.v (RV.move rfl) rfl ?_
          refine WL.nil ?_
          refine QF.next ((2 + 1, l.length + cntTo l 2, any, w1)) (⟨by dsimp only; omega, by dsimp only; simp only [cntTo, hc]; try omega, hnx, hEw⟩) (by dsimp only; omega) ⟨rfl, rfl, rfl, rfl, rfl, rfl, rfl, trivial⟩ rfl
    · intro hge
      obtain rfl : i = 3 := by have := of_decide_eq_false hge; omega
      have hall := cntTo_all l
      generalize hns : (l.length : Int) + cntTo l 3 = ns at *
      obtain rfl : ns = ((escM l).length : Int) := by omega
      replace hany : any = false → escM l = l := fun e => cnt_none l (hany e 0 (by decide)) (hany e 1 (by decide)) (hany e 2 (by decide))
      have hfin : ∀ W, Ext w1 W → Ext w W := fun W e => hEw.trans e
      refine WC.exit ?_
      refine QF.thenExit ?_
      refine QF.thenExit ?_
      refine QF.blockHit ?_
      refine QF.seqNext ?_
      refine WC.seq ?_
      refine WC.seq ?_
      refine WC.region ?_
      refine WL.v (RV.move rfl) rfl ?_
      refine WL.v (RV.not rfl) rfl ?_
      refine WL.nil ?_
      refine QF.seqNext ?_
      refine WC.cond rfl ?_ ?_
      · intro ha
        replace ha : any = false := by simpa using ha
        refine WC.seq ?_
        refine WC.region ?_
        refine WL.v (RV.move rfl) rfl ?_
        refine WL.v (RV.assign rfl) rfl ?_
        refine WL.nil ?_
        refine QF.seqNext ?_
        refine WC.ret ?_
        refine QF.thenRet ?_
        refine QF.done1 rfl rfl (⟨by rw [hany ha], hfin _ (Ext.refl _)⟩)
      · intro ha
        clear hany
        refine WC.skip ?_
        refine QF.seqNext ?_
        refine WC.seq ?_
        refine WC.region ?_
        refine WL.v (RV.move rfl) rfl ?_
        refine WL.makeRow elB (val := bval) (0 : UInt8) (by kernel_rfl) (fun _ => rfl) (Rng.start w1) 1 (by decide) (escM l).length rfl rfl rfl rfl (by omega) (by omega) rfl ?_
        intro w2 O2 bv hbv hrow hU2 hR2 hE2
        refine WL.v (RV.assign rfl) rfl ?_
        refine WL.nil ?_
        refine QF.seqNext ?_
        refine WC.seq ?_
        refine WC.region ?_
        refine WL.v (RV.assign rfl) rfl ?_
        refine WL.nil ?_
        refine QF.seqNext ?_
        refine WC.seq ?_
        refine WC.seq ?_
        refine WC.region ?_
        refine WL.v (RV.assign rfl) rfl ?_
        refine WL.nil ?_
        refine QF.seqNext ?_
        refine WC.block ?_
        refine WC.loop (fun x : Nat × World × Int => [(0, .pointer (some ⟨rb, 0, none⟩)), (1, .string (bs l)), (12, bv), (13, .int .i64 x.2.2), (14, .int .i64 x.1)]) (fun x : Nat × World × Int => x.2.1) (fun x : Nat × World × Int => x.1 ≤ l.length ∧ x.2.2 = ((escM (l.take x.1)).length : Int) ∧ RowT (fun b => [bval b]) 5 1 O2 x.2.1 1 bv (escM (l.take x.1) ++ List.replicate ((escM l).length - (escM (l.take x.1)).length) 0) ∧ Upd (fun j => j = 1) (fun _ => 0) w1 O2 x.2.1) (fun x : Nat × World × Int => l.length - x.1) (0, w2, 0) (⟨Nat.zero_le _, rfl, hrow, hU2⟩) ⟨rfl, rfl, rfl, rfl, rfl, trivial⟩ rfl ?_
        rintro ⟨i, w3, jj⟩ ⟨hi, hjj, hrow3, hU3⟩
        dsimp only at hi hjj hrow3 hU3 ⊢
        subst hjj
        have h3 := h1.ext hU3.ext
        have hrs3 := hrow3.sl
        have hpi := escM_part l i
        have hlen : (escM (l.take i) ++ List.replicate ((escM l).length - (escM (l.take i)).length) (0 : UInt8)).length = (escM l).length := by simp; omega
        refine WC.seq ?_
        refine WC.seq ?_
        refine WC.region ?_
        refine WL.v (RV.move rfl) rfl ?_
        refine WL.v (RV.move rfl) rfl ?_
        refine WL.v (RV.lenS Tryz.underlying9 rfl) rfl ?_
        refine WL.v (RV.lss rfl rfl) rfl ?_
        refine WL.nil ?_
        refine QF.seqNext ?_
        refine WC.cond rfl ?_ ?_
        · intro hlt
          replace hlt : i < l.length := by have := of_decide_eq_true hlt; omega
          have het := escM_take hlt
          have hpi2 := escM_part l (i + 1)
          obtain ⟨sv, hsv0, hrep0⟩ := h1.reps (nth l i).toNat (toNat_lt _)
          have hsv := hU3.ext.cell hsv0
          have hrep := hrep0.ext hU3.ext
          refine WC.skip ?_
          refine QF.seqNext ?_
          refine WC.seq ?_
          refine WC.block ?_
          refine WC.seq ?_
          refine WC.region ?_
          refine WL.v (RV.move rfl) rfl ?_
          refine WL.v (RV.move rfl) rfl ?_
          refine WL.v (RV.indexS Tryz.underlying9 rfl rfl _ rfl (by omega)) rfl ?_
          refine WL.v (RV.assign rfl) rfl ?_
          refine WL.nil ?_
          refine QF.seqNext ?_
          refine WC.seq ?_
          refine WC.region ?_
          refine WL.v (RV.move rfl) rfl ?_
          refine WL.v (RV.move rfl) rfl ?_
          refine WL.v (RV.nilPtr rfl) rfl ?_
          refine WL.v (RV.fieldAddr 0 Tryz.underlying150 rfl rfl (Tryz.sizeOf148 _) (by decide) rfl) rfl ?_
          refine WL.v (RV.indexAddrA1 Tryz.underlying148 (Tryz.sizeOf31 _) rfl rfl (nth l i).toNat rfl (toNat_lt _)) rfl ?_
          refine WL.v (RV.load (by first | exact hsv) (Tryz.isAgg31 _) rfl) rfl ?_
          cases hr : repAt 3 (nth l i).toNat with
          | none =>
            rw [hr, Option.getD_none] at het
            rw [hr] at hrep
            obtain rfl : sv = .slice none 0 0 := hrep
            rw [het, List.length_append, List.length_singleton] at hpi2
            refine WL.v (RV.neqNilSl Tryz.underlying31 rfl rfl) rfl ?_
            refine WL.nil ?_
            refine QF.seqNext ?_
            refine WC.condF rfl (rfl) ?_
            refine WC.seq ?_
            refine WC.region ?_
            refine WL.v (RV.move rfl) rfl ?_
            refine WL.v (RV.move rfl) rfl ?_
            refine WL.v (RV.move rfl) rfl ?_
            refine WL.v (RV.indexAddr hrs3 Tryz.underlying31 (Tryz.sizeOf5 _) rfl rfl (escM (l.take i)).length rfl (by omega)) rfl ?_
            refine WL.storeAt hrow3 (escM (l.take i)).length (by omega) (nth l i) (Tryz.sizeOf5 _) rfl (by decide) rfl rfl rfl rfl ?_
            intro w4 hrow4 hU4
            have hset : (escM (l.take i) ++ List.replicate ((escM l).length - (escM (l.take i)).length) (0 : UInt8)).set (escM (l.take i)).length (nth l i) = escM (l.take (i + 1)) ++ List.replicate ((escM l).length - (escM (l.take (i + 1))).length) 0 := by
              rw [List.set_append_right _ _ (Nat.le_refl _), Nat.sub_self, het, List.append_assoc, List.length_append, List.length_singleton]
              rw [show (escM l).length - (escM (l.take i)).length = ((escM l).length - ((escM (l.take i)).length + 1)) + 1 from by omega, List.replicate_succ]
              rfl
            rw [hset] at hrow4
            refine WL.nil ?_
            refine QF.seqNext ?_
            refine WC.region ?_
            refine WL.v (RV.move rfl) rfl ?_
            refine WL.v (RV.add rfl rfl (Fit.i64 (by omega))) rfl ?_
            refine WL.v (RV.assign rfl) rfl ?_
            refine WL.nil ?_
            refine QF.blockNormal ?_
            refine QF.seqNext ?_
            refine WC.region ?_
            refine WL.v (RV.move rfl) rfl ?_
            refine WL.v (RV.add rfl rfl (Fit.i64 (by omega))) rfl ?_
            refine WL.v (RV.assign rfl) rfl ?_
            refine WL.nil ?_
            refine QF.next ((i + 1, w4, ((escM (l.take i)).length : Int) + 1)) (⟨hlt, by dsimp only; rw [het]; simp, hrow4, hU3.trans hU4⟩) (by dsimp only; omega) ⟨rfl, rfl, rfl, rfl, rfl, trivial⟩ rfl
          | some r =>
            rw [hr, Option.getD_some] at het
            rw [hr] at hrep
            obtain ⟨hrs, q, c, rfl⟩ := hrep
            have hrl := repAt_len hr
            rw [het, List.length_append] at hpi2
            refine WL.v (RV.neqNilSl Tryz.underlying31 rfl rfl) rfl ?_
            refine WL.nil ?_
            refine QF.seqNext ?_
            refine WC.condT rfl (rfl) ?_
            refine WC.draw (fun W => W.cell? ((⟨rb, 0, none⟩ : Addr).add (nth l i).toNat) = some (.slice (some q) r.length c) ∧ ∃ xs : List UInt8, Sl (fun b => [bval b]) 1 W bv xs ∧ xs.length = (escM l).length) 13 rfl (by kernel_rfl) ?_
            refine WH.take 0 rfl (by kernel_rfl) (by kernel_rfl) (by kernel_rfl) ⟨hsv, _, hrs3.drew, hlen⟩ (fun w1 hw1 => RV.move rfl) rfl ?_
            refine WH.take 1 rfl (by kernel_rfl) (by kernel_rfl) (by kernel_rfl) ⟨hsv, _, hrs3.drew, hlen⟩ (fun w1 hw1 => RV.move rfl) rfl ?_
            refine WH.take 2 rfl (by kernel_rfl) (by kernel_rfl) (by kernel_rfl) ⟨hsv, _, hrs3.drew, hlen⟩ (fun w1 hw1 => RV.move rfl) rfl ?_
            refine WH.take 3 rfl (by kernel_rfl) (by kernel_rfl) (by kernel_rfl) ⟨hsv, _, hrs3.drew, hlen⟩ (fun w1 hw1 => (show RV _ _ _ _ _ _ (sliceV bv 1 (escM (l.take i)).length (escM l).length) from by obtain ⟨xs, hx1, hx2⟩ := hw1.2; rw [← hx2]; exact RV.sliceLo hx1 Tryz.underlying31 (Tryz.sizeOf5 _) rfl rfl (escM (l.take i)).length rfl (by omega))) rfl ?_
            refine WH.take 4 rfl (by kernel_rfl) (by kernel_rfl) (by kernel_rfl) ⟨hsv, _, hrs3.drew, hlen⟩ (fun w1 hw1 => RV.move rfl) rfl ?_
            refine WH.take 5 rfl (by kernel_rfl) (by kernel_rfl) (by kernel_rfl) ⟨hsv, _, hrs3.drew, hlen⟩ (fun w1 hw1 => RV.move rfl) rfl ?_
            refine WH.take 6 rfl (by kernel_rfl) (by kernel_rfl) (by kernel_rfl) ⟨hsv, _, hrs3.drew, hlen⟩ (fun w1 hw1 => RV.nilPtr rfl) rfl ?_
            refine WH.take 7 rfl (by kernel_rfl) (by kernel_rfl) (by kernel_rfl) ⟨hsv, _, hrs3.drew, hlen⟩ (fun w1 hw1 => RV.fieldAddr 0 Tryz.underlying150 rfl rfl (Tryz.sizeOf148 _) (by decide) rfl) rfl ?_
            refine WH.take 8 rfl (by kernel_rfl) (by kernel_rfl) (by kernel_rfl) ⟨hsv, _, hrs3.drew, hlen⟩ (fun w1 hw1 => RV.indexAddrA1 Tryz.underlying148 (Tryz.sizeOf31 _) rfl rfl (nth l i).toNat rfl (toNat_lt _)) rfl ?_
            refine WH.take 9 rfl (by kernel_rfl) (by kernel_rfl) (by kernel_rfl) ⟨hsv, _, hrs3.drew, hlen⟩ (fun w1 hw1 => RV.load (by first | exact hw1.1) (Tryz.isAgg31 _) rfl) rfl ?_
            refine WH.one 10 (by kernel_rfl) rfl ?_
            refine WL.copyAt Tryz.underlying31 infoB hrow3.drew (by decide) hrs.drew (escM (l.take i)).length (by omega) (by omega) (fun _ => rfl) (by rw [hlen]; rfl) rfl rfl ?_
            intro w4 hrow4 hU4
            have hset : (escM (l.take i) ++ List.replicate ((escM l).length - (escM (l.take i)).length) (0 : UInt8)).take (escM (l.take i)).length ++ r ++ (escM (l.take i) ++ List.replicate ((escM l).length - (escM (l.take i)).length) (0 : UInt8)).drop ((escM (l.take i)).length + r.length) = escM (l.take (i + 1)) ++ List.replicate ((escM l).length - (escM (l.take (i + 1))).length) 0 := by
              rw [het, List.length_append]
              simp [Nat.sub_sub]
            rw [hset] at hrow4
            refine WL.nil ?_
            refine QF.after (⟨(hU3.drew.trans hU4).ext.cell hsv0, _, hrow4.sl, by rw [List.length_append, het, List.length_append, List.length_replicate]; omega⟩) ?_
            refine WH.take 11 rfl (by kernel_rfl) (by kernel_rfl) (by kernel_rfl) (⟨(hU3.drew.trans hU4).ext.cell hsv0, _, hrow4.sl, by rw [List.length_append, het, List.length_append, List.length_replicate]; omega⟩) (fun w1 hw1 => RV.add rfl rfl (Fit.i64 (by omega))) rfl ?_
            refine WH.take 12 rfl (by kernel_rfl) (by kernel_rfl) (by kernel_rfl) (⟨(hU3.drew.trans hU4).ext.cell hsv0, _, hrow4.sl, by rw [List.length_append, het, List.length_append, List.length_replicate]; omega⟩) (fun w1 hw1 => RV.assign rfl) rfl ?_
            refine WH.done (by kernel_rfl) ?_
            refine QF.blockNormal ?_
            refine QF.seqNext ?_
            refine WC.region ?_
            refine WL.v (RV.move rfl) rfl ?_
            refine WL.v (RV.add rfl rfl (Fit.i64 (by omega))) rfl ?_
            refine WL.v (RV.assign rfl) rfl ?_
            refine WL.nil ?_
            refine QF.next ((i + 1, w4, ((escM (l.take i)).length : Int) + (r.length : Int))) (⟨hlt, by dsimp only; rw [het]; simp, hrow4, hU3.drew.trans hU4⟩) (by dsimp only; omega) ⟨rfl, rfl, rfl, rfl, rfl, trivial⟩ rfl
        · intro hge
          obtain rfl : i = l.length := by have := of_decide_eq_false hge; omega
          rw [List.take_length, Nat.sub_self] at hrs3
          refine WC.exit ?_
          refine QF.thenExit ?_
          refine QF.thenExit ?_
          refine QF.blockHit ?_
          refine QF.seqNext ?_
          refine WC.seq ?_
          refine WC.region ?_
          refine WL.v (RV.move rfl) rfl ?_
          refine WL.v (RV.strOf (by simpa using hrs3) Tryz.underlying31 Tryz.underlying5 Tryz.underlying9 rfl) rfl ?_
          refine WL.v (RV.assign rfl) rfl ?_
          refine WL.nil ?_
          refine QF.seqNext ?_
          refine WC.ret ?_
          refine QF.done1 rfl rfl (⟨rfl, hfin _ hU3.ext⟩)
  intro hsm
  clear hsm
  refine WC.seq ?_
  refine WC.region ?_
  refine WL.v (RV.assign rfl) rfl ?_
  refine WL.nil ?_
  refine QF.seqNext ?_
  refine WC.block ?_
  refine WC.loop (fun x : Nat × Int × Bool => [(0, .pointer (some ⟨rb, 0, none⟩)), (1, .string (bs l)), (5, .int .i64 x.2.1), (6, .bool x.2.2), (10, .int .i64 x.1)]) (fun x : Nat × Int × Bool => w) (fun x : Nat × Int × Bool => x.1 ≤ l.length ∧ x.2.1 = ((escM (l.take x.1)).length : Int) + ((l.length : Int) - x.1) ∧ (x.2.2 = false → escM (l.take x.1) = l.take x.1)) (fun x : Nat × Int × Bool => l.length - x.1) (0, (l.length : Int), false) (⟨Nat.zero_le _, by simp [escM], fun _ => rfl⟩) ⟨rfl, rfl, rfl, rfl, rfl, trivial⟩ rfl ?_
  rintro ⟨i, ns, any⟩ ⟨hi, hns, hany⟩
  dsimp only at hi hns hany ⊢
  have hpi := escM_part l i
  refine WC.seq ?_
  refine WC.seq ?_
  refine WC.region ?_
  refine WL.v (RV.move rfl) rfl ?_
  refine WL.v (RV.move rfl) rfl ?_
  refine WL.v (RV.lenS Tryz.underlying9 rfl) rfl ?_
  refine WL.v (RV.lss rfl rfl) rfl ?_
  refine WL.nil ?_
  refine QF.seqNext ?_
  refine WC.cond rfl ?_ ?_
  · intro hlt
    replace hlt : i < l.length := by have := of_decide_eq_true hlt; omega
    have het := escM_take hlt
    obtain ⟨sv, hsv, hrep⟩ := h.reps (nth l i).toNat (toNat_lt _)
    refine WC.skip ?_
    refine QF.seqNext ?_
    refine WC.seq ?_
    refine WC.block ?_
    refine WC.seq ?_
    refine WC.region ?_
    refine WL.v (RV.move rfl) rfl ?_
    refine WL.v (RV.move rfl) rfl ?_
    refine WL.v (RV.indexS Tryz.underlying9 rfl rfl _ rfl (by omega)) rfl ?_
    refine WL.v (RV.assign rfl) rfl ?_
    refine WL.nil ?_
    refine QF.seqNext ?_
    refine WC.seq ?_
    refine WC.region ?_
    refine WL.v (RV.move rfl) rfl ?_
    refine WL.v (RV.move rfl) rfl ?_
    refine WL.v (RV.nilPtr rfl) rfl ?_
    refine WL.v (RV.fieldAddr 0 Tryz.underlying150 rfl rfl (Tryz.sizeOf148 _) (by decide) rfl) rfl ?_
    refine WL.v (RV.indexAddrA1 Tryz.underlying148 (Tryz.sizeOf31 _) rfl rfl (nth l i).toNat rfl (toNat_lt _)) rfl ?_
    refine WL.v (RV.load (by first | exact hsv) (Tryz.isAgg31 _) rfl) rfl ?_
    cases hr : repAt 3 (nth l i).toNat with
    | none =>
      rw [hr] at hrep het
      obtain rfl : sv = .slice none 0 0 := hrep
      refine WL.v (RV.neqNilSl Tryz.underlying31 rfl rfl) rfl ?_
      refine WL.nil ?_
      refine QF.seqNext ?_
      refine WC.condF rfl (rfl) ?_
      refine WC.skip ?_
      refine QF.blockNormal ?_
      refine QF.seqNext ?_
      refine WC.region ?_
      refine WL.v (RV.move rfl) rfl ?_
      refine WL.v (RV.add rfl rfl (Fit.i64 (by omega))) rfl ?_
      refine WL.v (RV.assign rfl) rfl ?_
      refine WL.nil ?_
      refine QF.next ((i + 1, ns, any)) (⟨hlt, by dsimp only; rw [het]; simp; omega, fun e => by dsimp only; rw [het, hany e, take_nth hlt]; rfl⟩) (by dsimp only; omega) ⟨rfl, rfl, rfl, rfl, rfl, trivial⟩ rfl
    | some r =>
      rw [hr] at hrep het
      obtain ⟨hrs, q, c, rfl⟩ := hrep
      have hrl := repAt_len hr
      refine WL.v (RV.neqNilSl Tryz.underlying31 rfl rfl) rfl ?_
      refine WL.nil ?_
      refine QF.seqNext ?_
      refine WC.condT rfl (rfl) ?_
      refine WC.seq ?_
      refine WC.region ?_
      refine WL.v (RV.move rfl) rfl ?_
      refine WL.v (RV.move rfl) rfl ?_
      refine WL.v (RV.move rfl) rfl ?_
      refine WL.v (RV.nilPtr rfl) rfl ?_
      refine WL.v (RV.fieldAddr 0 Tryz.underlying150 rfl rfl (Tryz.sizeOf148 _) (by decide) rfl) rfl ?_
      refine WL.v (RV.indexAddrA1 Tryz.underlying148 (Tryz.sizeOf31 _) rfl rfl (nth l i).toNat rfl (toNat_lt _)) rfl ?_
      refine WL.v (RV.load (by first | exact hsv) (Tryz.isAgg31 _) rfl) rfl ?_
      refine WL.v (RV.len (by first | exact hrs) Tryz.underlying31 rfl) rfl ?_
      refine WL.v (RV.sub rfl rfl (Fit.i64 (by omega))) rfl ?_
      refine WL.v (RV.add rfl rfl (Fit.i64 (by omega))) rfl ?_
      refine WL.v (RV.assign rfl) rfl ?_
      refine WL.nil ?_
      refine QF.seqNext ?_
      refine WC.region ?_
      refine WL.v (RV.assign rfl) rfl ?_
      refine WL.nil ?_
      refine QF.blockNormal ?_
      refine QF.seqNext ?_
      refine WC.region ?_
      refine WL.v (RV.move rfl) rfl ?_
      refine WL.v (RV.add rfl rfl (Fit.i64 (by omega))) rfl ?_
      refine WL.v (RV.assign rfl) rfl ?_
      refine WL.nil ?_
      refine QF.next ((i + 1, ns + ((r.length : Int) - 1), true)) (⟨hlt, by dsimp only; rw [het, List.length_append, Option.getD_some]; omega, fun e => by cases e⟩) (by dsimp only; omega) ⟨rfl, rfl, rfl, rfl, rfl, trivial⟩ rfl
  · intro hge
    obtain rfl : i = l.length := by have := of_decide_eq_false hge; omega
    rw [List.take_length] at hns hany hpi
    obtain rfl : ns = ((escM l).length : Int) := by omega
    have hfin : ∀ W, Ext w W → Ext w W := fun W e => e
    refine WC.exit ?_
    refine QF.thenExit ?_
    refine QF.thenExit ?_
    refine QF.blockHit ?_
    refine QF.seqNext ?_
    refine WC.seq ?_
    refine WC.seq ?_
    refine WC.region ?_
    refine WL.v (RV.move rfl) rfl ?_
    refine WL.v (RV.not rfl) rfl ?_
    refine WL.nil ?_
    refine QF.seqNext ?_
    refine WC.cond rfl ?_ ?_
    · intro ha
      replace ha : any = false := by simpa using ha
      refine WC.seq ?_
      refine WC.region ?_
      refine WL.v (RV.move rfl) rfl ?_
      refine WL.v (RV.assign rfl) rfl ?_
      refine WL.nil ?_
      refine QF.seqNext ?_
      refine WC.ret ?_
      refine QF.thenRet ?_
      refine QF.done1 rfl rfl (⟨by rw [hany ha], hfin _ (Ext.refl _)⟩)
    · intro ha
      clear hany
      refine WC.skip ?_
      refine QF.seqNext ?_
      refine WC.seq ?_
      refine WC.region ?_
      refine WL.v (RV.move rfl) rfl ?_
      refine WL.makeRow elB (val := bval) (0 : UInt8) (by kernel_rfl) (fun _ => rfl) (Rng.start w) 1 (by decide) (escM l).length rfl rfl rfl rfl (by omega) (by omega) rfl ?_
      intro w2 O2 bv hbv hrow hU2 hR2 hE2
      refine WL.v (RV.assign rfl) rfl ?_
      refine WL.nil ?_
      refine QF.seqNext ?_
      refine WC.seq ?_
      refine WC.region ?_
      refine WL.v (RV.assign rfl) rfl ?_
      refine WL.nil ?_
      refine QF.seqNext ?_
      refine WC.seq ?_
      refine WC.seq ?_
      refine WC.region ?_
      refine WL.v (RV.assign rfl) rfl ?_
      refine WL.nil ?_
      refine QF.seqNext ?_
      refine WC.block ?_
      refine WC.loop (fun x : Nat × World × Int => [(0, .pointer (some ⟨rb, 0, none⟩)), (1, .string (bs l)), (12, bv), (13, .int .i64 x.2.2), (14, .int .i64 x.1)]) (fun x : Nat × World × Int => x.2.1) (fun x : Nat × World × Int => x.1 ≤ l.length ∧ x.2.2 = ((escM (l.take x.1)).length : Int) ∧ RowT (fun b => [bval b]) 5 1 O2 x.2.1 1 bv (escM (l.take x.1) ++ List.replicate ((escM l).length - (escM (l.take x.1)).length) 0) ∧ Upd (fun j => j = 1) (fun _ => 0) w O2 x.2.1) (fun x : Nat × World × Int => l.length - x.1) (0, w2, 0) (⟨Nat.zero_le _, rfl, hrow, hU2⟩) ⟨rfl, rfl, rfl, rfl, rfl, trivial⟩ rfl ?_
      rintro ⟨i, w3, jj⟩ ⟨hi, hjj, hrow3, hU3⟩
      dsimp only at hi hjj hrow3 hU3 ⊢
      subst hjj
      have h3 := h.ext hU3.ext
      have hrs3 := hrow3.sl
      have hpi := escM_part l i
      have hlen : (escM (l.take i) ++ List.replicate ((escM l).length - (escM (l.take i)).length) (0 : UInt8)).length = (escM l).length := by simp; omega
      refine WC.seq ?_
      refine WC.seq ?_
      refine WC.region ?_
      refine WL.v (RV.move rfl) rfl ?_
      refine WL.v (RV.move rfl) rfl ?_
      refine WL.v (RV.lenS Tryz.underlying9 rfl) rfl ?_
      refine WL.v (RV.lss rfl rfl) rfl ?_
      refine WL.nil ?_
      refine QF.seqNext ?_
      refine WC.cond rfl ?_ ?_
      · intro hlt
        replace hlt : i < l.length := by have := of_decide_eq_true hlt; omega
        have het := escM_take hlt
        have hpi2 := escM_part l (i + 1)
        obtain ⟨sv, hsv0, hrep0⟩ := h.reps (nth l i).toNat (toNat_lt _)
        have hsv := hU3.ext.cell hsv0
        have hrep := hrep0.ext hU3.ext
        refine WC.skip ?_
        refine QF.seqNext ?_
        refine WC.seq ?_
        refine WC.block ?_
        refine WC.seq ?_
        refine WC.region ?_
        refine WL.v (RV.move rfl) rfl ?_
        refine WL.v (RV.move rfl) rfl ?_
        refine WL.v (RV.indexS Tryz.underlying9 rfl rfl _ rfl (by omega)) rfl ?_
        refine WL.v (RV.assign rfl) rfl ?_
        refine WL.nil ?_
        refine QF.seqNext ?_
        refine WC.seq ?_
        refine WC.region ?_
        refine WL.v (RV.move rfl) rfl ?_
        refine WL.v (RV.move rfl) rfl ?_
        refine WL.v (RV.nilPtr rfl) rfl ?_
        refine WL.v (RV.fieldAddr 0 Tryz.underlying150 rfl rfl (Tryz.sizeOf148 _) (by decide) rfl) rfl ?_
        refine WL.v (RV.indexAddrA1 Tryz.underlying148 (Tryz.sizeOf31 _) rfl rfl (nth l i).toNat rfl (toNat_lt _)) rfl ?_
        refine WL.v (RV.load (by first | exact hsv) (Tryz.isAgg31 _) rfl) rfl ?_
        cases hr : repAt 3 (nth l i).toNat with
        | none =>
          rw [hr, Option.getD_none] at het
          rw [hr] at hrep
          obtain rfl : sv = .slice none 0 0 := hrep
          rw [het, List.length_append, List.length_singleton] at hpi2
          refine WL.v (RV.neqNilSl Tryz.underlying31 rfl rfl) rfl ?_
          refine WL.nil ?_
          refine QF.seqNext ?_
          refine WC.condF rfl (rfl) ?_
          refine WC.seq ?_
          refine WC.region ?_
          refine WL.v (RV.move rfl) rfl ?_
          refine WL.v (RV.move rfl) rfl ?_
          refine WL.v (RV.move rfl) rfl ?_
          refine WL.v (RV.indexAddr hrs3 Tryz.underlying31 (Tryz.sizeOf5 _) rfl rfl (escM (l.take i)).length rfl (by omega)) rfl ?_
          refine WL.storeAt hrow3 (escM (l.take i)).length (by omega) (nth l i) (Tryz.sizeOf5 _) rfl (by decide) rfl rfl rfl rfl ?_
          intro w4 hrow4 hU4
          have hset : (escM (l.take i) ++ List.replicate ((escM l).length - (escM (l.take i)).length) (0 : UInt8)).set (escM (l.take i)).length (nth l i) = escM (l.take (i + 1)) ++ List.replicate ((escM l).length - (escM (l.take (i + 1))).length) 0 := by
            rw [List.set_append_right _ _ (Nat.le_refl _), Nat.sub_self, het, List.append_assoc, List.length_append, List.length_singleton]
            rw [show (escM l).length - (escM (l.take i)).length = ((escM l).length - ((escM (l.take i)).length + 1)) + 1 from by omega, List.replicate_succ]
            rfl
          rw [hset] at hrow4
          refine WL.nil ?_
          refine QF.seqNext ?_
          refine WC.region ?_
          refine WL.v (RV.move rfl) rfl ?_
          refine WL.v (RV.add rfl rfl (Fit.i64 (by omega))) rfl ?_
          refine WL.v (RV.assign rfl) rfl ?_
          refine WL.nil ?_
          refine QF.blockNormal ?_
          refine QF.seqNext ?_
          refine WC.region ?_
          refine WL.v (RV.move rfl) rfl ?_
          refine WL.v (RV.add rfl rfl (Fit.i64 (by omega))) rfl ?_
          refine WL.v (RV.assign rfl) rfl ?_
          refine WL.nil ?_
          refine QF.next ((i + 1, w4, ((escM (l.take i)).length : Int) + 1)) (⟨hlt, by dsimp only; rw [het]; simp, hrow4, hU3.trans hU4⟩) (by dsimp only; omega) ⟨rfl, rfl, rfl, rfl, rfl, trivial⟩ rfl
        | some r =>
          rw [hr, Option.getD_some] at het
          rw [hr] at hrep
          obtain ⟨hrs, q, c, rfl⟩ := hrep
          have hrl := repAt_len hr
          rw [het, List.length_append] at hpi2
          refine WL.v (RV.neqNilSl Tryz.underlying31 rfl rfl) rfl ?_
          refine WL.nil ?_
          refine QF.seqNext ?_
          refine WC.condT rfl (rfl) ?_
          refine WC.draw (fun W => W.cell? ((⟨rb, 0, none⟩ : Addr).add (nth l i).toNat) = some (.slice (some q) r.length c) ∧ ∃ xs : List UInt8, Sl (fun b => [bval b]) 1 W bv xs ∧ xs.length = (escM l).length) 13 rfl (by kernel_rfl) ?_
          refine WH.take 0 rfl (by kernel_rfl) (by kernel_rfl) (by kernel_rfl) ⟨hsv, _, hrs3.drew, hlen⟩ (fun w1 hw1 => RV.move rfl) rfl ?_
          refine WH.take 1 rfl (by kernel_rfl) (by kernel_rfl) (by kernel_rfl) ⟨hsv, _, hrs3.drew, hlen⟩ (fun w1 hw1 => RV.move rfl) rfl ?_
          refine WH.take 2 rfl (by kernel_rfl) (by kernel_rfl) (by kernel_rfl) ⟨hsv, _, hrs3.drew, hlen⟩ (fun w1 hw1 => RV.move rfl) rfl ?_
          refine WH.take 3 rfl (by kernel_rfl) (by kernel_rfl) (by kernel_rfl) ⟨hsv, _, hrs3.drew, hlen⟩ (fun w1 hw1 => (show RV _ _ _ _ _ _ (sliceV bv 1 (escM (l.take i)).length (escM l).length) from by obtain ⟨xs, hx1, hx2⟩ := hw1.2; rw [← hx2]; exact RV.sliceLo hx1 Tryz.underlying31 (Tryz.sizeOf5 _) rfl rfl (escM (l.take i)).length rfl (by omega))) rfl ?_
          refine WH.take 4 rfl (by kernel_rfl) (by kernel_rfl) (by kernel_rfl) ⟨hsv, _, hrs3.drew, hlen⟩ (fun w1 hw1 => RV.move rfl) rfl ?_
          refine WH.take 5 rfl (by kernel_rfl) (by kernel_rfl) (by kernel_rfl) ⟨hsv, _, hrs3.drew, hlen⟩ (fun w1 hw1 => RV.move rfl) rfl ?_
          refine WH.take 6 rfl (by kernel_rfl) (by kernel_rfl) (by kernel_rfl) ⟨hsv, _, hrs3.drew, hlen⟩ (fun w1 hw1 => RV.nilPtr rfl) rfl ?_
          refine WH.take 7 rfl (by kernel_rfl) (by kernel_rfl) (by kernel_rfl) ⟨hsv, _, hrs3.drew, hlen⟩ (fun w1 hw1 => RV.fieldAddr 0 Tryz.underlying150 rfl rfl (Tryz.sizeOf148 _) (by decide) rfl) rfl ?_
          refine WH.take 8 rfl (by kernel_rfl) (by kernel_rfl) (by kernel_rfl) ⟨hsv, _, hrs3.drew, hlen⟩ (fun w1 hw1 => RV.indexAddrA1 Tryz.underlying148 (Tryz.sizeOf31 _) rfl rfl (nth l i).toNat rfl (toNat_lt _)) rfl ?_
          refine WH.take 9 rfl (by kernel_rfl) (by kernel_rfl) (by kernel_rfl) ⟨hsv, _, hrs3.drew, hlen⟩ (fun w1 hw1 => RV.load (by first | exact hw1.1) (Tryz.isAgg31 _) rfl) rfl ?_
          refine WH.one 10 (by kernel_rfl) rfl ?_
          refine WL.copyAt Tryz.underlying31 infoB hrow3.drew (by decide) hrs.drew (escM (l.take i)).length (by omega) (by omega) (fun _ => rfl) (by rw [hlen]; rfl) rfl rfl ?_
          intro w4 hrow4 hU4
          have hset : (escM (l.take i) ++ List.replicate ((escM l).length - (escM (l.take i)).length) (0 : UInt8)).take (escM (l.take i)).length ++ r ++ (escM (l.take i) ++ List.replicate ((escM l).length - (escM (l.take i)).length) (0 : UInt8)).drop ((escM (l.take i)).length + r.length) = escM (l.take (i + 1)) ++ List.replicate ((escM l).length - (escM (l.take (i + 1))).length) 0 := by
            rw [het, List.length_append]
            simp [Nat.sub_sub]
          rw [hset] at hrow4
          refine WL.nil ?_
          refine QF.after (⟨(hU3.drew.trans hU4).ext.cell hsv0, _, hrow4.sl, by rw [List.length_append, het, List.length_append, List.length_replicate]; omega⟩) ?_
          refine WH.take 11 rfl (by kernel_rfl) (by kernel_rfl) (by kernel_rfl) (⟨(hU3.drew.trans hU4).ext.cell hsv0, _, hrow4.sl, by rw [List.length_append, het, List.length_append, List.length_replicate]; omega⟩) (fun w1 hw1 => RV.add rfl rfl (Fit.i64 (by omega))) rfl ?_
          refine WH.take 12 rfl (by kernel_rfl) (by kernel_rfl) (by kernel_rfl) (⟨(hU3.drew.trans hU4).ext.cell hsv0, _, hrow4.sl, by rw [List.length_append, het, List.length_append, List.length_replicate]; omega⟩) (fun w1 hw1 => RV.assign rfl) rfl ?_
          refine WH.done (by kernel_rfl) ?_
          refine QF.blockNormal ?_
          refine QF.seqNext ?_
          refine WC.region ?_
          refine WL.v (RV.move rfl) rfl ?_
          refine WL.v (RV.add rfl rfl (Fit.i64 (by omega))) rfl ?_
          refine WL.v (RV.assign rfl) rfl ?_
          refine WL.nil ?_
          refine QF.next ((i + 1, w4, ((escM (l.take i)).length : Int) + (r.length : Int))) (⟨hlt, by dsimp only; rw [het]; simp, hrow4, hU3.drew.trans hU4⟩) (by dsimp only; omega) ⟨rfl, rfl, rfl, rfl, rfl, trivial⟩ rfl
      · intro hge
        obtain rfl : i = l.length := by have := of_decide_eq_false hge; omega
        rw [List.take_length, Nat.sub_self] at hrs3
        refine WC.exit ?_
        refine QF.thenExit ?_
        refine QF.thenExit ?_
        refine QF.blockHit ?_
        refine QF.seqNext ?_
        refine WC.seq ?_
        refine WC.region ?_
        refine WL.v (RV.move rfl) rfl ?_
        refine WL.v (RV.strOf (by simpa using hrs3) Tryz.underlying31 Tryz.underlying5 Tryz.underlying9 rfl) rfl ?_
        refine WL.v (RV.assign rfl) rfl ?_
        refine WL.nil ?_
        refine QF.seqNext ?_
        refine WC.ret ?_
        refine QF.done1 rfl rfl (⟨rfl, hfin _ hU3.ext⟩)

theorem Built.upd {S : Nat → Prop} {O O' : Nat → Nat} {w w' : World} {rb : Nat} {cs : Array Value} (h : Built O w rb cs) (u : Upd S O w O' w') (h3 : ¬ S 3) (h4 : ¬ S 4) : Built O' w' rb cs := by
  obtain ⟨tv, t1, t2⟩ := h.to
  exact ⟨h.blk.upd u (by decide) h3, h.reps.upd u, h.size, tv, t1, t2.upd u (by decide) h4⟩
def OnceK (O : Nat → Nat) (w : World) (O' : Nat → Nat) (w' : World) (cs : Array Value) : Prop :=
  ∃ rb rcs, cs[3]? = some (.iface 151 (.pointer (some ⟨rb, 0, none⟩))) ∧ Built O' w' rb rcs ∧ Upd (fun j => j ≠ 0) O w O' w'
theorem buildOnce_ret (B : Nat) (O : Nat → Nat) (b : Nat) (ov : Value) (w : World) (hR : Rng B O w) (hb : BlkO O w 1 b #[.int .u32 0, .int .i32 1, .int .u32 0, .nilIface, ov] 86) (hs : Sl encS 1 w ov oldM) (hf : Free O w ov) :
    Ret Tryz.prog 30 [.pointer (some ⟨b, 0, none⟩)] w fun _ w' => ∃ O' cs', BlkO O' w' 1 b cs' 86 ∧ 1 < cs'.size ∧ cs'[1]? = some (.int .i32 1) ∧ OnceK O w O' w' cs' := by
  refine Ret.enter Tryz.func30 Tryz.ntmps30 rfl rfl ?_
  refine WC.seq ?_
  refine WC.region ?_
  refine WL.v (RV.move rfl) rfl ?_
  refine WL.v (RV.move rfl) rfl ?_
  refine WL.call Tryz.call46 rfl (build_ret B O b _ ov w hR hb rfl hs hf) rfl ?_
  rintro v w1 ⟨rb, O1, rcs, rfl, hbt, hU1, hR1⟩
  have hb1 := hb.upd hU1 (by decide) (by decide)
  refine WL.v (RV.nilPtr rfl) rfl ?_
  refine WL.v (RV.fieldAddr 3 Tryz.underlying86 rfl rfl (Tryz.sizeOf84 _) (by decide) rfl) rfl ?_
  refine WL.storeBlk (j := 3) hb1 rfl (Tryz.sizeOf84 _) rfl rfl rfl rfl ?_
  have hb2 := hb1.set 3 (.iface 151 (.pointer (some ⟨rb, 0, none⟩)))
  have hU2 : Upd (fun k => k = 1) O1 w1 O1 (w1.setCell ⟨b, 3, none⟩ (.iface 151 (.pointer (some ⟨rb, 0, none⟩)))) := Upd.set (by decide) hb1.tag rfl
  generalize w1.setCell ⟨b, 3, none⟩ (.iface 151 (.pointer (some ⟨rb, 0, none⟩))) = w2 at *
  refine WL.nil ?_
  refine QF.seqNext ?_
  refine WC.region ?_
  refine WL.v (RV.move rfl) rfl ?_
  refine WL.v (RV.nilPtr rfl) rfl ?_
  refine WL.v (RV.fieldAddr 4 Tryz.underlying86 rfl rfl (Tryz.sizeOf40 _) (by decide) rfl) rfl ?_
  refine WL.storeBlk (j := 4) hb2 rfl (Tryz.sizeOf40 _) rfl rfl rfl rfl ?_
  have hb3 := hb2.set 4 (.slice none 0 0)
  have hU3 : Upd (fun k => k = 1) O1 w2 O1 (w2.setCell ⟨b, 4, none⟩ (.slice none 0 0)) := Upd.set (by decide) hb2.tag rfl
  have hU23 := hU2.trans hU3
  refine WL.nil ?_
  exact QF.end0 rfl ⟨O1, _, hb3, by simp, rfl, rb, rcs, rfl, hbt.upd hU23 (by decide) (by decide), (hU1.mono (by rintro _ (rfl | rfl) <;> decide) (by decide)).trans (hU23.mono (by rintro _ rfl; decide) (by decide))⟩

theorem replace_ret (l : List UInt8) (w0 w : World) (b : Nat) (ov : Value) (h : NewRep w0 w b ov oldM) (hl : l.length ≤ 1000000) :
    Ret Tryz.prog 15 [.pointer (some ⟨b, 0, none⟩), .string (bs l)] w fun v w' => v = .string (bs (escM l)) ∧ Ext w0 w' := by
  have hFn : ∀ W, BlkO (own1 (fun _ => 0) b 1) W 1 b (#[.int .u32 0, .int .i32 0, .int .u32 0, .nilIface, ov].setIfInBounds 1 (.int .i32 1)) 86 → Upd (fun k => k = 1) (own1 (fun _ => 0) b 1) w (own1 (fun _ => 0) b 1) W →
      Ret Tryz.prog 30 [.pointer (some ⟨b, 0, none⟩)] W fun _ W' => ∃ O' cs', BlkO O' W' 1 b cs' 86 ∧ 1 < cs'.size ∧ cs'[1]? = some (.int .i32 1) ∧ OnceK (own1 (fun _ => 0) b 1) w O' W' cs' := by
    intro W hW hUW
    refine (buildOnce_ret w0.heap.size _ b ov W (h.rng.upd hUW) hW (h.sl.upd h.free hUW) (h.free.upd hUW)).mono ?_
    rintro v w' ⟨O', cs', g1, g2, g3, rb, rcs, g4, g5, g6⟩
    exact ⟨O', cs', g1, g2, g3, rb, rcs, g4, g5, (hUW.mono (by rintro _ rfl; decide) (by decide)).trans g6⟩
  refine Ret.enter Tryz.func15 Tryz.ntmps15 rfl rfl ?_
  refine WC.seq ?_
  refine WC.region ?_
  refine WL.v (RV.assign rfl) rfl ?_
  refine WL.nil ?_
  refine QF.seqNext ?_
  refine WC.seq ?_
  refine WC.region ?_
  refine WL.v (RV.move rfl) rfl ?_
  refine WL.v (RV.nilPtr rfl) rfl ?_
  refine WL.v (RV.fieldAddr 0 Tryz.underlying86 rfl rfl (Tryz.sizeOf82 _) (by decide) rfl) rfl ?_
  refine WL.v (RV.move rfl) rfl ?_
  refine WL.v (RV.mkFunc rfl rfl) rfl ?_
  refine WL.call Tryz.call29 rfl (onceDo_ret _ 1 b _ _ w (by decide) h.blk rfl rfl 30 [.pointer (some ⟨b, 0, none⟩)] Tryz.call30 (OnceK (own1 (fun _ => 0) b 1) w) hFn) rfl ?_
  rintro v _ ⟨O1, w1, cs1, hb1, ⟨rb, rcs, hif, hbt, hU1⟩, rfl⟩
  have hUa : Upd (fun k => k = 1) O1 w1.drew O1 (w1.drew.setCell ⟨b, 0, none⟩ (.int .u32 1)) := Upd.set (by decide) hb1.tag rfl
  have hb2 := hb1.drew.set 0 (.int .u32 1)
  have hUb : Upd (fun k => k = 1) O1 (w1.drew.setCell ⟨b, 0, none⟩ (.int .u32 1)) O1 ((w1.drew.setCell ⟨b, 0, none⟩ (.int .u32 1)).setCell ⟨b, 1, none⟩ (.int .i32 0)) := Upd.set (by decide) hb1.tag rfl
  have hb3 := hb2.set 1 (.int .i32 0)
  have hUab : Upd (fun k => k = 1) O1 w1 O1 ((w1.drew.setCell ⟨b, 0, none⟩ (.int .u32 1)).setCell ⟨b, 1, none⟩ (.int .i32 0)) := (hUa.trans hUb).ofDrew'
  have hUt := hU1.trans (hUab.mono (by rintro _ rfl; decide) (by decide))
  have hbt3 := (hbt.upd hUab (by decide) (by decide)).r
  have hif3 : ((cs1.setIfInBounds 0 (.int .u32 1)).setIfInBounds 1 (.int .i32 0))[3]? = some (.iface 151 (.pointer (some ⟨rb, 0, none⟩))) := by
    rw [Array.getElem?_setIfInBounds_ne (by decide), Array.getElem?_setIfInBounds_ne (by decide)]; exact hif
  generalize (w1.drew.setCell ⟨b, 0, none⟩ (.int .u32 1)).setCell ⟨b, 1, none⟩ (.int .i32 0) = w3 at *
  refine WL.nil ?_
  refine QF.seqNext ?_
  refine WC.seq ?_
  refine WC.region ?_
  refine WL.v (RV.move rfl) rfl ?_
  refine WL.v (RV.nilPtr rfl) rfl ?_
  refine WL.v (RV.fieldAddr 3 Tryz.underlying86 rfl rfl (Tryz.sizeOf84 _) (by decide) rfl) rfl ?_
  refine WL.v (RV.load (by first | exact hb3.cell 3 hif3) (Tryz.isAgg84 _) rfl) rfl ?_
  refine WL.v (RV.move rfl) rfl ?_
  refine WL.callI rfl Tryz.underlying151 (by kernel_rfl) Tryz.call215 rfl (bsr_ret l rb w3 hbt3 hl) rfl ?_
  rintro v w4 ⟨rfl, hE4⟩
  refine WL.v (RV.assign rfl) rfl ?_
  refine WL.nil ?_
  refine QF.seqNext ?_
  refine WC.ret ?_
  refine QF.done1 rfl rfl (⟨rfl, (h.ext.trans' hUt h.rng).trans hE4⟩)
theorem escEscape_ret (l : List UInt8) (w : World) (hl : l.length ≤ 1000000) : Ret Tryz.prog 5 [.string (bs l)] w fun v w' => v = .string (bs (escM l)) ∧ Ext w w' := by
  refine Ret.enter Tryz.func5 Tryz.ntmps5 rfl rfl ?_
  refine WC.seq ?_
  refine WC.region ?_
  refine WL.v (RV.assign rfl) rfl ?_
  refine WL.nil ?_
  refine QF.seqNext ?_
  refine WC.seq ?_
  refine WC.region ?_
  refine WL.buildSl Tryz.underlying40 (Tryz.sizeOf9 _) (Tryz.zeroValue9 _) encS oldM rfl rfl rfl rfl (by kernel_rfl) (by simp) rfl ?_
  intro v1 w1 h1 hE1
  refine WL.call Tryz.call14 rfl (newReplacer_ret oldM v1 w1 h1 (by decide) (by decide) (by decide)) rfl ?_
  rintro v w2 ⟨b, ov, rfl, hn⟩
  refine WL.v (RV.move rfl) rfl ?_
  refine WL.call Tryz.call15 rfl (replace_ret l w1 w2 b ov hn hl) rfl ?_
  rintro v w3 ⟨rfl, hE3⟩
  refine WL.v (RV.assign rfl) rfl ?_
  refine WL.nil ?_
  refine QF.seqNext ?_
  refine WC.ret ?_
  refine QF.done1 rfl rfl (⟨rfl, hE1.trans hE3⟩)
end Go.Proofs.YtakigpnccppheaaGreatDoor
