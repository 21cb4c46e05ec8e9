/- Package expr, walked: longest, has. -/
import Derived.Test.YtmohcfjopaccdaaGreatDoorExI
namespace Go.Proofs.YtmohcfjopaccdaaGreatDoor
open Go.VL Go.Proofs
set_option maxRecDepth 10000

mutual
def longM : Nd → Int | .mk k _ l => if k = 6 ∨ k = 7 then -1 else if k = 9 then 0 else if k = 4 ∨ k = 5 ∨ k = 8 then longL (k == 4) 0 l else 1
def longL : Bool → Int → List Nd → Int
  | _, acc, [] => acc
  | s, acc, t :: r => if longM t < 0 then -1 else longL s (if s = true then acc + longM t else max acc (longM t)) r
end
mutual
def hasM (q : Int) : Nd → Bool | .mk k _ l => (k == q) || hasL q l
def hasL (q : Int) : List Nd → Bool | [] => false | t :: r => hasM q t || hasL q r
end
theorem hasL_any (q : Int) : ∀ (l : List Nd), anyN (fun i => hasM q (nth l i)) l.length = hasL q l := by
  intro l
  rw [Bool.eq_iff_iff, anyN_true]
  induction l with
  | nil => simp [hasL]
  | cons t r ih =>
    simp only [hasL, Bool.or_eq_true, ← ih, List.length_cons]
    constructor
    · rintro ⟨i, hi, hq⟩
      cases i with
      | zero => rw [nth_cons0] at hq; exact .inl hq
      | succ i => rw [nth_cons] at hq; exact .inr ⟨i, by omega, hq⟩
    · rintro (h | ⟨i, hi, hq⟩)
      · exact ⟨0, by omega, by rw [nth_cons0]; exact h⟩
      · exact ⟨i + 1, by omega, by rw [nth_cons]; exact hq⟩
mutual
theorem longM_le : ∀ (t : Nd), longM t ≤ nsz t
  | .mk k c l => by
    have h := longL_le l (k == 4) 0 (Int.le_refl 0)
    unfold longM
    simp only [nsz]
    (repeat' split) <;> omega
theorem longL_le : ∀ (l : List Nd) (s : Bool) (acc : Int), 0 ≤ acc → longL s acc l ≤ acc + nszL l
  | [], s, acc, h => by simp [longL, nszL]
  | t :: r, s, acc, h => by
    have h1 := longM_le t
    unfold longL
    simp only [nszL]
    split
    · omega
    · split
      · have h2 := longL_le r s (acc + longM t) (by omega)
        omega
      · have h2 := longL_le r s (max acc (longM t)) (by omega)
        omega
end
theorem drop_nd {l : List Nd} {i : Nat} (h : i < l.length) : l.drop i = nth l i :: l.drop (i + 1) := by
  rw [List.drop_eq_getElem_cons h, nth_eq h]
theorem longest_ret : ∀ (n : Nat), n ≤ 1000000 → ∀ (t : Nd), nsz t ≤ n → ∀ (x : N3) (w : World), Nt (fun _ => 0) w t x → Ret Tryz.prog 98 [nv x] w fun v w' => v = .int .i64 (longM t) ∧ Ext w w'
  | 0, _, t, hn => by have := nsz_pos t; omega
  | n + 1, hm, .mk k c kids, hn => by
    intro x w h
    have hx0 := h.ones
    obtain ⟨xs, hs, hf, hl, hk⟩ := h.kids
    simp only [Nd.kids] at hl hk
    simp only [nsz] at hn
    have hkl := nszL_len kids
    generalize x.2.2 = sv at *
    subst hx0
    simp only [Nd.kind, Nd.cls]
    have hM : longM (.mk k c kids) = if k = 6 ∨ k = 7 then -1 else if k = 9 then 0 else if k = 4 ∨ k = 5 ∨ k = 8 then longL (k == 4) 0 kids else 1 := rfl
    rw [hM]
    refine Ret.enter Tryz.func98 Tryz.ntmps98 rfl rfl ?_
    refine WC.seq ?_
    refine WC.region ?_
    refine WL.boxO (Rng.start w) 1 (by omega) rfl rfl ?_
    intro xb w1 O1 hx1 hU1 hR1 hE1
    have c0 : w1.cell? ((⟨xb, 0, none⟩ : Addr).add 0) = some (.int .i64 k) := hx1.cell 0 rfl
    have c2 : w1.cell? ((⟨xb, 0, none⟩ : Addr).add 2) = some sv := hx1.cell 2 rfl
    have hs1 := hs.ext hE1
    refine WL.v (RV.assign rfl) rfl ?_
    refine WL.nil ?_
    refine QF.seqNext ?_
    refine WC.seq ?_
    refine WC.region ?_
    refine WL.v (RV.assign rfl) rfl ?_
    refine WL.nil ?_
    refine QF.seqNext ?_
    refine WC.seq ?_
    refine WC.seq ?_
    refine WC.region ?_
    refine WL.v (RV.fieldAddr 0 Tryz.underlying48 rfl rfl (Tryz.sizeOf3 _) (by decide) rfl) rfl ?_
    refine WL.v (RV.load (by first | exact c0 | exact c2) (Tryz.isAgg3 _) rfl) rfl ?_
    refine WL.nil ?_
    refine QF.seqNext ?_
    refine WC.block ?_
    refine WC.seq ?_
    refine WC.seq ?_
    refine WC.region ?_
    refine WL.v (RV.eql rfl rfl) rfl ?_
    refine WL.v (RV.assign rfl) rfl ?_
    refine WL.nil ?_
    refine QF.seqNext ?_
    by_cases h6 : k = 6
    · subst h6
      refine WC.condT rfl (rfl) ?_
      refine WC.skip ?_
      refine QF.seqNext ?_
      refine WC.condT rfl (rfl) ?_
      refine WC.seq ?_
      refine WC.region ?_
      refine WL.v (RV.assign rfl) rfl ?_
      refine WL.nil ?_
      refine QF.seqNext ?_
      refine WC.ret ?_
      refine QF.blockRet ?_
      refine QF.thenRet ?_
      refine QF.done1 rfl rfl (⟨rfl, hE1⟩)
    · skip
      refine WC.condF rfl ((beq_eq_false_iff_ne.2 h6)) ?_
      refine WC.region ?_
      refine WL.v (RV.eql rfl rfl) rfl ?_
      refine WL.v (RV.assign rfl) rfl ?_
      refine WL.nil ?_
      refine QF.seqNext ?_
      by_cases h7 : k = 7
      · subst h7
        refine WC.condT rfl (rfl) ?_
        refine WC.seq ?_
        refine WC.region ?_
        refine WL.v (RV.assign rfl) rfl ?_
        refine WL.nil ?_
        refine QF.seqNext ?_
        refine WC.ret ?_
        refine QF.blockRet ?_
        refine QF.thenRet ?_
        refine QF.done1 rfl rfl (⟨rfl, hE1⟩)
      · rw [if_neg (by omega)]
        refine WC.condF rfl ((beq_eq_false_iff_ne.2 h7)) ?_
        refine WC.seq ?_
        refine WC.region ?_
        refine WL.v (RV.eql rfl rfl) rfl ?_
        refine WL.v (RV.assign rfl) rfl ?_
        refine WL.nil ?_
        refine QF.seqNext ?_
        by_cases h9 : k = 9
        · subst h9
          refine WC.condT rfl (rfl) ?_
          refine WC.seq ?_
          refine WC.region ?_
          refine WL.v (RV.assign rfl) rfl ?_
          refine WL.nil ?_
          refine QF.seqNext ?_
          refine WC.ret ?_
          refine QF.blockRet ?_
          refine QF.thenRet ?_
          refine QF.done1 rfl rfl (⟨rfl, hE1⟩)
        · rw [if_neg h9]
          refine WC.condF rfl ((beq_eq_false_iff_ne.2 h9)) ?_
          refine WC.seq ?_
          refine WC.seq ?_
          refine WC.region ?_
          refine WL.v (RV.eql rfl rfl) rfl ?_
          refine WL.v (RV.assign rfl) rfl ?_
          refine WL.nil ?_
          refine QF.seqNext ?_
          by_cases h4 : k = 4
          · subst h4
            rw [if_pos (by omega)]
            refine WC.condT rfl (rfl) ?_
            refine WC.skip ?_
            refine QF.seqNext ?_
            refine WC.condT rfl (rfl) ?_
            refine WC.seq ?_
            refine WC.seq ?_
            refine WC.region ?_
            refine WL.v (RV.fieldAddr 2 Tryz.underlying48 rfl rfl (Tryz.sizeOf46 _) (by decide) rfl) rfl ?_
            refine WL.v (RV.load (by first | exact c0 | exact c2) (Tryz.isAgg46 _) rfl) rfl ?_
            refine WL.v (RV.len (by first | exact hs1) Tryz.underlying46 rfl) rfl ?_
            refine WL.v (RV.move rfl) rfl ?_
            refine WL.nil ?_
            refine QF.seqNext ?_
            refine WC.block ?_
            refine WC.loop (fun y : Nat × Int × World => [(2, .int .i64 0), (3, .int .i64 y.2.1), (1, .pointer (some ⟨xb, 0, none⟩)), (19, sv), (20, .int .i64 xs.length), (21, .int .i64 y.1)]) (fun y : Nat × Int × World => y.2.2) (fun y : Nat × Int × World => y.1 ≤ xs.length ∧ 0 ≤ y.2.1 ∧ y.2.1 ≤ nszL (kids.take y.1) ∧ longL ((4 : Int) == 4) y.2.1 (kids.drop y.1) = longL ((4 : Int) == 4) 0 kids ∧ Ext w1 y.2.2) (fun y : Nat × Int × World => xs.length - y.1) (0, 0, w1) (⟨Nat.zero_le _, Int.le_refl _, by simp [nszL], rfl, Ext.refl _⟩) ⟨rfl, rfl, rfl, rfl, rfl, rfl, trivial⟩ rfl ?_
            rintro ⟨i, acc, w2⟩ ⟨hi, ha0, ha, hL, hE2⟩
            dsimp only at hi ha0 ha hL hE2 ⊢
            have hs2 := hs1.ext hE2
            refine WC.seq ?_
            refine WC.region ?_
            refine WL.v (RV.lss rfl rfl) rfl ?_
            refine WL.nil ?_
            refine QF.seqNext ?_
            refine WC.seq ?_
            refine WC.cond rfl ?_ ?_
            · intro hlt
              replace hlt : i < xs.length := by have := of_decide_eq_true hlt; omega
              have hkn := (hk i hlt).ext (hE1.trans hE2)
              have hxo := hkn.one
              have hkz := nszL_nth kids i (by omega)
              have hsu := nszL_succ kids i (by omega)
              have htk := nszL_take kids (i + 1)
              have hml := longM_le (nth kids i)
              rw [drop_nd (by omega)] at hL
              have hLu : longL ((4 : Int) == 4) acc (nth kids i :: kids.drop (i + 1)) = if longM (nth kids i) < 0 then -1 else longL ((4 : Int) == 4) (if ((4 : Int) == 4) = true then acc + longM (nth kids i) else max acc (longM (nth kids i))) (kids.drop (i + 1)) := rfl
              rw [hLu] at hL
              refine WC.skip ?_
              refine QF.seqNext ?_
              refine WC.seq ?_
              refine WC.block ?_
              refine WC.seq ?_
              refine WC.region ?_
              refine WL.v (RV.indexAddr (by first | exact hs2) Tryz.underlying46 (Tryz.sizeOf48 _) rfl rfl _ rfl (by omega)) rfl ?_
              refine WL.v (RV.loadAgg (us := encN (nth xs i)) (fun j u hu => hs2.cell hlt hu) (Tryz.isAgg48 _) (Tryz.sizeOf48 _) rfl) rfl ?_
              refine WL.allocO (Rng.start w2) 1 (by omega) (Tryz.zeroValue48 _) rfl ?_
              intro kb w3 O3 hk3 hU3 hR3 hE3
              refine WL.storeAgg (us := #[.int .i64 (nth xs i).1, .int .i64 (nth xs i).2.1, (nth xs i).2.2]) hk3 rfl (Tryz.sizeOf48 _) (nv_ok hxo) rfl rfl rfl ?_
              have hk4' := hk3.setRow (us := #[.int .i64 (nth xs i).1, .int .i64 (nth xs i).2.1, (nth xs i).2.2])
              have hE4 : Ext w2 (w3.setRow kb #[.int .i64 (nth xs i).1, .int .i64 (nth xs i).2.1, (nth xs i).2.2]) := (hU3.trans (Upd.setRow (by decide) hk3.tag rfl)).ext
              generalize w3.setRow kb #[.int .i64 (nth xs i).1, .int .i64 (nth xs i).2.1, (nth xs i).2.2] = w4 at *
              refine WL.nil ?_
              refine QF.seqNext ?_
              refine WC.seq ?_
              refine WC.region ?_
              refine WL.v (RV.loadAgg (us := encN (nth xs i)) hk4'.cellsAdd (Tryz.isAgg48 _) (Tryz.sizeOf48 _) rfl) rfl ?_
              refine WL.call Tryz.call98 rfl (longest_ret n (by omega) (nth kids i) (by omega) (nth xs i) w4 (hkn.ext hE4)) rfl ?_
              rintro v w5 ⟨rfl, hE5⟩
              have hE25 := (hE2.trans hE4).trans hE5
              have c05 : w5.cell? ((⟨xb, 0, none⟩ : Addr).add 0) = some (.int .i64 4) := hE25.cell c0
              refine WL.v (RV.assign rfl) rfl ?_
              refine WL.nil ?_
              refine QF.seqNext ?_
              refine WC.seq ?_
              refine WC.seq ?_
              refine WC.region ?_
              refine WL.v (RV.move rfl) rfl ?_
              refine WL.v (RV.lss rfl rfl) rfl ?_
              refine WL.nil ?_
              refine QF.seqNext ?_
              by_cases hneg : longM (nth kids i) < 0
              · rw [if_pos hneg] at hL
                refine WC.condT rfl ((decide_eq_true hneg)) ?_
                refine WC.seq ?_
                refine WC.region ?_
                refine WL.v (RV.assign rfl) rfl ?_
                refine WL.nil ?_
                refine QF.seqNext ?_
                refine WC.ret ?_
                refine QF.thenRet ?_
                refine QF.blockRet ?_
                refine QF.thenRet ?_
                refine QF.thenRet ?_
                refine QF.blockRet ?_
                refine QF.thenRet ?_
                refine QF.blockRet ?_
                refine QF.thenRet ?_
                refine QF.done1 rfl rfl (⟨by rw [← hL], hE1.trans hE25⟩)
              · rw [if_neg hneg] at hL
                refine WC.condF rfl ((decide_eq_false hneg)) ?_
                refine WC.skip ?_
                refine QF.seqNext ?_
                refine WC.seq ?_
                refine WC.region ?_
                refine WL.v (RV.fieldAddr 0 Tryz.underlying48 rfl rfl (Tryz.sizeOf3 _) (by decide) rfl) rfl ?_
                refine WL.v (RV.load (by first | exact c05) (Tryz.isAgg3 _) rfl) rfl ?_
                refine WL.v (RV.eql rfl rfl) rfl ?_
                refine WL.nil ?_
                refine QF.seqNext ?_
                refine WC.condT rfl (rfl) ?_
                refine WC.region ?_
                refine WL.v (RV.move rfl) rfl ?_
                refine WL.v (RV.move rfl) rfl ?_
                refine WL.v (RV.add rfl rfl (Fit.i64 (by omega))) rfl ?_
                refine WL.v (RV.assign rfl) rfl ?_
                refine WL.nil ?_
                refine QF.blockNormal ?_
                refine QF.seqNext ?_
                refine WC.region ?_
                refine WL.v (RV.add rfl rfl (Fit.i64 (by omega))) rfl ?_
                refine WL.v (RV.move rfl) rfl ?_
                refine WL.nil ?_
                refine QF.next ((i + 1, _, w5)) (⟨hlt, by dsimp only; omega, by dsimp only; omega, hL, hE25⟩) (by dsimp only; omega) ⟨rfl, rfl, rfl, rfl, rfl, rfl, trivial⟩ rfl
            · intro hge
              obtain rfl : i = xs.length := by have := of_decide_eq_false hge; omega
              rw [List.drop_of_length_le (by omega)] at hL
              refine WC.exit ?_
              refine QF.thenExit ?_
              refine QF.thenExit ?_
              refine QF.blockHit ?_
              refine QF.seqNext ?_
              refine WC.seq ?_
              refine WC.region ?_
              refine WL.v (RV.move rfl) rfl ?_
              refine WL.v (RV.assign rfl) rfl ?_
              refine WL.nil ?_
              refine QF.seqNext ?_
              refine WC.ret ?_
              refine QF.blockRet ?_
              refine QF.thenRet ?_
              refine QF.done1 rfl rfl (⟨by rw [← hL]; rfl, hE1.trans hE2⟩)
          · skip
            refine WC.condF rfl ((beq_eq_false_iff_ne.2 h4)) ?_
            have hk4b : (k == 4) = false := beq_eq_false_iff_ne.2 h4
            refine WC.seq ?_
            refine WC.region ?_
            refine WL.v (RV.eql rfl rfl) rfl ?_
            refine WL.v (RV.assign rfl) rfl ?_
            refine WL.nil ?_
            refine QF.seqNext ?_
            by_cases h5 : k = 5
            · subst h5
              rw [if_pos (by omega)]
              refine WC.condT rfl (rfl) ?_
              refine WC.skip ?_
              refine QF.seqNext ?_
              refine WC.condT rfl (rfl) ?_
              refine WC.seq ?_
              refine WC.seq ?_
              refine WC.region ?_
              refine WL.v (RV.fieldAddr 2 Tryz.underlying48 rfl rfl (Tryz.sizeOf46 _) (by decide) rfl) rfl ?_
              refine WL.v (RV.load (by first | exact c0 | exact c2) (Tryz.isAgg46 _) rfl) rfl ?_
              refine WL.v (RV.len (by first | exact hs1) Tryz.underlying46 rfl) rfl ?_
              refine WL.v (RV.move rfl) rfl ?_
              refine WL.nil ?_
              refine QF.seqNext ?_
              refine WC.block ?_
              refine WC.loop (fun y : Nat × Int × World => [(2, .int .i64 0), (3, .int .i64 y.2.1), (1, .pointer (some ⟨xb, 0, none⟩)), (19, sv), (20, .int .i64 xs.length), (21, .int .i64 y.1)]) (fun y : Nat × Int × World => y.2.2) (fun y : Nat × Int × World => y.1 ≤ xs.length ∧ 0 ≤ y.2.1 ∧ y.2.1 ≤ nszL (kids.take y.1) ∧ longL ((5 : Int) == 4) y.2.1 (kids.drop y.1) = longL ((5 : Int) == 4) 0 kids ∧ Ext w1 y.2.2) (fun y : Nat × Int × World => xs.length - y.1) (0, 0, w1) (⟨Nat.zero_le _, Int.le_refl _, by simp [nszL], rfl, Ext.refl _⟩) ⟨rfl, rfl, rfl, rfl, rfl, rfl, trivial⟩ rfl ?_
              rintro ⟨i, acc, w2⟩ ⟨hi, ha0, ha, hL, hE2⟩
              dsimp only at hi ha0 ha hL hE2 ⊢
              have hs2 := hs1.ext hE2
              refine WC.seq ?_
              refine WC.region ?_
              refine WL.v (RV.lss rfl rfl) rfl ?_
              refine WL.nil ?_
              refine QF.seqNext ?_
              refine WC.seq ?_
              refine WC.cond rfl ?_ ?_
              · intro hlt
                replace hlt : i < xs.length := by have := of_decide_eq_true hlt; omega
                have hkn := (hk i hlt).ext (hE1.trans hE2)
                have hxo := hkn.one
                have hkz := nszL_nth kids i (by omega)
                have hsu := nszL_succ kids i (by omega)
                have htk := nszL_take kids (i + 1)
                have hml := longM_le (nth kids i)
                rw [drop_nd (by omega)] at hL
                have hLu : longL ((5 : Int) == 4) acc (nth kids i :: kids.drop (i + 1)) = if longM (nth kids i) < 0 then -1 else longL ((5 : Int) == 4) (if ((5 : Int) == 4) = true then acc + longM (nth kids i) else max acc (longM (nth kids i))) (kids.drop (i + 1)) := rfl
                rw [hLu] at hL
                refine WC.skip ?_
                refine QF.seqNext ?_
                refine WC.seq ?_
                refine WC.block ?_
                refine WC.seq ?_
                refine WC.region ?_
                refine WL.v (RV.indexAddr (by first | exact hs2) Tryz.underlying46 (Tryz.sizeOf48 _) rfl rfl _ rfl (by omega)) rfl ?_
                refine WL.v (RV.loadAgg (us := encN (nth xs i)) (fun j u hu => hs2.cell hlt hu) (Tryz.isAgg48 _) (Tryz.sizeOf48 _) rfl) rfl ?_
                refine WL.allocO (Rng.start w2) 1 (by omega) (Tryz.zeroValue48 _) rfl ?_
                intro kb w3 O3 hk3 hU3 hR3 hE3
                refine WL.storeAgg (us := #[.int .i64 (nth xs i).1, .int .i64 (nth xs i).2.1, (nth xs i).2.2]) hk3 rfl (Tryz.sizeOf48 _) (nv_ok hxo) rfl rfl rfl ?_
                have hk4' := hk3.setRow (us := #[.int .i64 (nth xs i).1, .int .i64 (nth xs i).2.1, (nth xs i).2.2])
                have hE4 : Ext w2 (w3.setRow kb #[.int .i64 (nth xs i).1, .int .i64 (nth xs i).2.1, (nth xs i).2.2]) := (hU3.trans (Upd.setRow (by decide) hk3.tag rfl)).ext
                generalize w3.setRow kb #[.int .i64 (nth xs i).1, .int .i64 (nth xs i).2.1, (nth xs i).2.2] = w4 at *
                refine WL.nil ?_
                refine QF.seqNext ?_
                refine WC.seq ?_
                refine WC.region ?_
                refine WL.v (RV.loadAgg (us := encN (nth xs i)) hk4'.cellsAdd (Tryz.isAgg48 _) (Tryz.sizeOf48 _) rfl) rfl ?_
                refine WL.call Tryz.call98 rfl (longest_ret n (by omega) (nth kids i) (by omega) (nth xs i) w4 (hkn.ext hE4)) rfl ?_
                rintro v w5 ⟨rfl, hE5⟩
                have hE25 := (hE2.trans hE4).trans hE5
                have c05 : w5.cell? ((⟨xb, 0, none⟩ : Addr).add 0) = some (.int .i64 5) := hE25.cell c0
                refine WL.v (RV.assign rfl) rfl ?_
                refine WL.nil ?_
                refine QF.seqNext ?_
                refine WC.seq ?_
                refine WC.seq ?_
                refine WC.region ?_
                refine WL.v (RV.move rfl) rfl ?_
                refine WL.v (RV.lss rfl rfl) rfl ?_
                refine WL.nil ?_
                refine QF.seqNext ?_
                by_cases hneg : longM (nth kids i) < 0
                · rw [if_pos hneg] at hL
                  refine WC.condT rfl ((decide_eq_true hneg)) ?_
                  refine WC.seq ?_
                  refine WC.region ?_
                  refine WL.v (RV.assign rfl) rfl ?_
                  refine WL.nil ?_
                  refine QF.seqNext ?_
                  refine WC.ret ?_
                  refine QF.thenRet ?_
                  refine QF.blockRet ?_
                  refine QF.thenRet ?_
                  refine QF.thenRet ?_
                  refine QF.blockRet ?_
                  refine QF.thenRet ?_
                  refine QF.blockRet ?_
                  refine QF.thenRet ?_
                  refine QF.done1 rfl rfl (⟨by rw [← hL], hE1.trans hE25⟩)
                · rw [if_neg hneg] at hL
                  refine WC.condF rfl ((decide_eq_false hneg)) ?_
                  refine WC.skip ?_
                  refine QF.seqNext ?_
                  refine WC.seq ?_
                  refine WC.region ?_
                  refine WL.v (RV.fieldAddr 0 Tryz.underlying48 rfl rfl (Tryz.sizeOf3 _) (by decide) rfl) rfl ?_
                  refine WL.v (RV.load (by first | exact c05) (Tryz.isAgg3 _) rfl) rfl ?_
                  refine WL.v (RV.eql rfl rfl) rfl ?_
                  refine WL.nil ?_
                  refine QF.seqNext ?_
                  refine WC.condF rfl (rfl) ?_
                  refine WC.region ?_
                  refine WL.v (RV.move rfl) rfl ?_
                  refine WL.v (RV.move rfl) rfl ?_
                  refine WL.v (RV.max2 rfl rfl) rfl ?_
                  refine WL.v (RV.assign rfl) rfl ?_
                  refine WL.nil ?_
                  refine QF.blockNormal ?_
                  refine QF.seqNext ?_
                  refine WC.region ?_
                  refine WL.v (RV.add rfl rfl (Fit.i64 (by omega))) rfl ?_
                  refine WL.v (RV.move rfl) rfl ?_
                  refine WL.nil ?_
                  refine QF.next ((i + 1, _, w5)) (⟨hlt, by dsimp only; omega, by dsimp only; omega, hL, hE25⟩) (by dsimp only; omega) ⟨rfl, rfl, rfl, rfl, rfl, rfl, trivial⟩ rfl
              · intro hge
                obtain rfl : i = xs.length := by have := of_decide_eq_false hge; omega
                rw [List.drop_of_length_le (by omega)] at hL
                refine WC.exit ?_
                refine QF.thenExit ?_
                refine QF.thenExit ?_
                refine QF.blockHit ?_
                refine QF.seqNext ?_
                refine WC.seq ?_
                refine WC.region ?_
                refine WL.v (RV.move rfl) rfl ?_
                refine WL.v (RV.assign rfl) rfl ?_
                refine WL.nil ?_
                refine QF.seqNext ?_
                refine WC.ret ?_
                refine QF.blockRet ?_
                refine QF.thenRet ?_
                refine QF.done1 rfl rfl (⟨by rw [← hL]; rfl, hE1.trans hE2⟩)
            · skip
              refine WC.condF rfl ((beq_eq_false_iff_ne.2 h5)) ?_
              refine WC.region ?_
              refine WL.v (RV.eql rfl rfl) rfl ?_
              refine WL.v (RV.assign rfl) rfl ?_
              refine WL.nil ?_
              refine QF.seqNext ?_
              by_cases h8 : k = 8
              · subst h8
                rw [if_pos (by omega)]
                refine WC.condT rfl (rfl) ?_
                refine WC.seq ?_
                refine WC.seq ?_
                refine WC.region ?_
                refine WL.v (RV.fieldAddr 2 Tryz.underlying48 rfl rfl (Tryz.sizeOf46 _) (by decide) rfl) rfl ?_
                refine WL.v (RV.load (by first | exact c0 | exact c2) (Tryz.isAgg46 _) rfl) rfl ?_
                refine WL.v (RV.len (by first | exact hs1) Tryz.underlying46 rfl) rfl ?_
                refine WL.v (RV.move rfl) rfl ?_
                refine WL.nil ?_
                refine QF.seqNext ?_
                refine WC.block ?_
                refine WC.loop (fun y : Nat × Int × World => [(2, .int .i64 0), (3, .int .i64 y.2.1), (1, .pointer (some ⟨xb, 0, none⟩)), (19, sv), (20, .int .i64 xs.length), (21, .int .i64 y.1)]) (fun y : Nat × Int × World => y.2.2) (fun y : Nat × Int × World => y.1 ≤ xs.length ∧ 0 ≤ y.2.1 ∧ y.2.1 ≤ nszL (kids.take y.1) ∧ longL ((8 : Int) == 4) y.2.1 (kids.drop y.1) = longL ((8 : Int) == 4) 0 kids ∧ Ext w1 y.2.2) (fun y : Nat × Int × World => xs.length - y.1) (0, 0, w1) (⟨Nat.zero_le _, Int.le_refl _, by simp [nszL], rfl, Ext.refl _⟩) ⟨rfl, rfl, rfl, rfl, rfl, rfl, trivial⟩ rfl ?_
                rintro ⟨i, acc, w2⟩ ⟨hi, ha0, ha, hL, hE2⟩
                dsimp only at hi ha0 ha hL hE2 ⊢
                have hs2 := hs1.ext hE2
                refine WC.seq ?_
                refine WC.region ?_
                refine WL.v (RV.lss rfl rfl) rfl ?_
                refine WL.nil ?_
                refine QF.seqNext ?_
                refine WC.seq ?_
                refine WC.cond rfl ?_ ?_
                · intro hlt
                  replace hlt : i < xs.length := by have := of_decide_eq_true hlt; omega
                  have hkn := (hk i hlt).ext (hE1.trans hE2)
                  have hxo := hkn.one
                  have hkz := nszL_nth kids i (by omega)
                  have hsu := nszL_succ kids i (by omega)
                  have htk := nszL_take kids (i + 1)
                  have hml := longM_le (nth kids i)
                  rw [drop_nd (by omega)] at hL
                  have hLu : longL ((8 : Int) == 4) acc (nth kids i :: kids.drop (i + 1)) = if longM (nth kids i) < 0 then -1 else longL ((8 : Int) == 4) (if ((8 : Int) == 4) = true then acc + longM (nth kids i) else max acc (longM (nth kids i))) (kids.drop (i + 1)) := rfl
                  rw [hLu] at hL
                  refine WC.skip ?_
                  refine QF.seqNext ?_
                  refine WC.seq ?_
                  refine WC.block ?_
                  refine WC.seq ?_
                  refine WC.region ?_
                  refine WL.v (RV.indexAddr (by first | exact hs2) Tryz.underlying46 (Tryz.sizeOf48 _) rfl rfl _ rfl (by omega)) rfl ?_
                  refine WL.v (RV.loadAgg (us := encN (nth xs i)) (fun j u hu => hs2.cell hlt hu) (Tryz.isAgg48 _) (Tryz.sizeOf48 _) rfl) rfl ?_
                  refine WL.allocO (Rng.start w2) 1 (by omega) (Tryz.zeroValue48 _) rfl ?_
                  intro kb w3 O3 hk3 hU3 hR3 hE3
                  refine WL.storeAgg (us := #[.int .i64 (nth xs i).1, .int .i64 (nth xs i).2.1, (nth xs i).2.2]) hk3 rfl (Tryz.sizeOf48 _) (nv_ok hxo) rfl rfl rfl ?_
                  have hk4' := hk3.setRow (us := #[.int .i64 (nth xs i).1, .int .i64 (nth xs i).2.1, (nth xs i).2.2])
                  have hE4 : Ext w2 (w3.setRow kb #[.int .i64 (nth xs i).1, .int .i64 (nth xs i).2.1, (nth xs i).2.2]) := (hU3.trans (Upd.setRow (by decide) hk3.tag rfl)).ext
                  generalize w3.setRow kb #[.int .i64 (nth xs i).1, .int .i64 (nth xs i).2.1, (nth xs i).2.2] = w4 at *
                  refine WL.nil ?_
                  refine QF.seqNext ?_
                  refine WC.seq ?_
                  refine WC.region ?_
                  refine WL.v (RV.loadAgg (us := encN (nth xs i)) hk4'.cellsAdd (Tryz.isAgg48 _) (Tryz.sizeOf48 _) rfl) rfl ?_
                  refine WL.call Tryz.call98 rfl (longest_ret n (by omega) (nth kids i) (by omega) (nth xs i) w4 (hkn.ext hE4)) rfl ?_
                  rintro v w5 ⟨rfl, hE5⟩
                  have hE25 := (hE2.trans hE4).trans hE5
                  have c05 : w5.cell? ((⟨xb, 0, none⟩ : Addr).add 0) = some (.int .i64 8) := hE25.cell c0
                  refine WL.v (RV.assign rfl) rfl ?_
                  refine WL.nil ?_
                  refine QF.seqNext ?_
                  refine WC.seq ?_
                  refine WC.seq ?_
                  refine WC.region ?_
                  refine WL.v (RV.move rfl) rfl ?_
                  refine WL.v (RV.lss rfl rfl) rfl ?_
                  refine WL.nil ?_
                  refine QF.seqNext ?_
                  by_cases hneg : longM (nth kids i) < 0
                  · rw [if_pos hneg] at hL
                    refine WC.condT rfl ((decide_eq_true hneg)) ?_
                    refine WC.seq ?_
                    refine WC.region ?_
                    refine WL.v (RV.assign rfl) rfl ?_
                    refine WL.nil ?_
                    refine QF.seqNext ?_
                    refine WC.ret ?_
                    refine QF.thenRet ?_
                    refine QF.blockRet ?_
                    refine QF.thenRet ?_
                    refine QF.thenRet ?_
                    refine QF.blockRet ?_
                    refine QF.thenRet ?_
                    refine QF.blockRet ?_
                    refine QF.thenRet ?_
                    refine QF.done1 rfl rfl (⟨by rw [← hL], hE1.trans hE25⟩)
                  · rw [if_neg hneg] at hL
                    refine WC.condF rfl ((decide_eq_false hneg)) ?_
                    refine WC.skip ?_
                    refine QF.seqNext ?_
                    refine WC.seq ?_
                    refine WC.region ?_
                    refine WL.v (RV.fieldAddr 0 Tryz.underlying48 rfl rfl (Tryz.sizeOf3 _) (by decide) rfl) rfl ?_
                    refine WL.v (RV.load (by first | exact c05) (Tryz.isAgg3 _) rfl) rfl ?_
                    refine WL.v (RV.eql rfl rfl) rfl ?_
                    refine WL.nil ?_
                    refine QF.seqNext ?_
                    refine WC.condF rfl (rfl) ?_
                    refine WC.region ?_
                    refine WL.v (RV.move rfl) rfl ?_
                    refine WL.v (RV.move rfl) rfl ?_
                    refine WL.v (RV.max2 rfl rfl) rfl ?_
                    refine WL.v (RV.assign rfl) rfl ?_
                    refine WL.nil ?_
                    refine QF.blockNormal ?_
                    refine QF.seqNext ?_
                    refine WC.region ?_
                    refine WL.v (RV.add rfl rfl (Fit.i64 (by omega))) rfl ?_
                    refine WL.v (RV.move rfl) rfl ?_
                    refine WL.nil ?_
                    refine QF.next ((i + 1, _, w5)) (⟨hlt, by dsimp only; omega, by dsimp only; omega, hL, hE25⟩) (by dsimp only; omega) ⟨rfl, rfl, rfl, rfl, rfl, rfl, trivial⟩ rfl
                · intro hge
                  obtain rfl : i = xs.length := by have := of_decide_eq_false hge; omega
                  rw [List.drop_of_length_le (by omega)] at hL
                  refine WC.exit ?_
                  refine QF.thenExit ?_
                  refine QF.thenExit ?_
                  refine QF.blockHit ?_
                  refine QF.seqNext ?_
                  refine WC.seq ?_
                  refine WC.region ?_
                  refine WL.v (RV.move rfl) rfl ?_
                  refine WL.v (RV.assign rfl) rfl ?_
                  refine WL.nil ?_
                  refine QF.seqNext ?_
                  refine WC.ret ?_
                  refine QF.blockRet ?_
                  refine QF.thenRet ?_
                  refine QF.done1 rfl rfl (⟨by rw [← hL]; rfl, hE1.trans hE2⟩)
              · rw [if_neg (by omega)]
                refine WC.condF rfl ((beq_eq_false_iff_ne.2 h8)) ?_
                refine WC.skip ?_
                refine QF.blockNormal ?_
                refine QF.seqNext ?_
                refine WC.seq ?_
                refine WC.region ?_
                refine WL.v (RV.assign rfl) rfl ?_
                refine WL.nil ?_
                refine QF.seqNext ?_
                refine WC.ret ?_
                refine QF.done1 rfl rfl (⟨rfl, hE1⟩)
def longV (t : Nd) : Int := if rightM t = true then max (longM t) 0 else 0
def longB (t : Nd) : Bool := rightM t && decide (0 ≤ longM t)
theorem longestTop_ret (t : Nd) (x : N3) (w : World) (h : Nt (fun _ => 0) w t x) : Ret Tryz.prog 75 [nv x] w fun v w' => v = .tuple #[.int .i64 (longV t), .bool (longB t)] ∧ Ext w w' := by
  refine Ret.enter Tryz.func75 Tryz.ntmps75 rfl rfl ?_
  refine WC.seq ?_
  refine WC.region ?_
  refine WL.boxO (Rng.start w) 1 (by omega) rfl rfl ?_
  intro xb w1 O1 hx1 hU1 hR1 hE1
  have hc1 : ∀ W, Ext w1 W → ∀ (j : Nat) (u : Value), (encN x)[j]? = some u → W.cell? ((⟨xb, 0, none⟩ : Addr).add j) = some u := fun W hE j u hu => hE.cell (hx1.cellsAdd j u hu)
  refine WL.v (RV.assign rfl) rfl ?_
  refine WL.v (RV.assign rfl) rfl ?_
  refine WL.nil ?_
  refine QF.seqNext ?_
  refine WC.seq ?_
  refine WC.seq ?_
  refine WC.region ?_
  refine WL.v (RV.loadAgg (us := encN x) (hc1 w1 (Ext.refl _)) (Tryz.isAgg48 _) (Tryz.sizeOf48 _) rfl) rfl ?_
  refine WL.call Tryz.call49 rfl (right_ret t x w1 (h.ext hE1)) rfl ?_
  rintro v w2 ⟨rfl, hE2⟩
  refine WL.v (RV.not rfl) rfl ?_
  refine WL.nil ?_
  refine QF.seqNext ?_
  cases hr : rightM t with
  | false =>
    refine WC.condT rfl (rfl) ?_
    refine WC.seq ?_
    refine WC.region ?_
    refine WL.v (RV.assign rfl) rfl ?_
    refine WL.v (RV.assign rfl) rfl ?_
    refine WL.nil ?_
    refine QF.seqNext ?_
    refine WC.ret ?_
    refine QF.thenRet ?_
    refine QF.done2 rfl rfl rfl (⟨by simp [longV, longB, hr], hE1.trans hE2⟩)
  | true =>
    have hz : nsz t ≤ 2000 := by
      simp only [rightM, Bool.and_eq_true, decide_eq_true_eq] at hr; exact hr.1
    refine WC.condF rfl (rfl) ?_
    refine WC.skip ?_
    refine QF.seqNext ?_
    refine WC.seq ?_
    refine WC.region ?_
    refine WL.v (RV.loadAgg (us := encN x) (hc1 w2 hE2) (Tryz.isAgg48 _) (Tryz.sizeOf48 _) rfl) rfl ?_
    refine WL.call Tryz.call98 rfl (longest_ret (nsz t) (by omega) t (Nat.le_refl _) x w2 (h.ext (hE1.trans hE2))) rfl ?_
    rintro v w3 ⟨rfl, hE3⟩
    refine WL.v (RV.assign rfl) rfl ?_
    refine WL.nil ?_
    refine QF.seqNext ?_
    refine WC.seq ?_
    refine WC.region ?_
    refine WL.v (RV.move rfl) rfl ?_
    refine WL.v (RV.max2 rfl rfl) rfl ?_
    refine WL.v (RV.move rfl) rfl ?_
    refine WL.v (RV.geq rfl rfl) rfl ?_
    refine WL.v (RV.assign rfl) rfl ?_
    refine WL.v (RV.assign rfl) rfl ?_
    refine WL.nil ?_
    refine QF.seqNext ?_
    refine WC.ret ?_
    refine QF.done2 rfl rfl rfl (⟨by simp [longV, longB, hr], (hE1.trans hE2).trans hE3⟩)
theorem has1_of {b : Bool} {q : Int} {t : Nd} {kb : Nat} (ih : ∀ (y : N3) (W : World), Nt (fun _ => 0) W t y → Ret Tryz.prog 99 [nv y, .int .i64 q] W fun v w' => v = .bool b ∧ Ext W w') (x : N3) (w : World) (h : Nt (fun _ => 0) w t x) (hq : w.cell? ⟨kb, 0, none⟩ = some (.int .i64 q)) :
    Ret Tryz.prog 123 [nv x, .pointer (some ⟨kb, 0, none⟩)] w fun v w' => v = .bool b ∧ Ext w w' := by
  refine Ret.enter Tryz.func123 Tryz.ntmps123 rfl rfl ?_
  refine WC.seq ?_
  refine WC.region ?_
  refine WL.boxO (Rng.start w) 1 (by omega) rfl rfl ?_
  intro xb w1 O1 hx1 hU1 hR1 hE1
  have hq1 := hE1.cell hq
  refine WL.v (RV.assign rfl) rfl ?_
  refine WL.nil ?_
  refine QF.seqNext ?_
  refine WC.seq ?_
  refine WC.region ?_
  refine WL.v (RV.loadAgg (us := encN x) hx1.cellsAdd (Tryz.isAgg48 _) (Tryz.sizeOf48 _) rfl) rfl ?_
  refine WL.v (RV.load (by first | exact hq1) (Tryz.isAgg3 _) rfl) rfl ?_
  refine WL.call Tryz.call99 rfl (ih x w1 (h.ext hE1)) rfl ?_
  rintro v w2 ⟨rfl, hE2⟩
  refine WL.v (RV.assign rfl) rfl ?_
  refine WL.nil ?_
  refine QF.seqNext ?_
  refine WC.ret ?_
  refine QF.done1 rfl rfl (⟨rfl, hE1.trans hE2⟩)
theorem has_ret : ∀ (n : Nat) (t : Nd), nsz t ≤ n → ∀ (x : N3) (w : World) (q : Int), Nt (fun _ => 0) w t x → Ret Tryz.prog 99 [nv x, .int .i64 q] w fun v w' => v = .bool (hasM q t) ∧ Ext w w'
  | 0, t, hn => by have := nsz_pos t; omega
  | n + 1, .mk k c kids, hn => by
    intro x w q h
    have hx0 := h.ones
    obtain ⟨xs, hs, hf, hl, hk⟩ := h.kids
    simp only [Nd.kids] at hl hk
    simp only [nsz] at hn
    generalize x.2.2 = sv at *
    subst hx0
    simp only [Nd.kind, Nd.cls]
    have hM : hasM q (.mk k c kids) = ((k == q) || hasL q kids) := rfl
    rw [hM]
    refine Ret.enter Tryz.func99 Tryz.ntmps99 rfl rfl ?_
    refine WC.seq ?_
    refine WC.region ?_
    refine WL.boxO (Rng.start w) 1 (by omega) rfl rfl ?_
    intro xb w1 O1 hx1 hU1 hR1 hE1
    refine WL.boxO hR1 2 (by omega) rfl rfl ?_
    intro kb w2 O2 hk2 hU2 hR2 hE2
    have hx2 := hx1.upd hU2 (by decide) (by decide)
    have hE12 := hE1.trans hE2
    have c0 : w2.cell? ((⟨xb, 0, none⟩ : Addr).add 0) = some (.int .i64 k) := hx2.cell 0 rfl
    have c2 : w2.cell? ((⟨xb, 0, none⟩ : Addr).add 2) = some sv := hx2.cell 2 rfl
    have cq : w2.cell? ⟨kb, 0, none⟩ = some (.int .i64 q) := hk2.cell 0 rfl
    refine WL.v (RV.assign rfl) rfl ?_
    refine WL.nil ?_
    refine QF.seqNext ?_
    refine WC.seq ?_
    refine WC.region ?_
    refine WL.v (RV.fieldAddr 0 Tryz.underlying48 rfl rfl (Tryz.sizeOf3 _) (by decide) rfl) rfl ?_
    refine WL.v (RV.load (by first | exact c0 | exact c2 | exact cq) (Tryz.isAgg3 _) rfl) rfl ?_
    refine WL.v (RV.load (by first | exact c0 | exact c2 | exact cq) (Tryz.isAgg3 _) rfl) rfl ?_
    refine WL.v (RV.eql rfl rfl) rfl ?_
    refine WL.v (RV.move rfl) rfl ?_
    refine WL.orBS (Ext w2) (hasL q kids) 4 (Ext.refl _) rfl rfl rfl rfl rfl ?_ ?_
    · skip
      intro a1
      refine WL.on rfl ?_
      refine WL.v (RV.fieldAddr 2 Tryz.underlying48 rfl rfl (Tryz.sizeOf46 _) (by decide) rfl) rfl ?_
      refine WL.on rfl ?_
      refine WL.v (RV.load (by first | exact c2 | exact cq) (Tryz.isAgg46 _) rfl) rfl ?_
      refine WL.on rfl ?_
      refine WL.v (RV.mkFunc rfl rfl) rfl ?_
      refine WL.on rfl ?_
      refine WL.call Tryz.call96 rfl (containsFuncNode_ret Tryz.call123 #[.pointer (some ⟨kb, 0, none⟩)] xs sv (fun i => hasM q (nth kids i)) w2 (hs.ext hE12) (fun i hi w' hE => has1_of (fun y W hy => has_ret n (nth kids i) (by have := nszL_nth kids i (by omega); omega) y W q hy) (nth xs i) w' ((hk i hi).ext (hE12.trans hE)) (hE.cell cq))) rfl ?_
      have hfl := hasL_any q kids
      rw [hl] at hfl
      rw [hfl]
      rintro v w3 ⟨rfl, hE3⟩
      refine WL.nil ?_
      refine QF.andEnd (tA := 9) 5 (hE3) rfl rfl rfl (fun v hv => (Option.some.inj hv).symm.trans (congrArg Value.bool a1)) rfl
    intro w3 hE3
    refine WL.v (RV.assign rfl) rfl ?_
    refine WL.nil ?_
    refine QF.seqNext ?_
    refine WC.ret ?_
    refine QF.done1 rfl rfl (⟨rfl, hE12.trans hE3⟩)
theorem hasTop_ret (t : Nd) (q : Int) (x : N3) (w : World) (h : Nt (fun _ => 0) w t x) : Ret Tryz.prog 76 [nv x, .int .i64 q] w fun v w' => v = .bool (rightM t && hasM q t) ∧ Ext w w' := by
  refine Ret.enter Tryz.func76 Tryz.ntmps76 rfl rfl ?_
  refine WC.seq ?_
  refine WC.region ?_
  refine WL.boxO (Rng.start w) 1 (by omega) rfl rfl ?_
  intro xb w1 O1 hx1 hU1 hR1 hE1
  have hc1 : ∀ W, Ext w1 W → ∀ (j : Nat) (u : Value), (encN x)[j]? = some u → W.cell? ((⟨xb, 0, none⟩ : Addr).add j) = some u := fun W hE j u hu => hE.cell (hx1.cellsAdd j u hu)
  refine WL.v (RV.assign rfl) rfl ?_
  refine WL.nil ?_
  refine QF.seqNext ?_
  refine WC.seq ?_
  refine WC.region ?_
  refine WL.v (RV.loadAgg (us := encN x) (hc1 w1 (Ext.refl _)) (Tryz.isAgg48 _) (Tryz.sizeOf48 _) rfl) rfl ?_
  refine WL.call Tryz.call49 rfl (right_ret t x w1 (h.ext hE1)) rfl ?_
  rintro v w2 ⟨rfl, hE2⟩
  refine WL.v (RV.move rfl) rfl ?_
  refine WL.andBS (Ext w1) (hasM q t) 3 (hE2) rfl rfl rfl rfl rfl ?_ ?_
  · skip
    intro a1
    refine WL.on rfl ?_
    refine WL.v (RV.loadAgg (us := encN x) (hc1 _ hE2) (Tryz.isAgg48 _) (Tryz.sizeOf48 _) rfl) rfl ?_
    refine WL.on rfl ?_
    refine WL.v (RV.move rfl) rfl ?_
    refine WL.on rfl ?_
    refine WL.call Tryz.call99 rfl (has_ret (nsz t) t (Nat.le_refl _) x _ q (h.ext (hE1.trans hE2))) rfl ?_
    rintro v w3 ⟨rfl, hE3⟩
    refine WL.nil ?_
    refine QF.andEnd (tA := 7) 4 (hE2.trans hE3) rfl rfl rfl (fun v hv => (Option.some.inj hv).symm.trans (congrArg Value.bool a1)) rfl
  intro w3 hE3
  refine WL.v (RV.assign rfl) rfl ?_
  refine WL.nil ?_
  refine QF.seqNext ?_
  refine WC.ret ?_
  refine QF.done1 rfl rfl (⟨rfl, hE1.trans hE3⟩)
end Go.Proofs.YtmohcfjopaccdaaGreatDoor
