/- Packages virguleref05 and expr, walked: Size; Same. -/
import Derived.Test.YtmohcfjopaccdaaGreatDoorRuM
namespace Go.Proofs.YtmohcfjopaccdaaGreatDoor
open Go.VL Go.Proofs
set_option maxRecDepth 10000

/-! Plain. -/
mutual
def sameM : Nd → Nd → Bool
  | .mk k c l, .mk k' c' l' => ((k == k') && (c == c')) && sameL l l'
def sameL : List Nd → List Nd → Bool
  | [], [] => true
  | a :: l, b :: l' => sameM a b && sameL l l'
  | [], _ :: _ => false
  | _ :: _, [] => false
end
def allN (q : Nat → Bool) (n : Nat) : Bool := !(anyN (fun i => !(q i)) n)
theorem allN_true {q : Nat → Bool} {n : Nat} : allN q n = true ↔ ∀ i, i < n → q i = true := by
  unfold allN
  rw [Bool.not_eq_true', anyN_false]
  simp
theorem allN_all {q : Nat → Bool} {n : Nat} (h : ∀ i, i < n → q i = true) : allN q n = true := allN_true.2 h
theorem allN_no {q : Nat → Bool} {n k : Nat} (hk : k < n) (h : q k = false) : allN q n = false := by
  cases hq : allN q n with
  | false => rfl
  | true => exact absurd (allN_true.1 hq k hk) (by rw [h]; decide)
theorem sameL_eq : ∀ (l l' : List Nd), sameL l l' = (decide (l.length = l'.length) && allN (fun i => sameM (nth l i) (nth l' i)) l.length)
  | [], [] => rfl
  | a :: l, [] => by simp [sameL]
  | [], b :: l' => by simp [sameL]
  | a :: l, b :: l' => by
    have ih := sameL_eq l l'
    rw [sameL, ih, Bool.eq_iff_iff]
    simp only [Bool.and_eq_true, decide_eq_true_eq, allN_true, List.length_cons, Nat.add_right_cancel_iff]
    constructor
    · rintro ⟨h1, h2, h3⟩
      refine ⟨h2, fun i hi => ?_⟩
      cases i with
      | zero => rw [nth_cons0, nth_cons0]; exact h1
      | succ i => rw [nth_cons, nth_cons]; exact h3 i (by omega)
    · rintro ⟨h1, h2⟩
      refine ⟨by have := h2 0 (by omega); rwa [nth_cons0, nth_cons0] at this, h1, fun i hi => ?_⟩
      have := h2 (i + 1) (by omega)
      rwa [nth_cons, nth_cons] at this
mutual
theorem sameM_eq : ∀ (t s : Nd), sameM t s = true → t = s
  | .mk k c l, .mk k' c' l', h => by
    simp only [sameM, Bool.and_eq_true, beq_iff_eq] at h
    obtain ⟨⟨rfl, rfl⟩, h⟩ := h
    rw [sameL_id l l' h]
theorem sameL_id : ∀ (l l' : List Nd), sameL l l' = true → l = l'
  | [], [], _ => rfl
  | a :: l, [], h => by simp [sameL] at h
  | [], b :: l', h => by simp [sameL] at h
  | a :: l, b :: l', h => by
    simp only [sameL, Bool.and_eq_true] at h
    rw [sameM_eq a b h.1, sameL_id l l' h.2]
end
mutual
theorem sameM_self : ∀ (t : Nd), sameM t t = true
  | .mk k c l => by simp only [sameM, Bool.and_eq_true, beq_self_eq_true, sameL_self l, and_self]
theorem sameL_self : ∀ (l : List Nd), sameL l l = true
  | [] => rfl
  | a :: l => by simp only [sameL, sameM_self a, sameL_self l, Bool.and_self]
end

/-! Walks. -/
theorem rsize_ret : ∀ (n : Nat) (t : Nd), nsz t ≤ n → ∀ (x : N3) (w : World) (most : Nat), Nt (fun _ => 0) w t x → most ≤ 1000000 → Ret Tryz.prog 20 [nv x, .int .i64 (most : Int)] w fun v w' => v = .int .i64 ((min (nsz t) (most + 1) : Nat) : Int) ∧ Ext w w'
  | 0, t, hn => by have := nsz_pos t; omega
  | n + 1, .mk k c kids, hn => by
    intro x w most h hm
    obtain ⟨xs, hs, hf, hl, hk⟩ := h.kids
    simp only [Nd.kids] at hl hk
    have hkl := nszL_len kids
    simp only [nsz] at hn ⊢
    have hlen := hs.len_le
    refine Ret.enter Tryz.func20 Tryz.ntmps20 rfl rfl ?_
    refine WC.seq ?_
    refine WC.region ?_
    refine WL.boxO (Rng.start w) 1 (by omega) rfl rfl ?_
    intro xb w1 O1 hx1 hU1 hR1 hE1
    have c2 : w1.cell? ((⟨xb, 0, none⟩ : Addr).add 2) = some x.2.2 := hx1.cell 2 rfl
    have hs1 := hs.ext hE1
    refine WL.v (RV.assign rfl) rfl ?_
    refine WL.nil ?_
    refine QF.seqNext ?_
    refine WC.seq ?_
    refine WC.region ?_
    refine WL.v (RV.assign rfl) rfl ?_
    refine WL.nil ?_
    refine QF.seqNext ?_
    refine WC.seq ?_
    refine WC.seq ?_
    refine WC.region ?_
    refine WL.v (RV.assign rfl) rfl ?_
    refine WL.nil ?_
    refine QF.seqNext ?_
    refine WC.block ?_
    refine WC.loop (fun y : Nat × World => [(1, .int .i64 (most : Int)), (2, .pointer (some ⟨xb, 0, none⟩)), (5, .int .i64 ((min (nszL (kids.take y.1) + 1) (most + 1) : Nat) : Int)), (6, .int .i64 y.1)]) (fun y : Nat × World => y.2) (fun y : Nat × World => y.1 ≤ xs.length ∧ Ext w1 y.2) (fun y : Nat × World => xs.length - y.1) (0, w1) (⟨Nat.zero_le _, Ext.refl _⟩) ⟨rfl, rfl, rfl, rfl, trivial⟩ rfl ?_
    rintro ⟨i, w2⟩ ⟨hi, hE2⟩
    dsimp only at hi hE2 ⊢
    have hs2 := hs1.ext hE2
    have d2 := hE2.cell c2
    have htk0 := nszL_take kids i
    refine WC.seq ?_
    refine WC.seq ?_
    refine WC.region ?_
    refine WL.v (RV.move rfl) rfl ?_
    refine WL.v (RV.fieldAddr 2 Tryz.underlying62 rfl rfl (Tryz.sizeOf60 _) (by decide) rfl) rfl ?_
    refine WL.v (RV.load (by first | exact d2) (Tryz.isAgg60 _) rfl) rfl ?_
    refine WL.v (RV.len (by first | exact hs2) Tryz.underlying60 rfl) rfl ?_
    refine WL.v (RV.lss rfl rfl) rfl ?_
    refine WL.v (RV.move rfl) rfl ?_
    refine WL.andBS (fun w1 => _ = w1) (decide (((min (nszL (kids.take i) + 1) (most + 1) : Nat) : Int) ≤ (most : Int))) 3 (rfl) rfl rfl rfl rfl rfl ?_ ?_
    · skip
      intro a1
      refine WL.on rfl ?_
      refine WL.v (RV.move rfl) rfl ?_
      refine WL.on rfl ?_
      refine WL.v (RV.move rfl) rfl ?_
      refine WL.on rfl ?_
      refine WL.v (RV.leq rfl rfl) rfl ?_
      refine WL.nil ?_
      refine QF.andEnd (tA := 12) 4 (rfl) rfl rfl rfl (fun v hv => (Option.some.inj hv).symm.trans (congrArg Value.bool a1)) rfl
    rintro _ rfl
    refine WL.nil ?_
    refine QF.seqNext ?_
    refine WC.cond rfl ?_ ?_
    · intro hc
      simp only [Bool.and_eq_true, decide_eq_true_eq] at hc
      obtain ⟨hc1, hc2⟩ := hc
      have hlt : i < xs.length := by omega
      have hsu := nszL_succ kids i (by omega)
      have htk := nszL_take kids (i + 1)
      have hkn := (hk i hlt).ext (hE1.trans hE2)
      have hxo := hkn.one
      have hkz := nszL_nth kids i (by omega)
      refine WC.skip ?_
      refine QF.seqNext ?_
      refine WC.seq ?_
      refine WC.block ?_
      refine WC.region ?_
      refine WL.v (RV.move rfl) rfl ?_
      refine WL.v (RV.fieldAddr 2 Tryz.underlying62 rfl rfl (Tryz.sizeOf60 _) (by decide) rfl) rfl ?_
      refine WL.v (RV.load (by first | exact d2) (Tryz.isAgg60 _) rfl) rfl ?_
      refine WL.v (RV.move rfl) rfl ?_
      refine WL.v (RV.indexAddr (by first | exact hs2) Tryz.underlying60 (Tryz.sizeOf62 _) rfl rfl _ rfl (by omega)) rfl ?_
      refine WL.v (RV.loadAgg (us := encN (nth xs i)) (fun j u hu => hs2.cell hlt hu) (Tryz.isAgg62 _) (Tryz.sizeOf62 _) rfl) rfl ?_
      refine WL.v (RV.move rfl) rfl ?_
      refine WL.v (RV.move rfl) rfl ?_
      refine WL.v (RV.sub rfl rfl (Fit.i64 (by omega))) rfl ?_
      rw [show (most : Int) - ((min (nszL (kids.take i) + 1) (most + 1) : Nat) : Int) = ((most - (nszL (kids.take i) + 1) : Nat) : Int) from by omega]
      refine WL.call Tryz.call20 rfl (rsize_ret n (nth kids i) (by omega) (nth xs i) w2 (most - (nszL (kids.take i) + 1)) hkn (by omega)) rfl ?_
      rintro v w5 ⟨rfl, hE5⟩
      refine WL.v (RV.add rfl rfl (Fit.i64 (by omega))) rfl ?_
      refine WL.v (RV.assign rfl) rfl ?_
      refine WL.nil ?_
      refine QF.blockNormal ?_
      refine QF.seqNext ?_
      refine WC.region ?_
      refine WL.v (RV.move rfl) rfl ?_
      refine WL.v (RV.add rfl rfl (Fit.i64 (by omega))) rfl ?_
      refine WL.v (RV.assign rfl) rfl ?_
      refine WL.nil ?_
      rw [show ((min (nszL (kids.take i) + 1) (most + 1) : Nat) : Int) + ((min (nsz (nth kids i)) (most - (nszL (kids.take i) + 1) + 1) : Nat) : Int) = ((min (nszL (kids.take (i + 1)) + 1) (most + 1) : Nat) : Int) from by omega]
      refine QF.next ((i + 1, w5)) (⟨hlt, hE2.trans hE5⟩) (by dsimp only; omega) ⟨rfl, rfl, rfl, rfl, trivial⟩ rfl
    · intro hc
      simp only [Bool.and_eq_false_iff, decide_eq_false_iff_not] at hc
      have he : min (nszL (kids.take i) + 1) (most + 1) = min (nszL kids + 1) (most + 1) := by
        rcases hc with hc | hc
        · obtain rfl : i = xs.length := by omega
          rw [← hl, List.take_length]
        · omega
      refine WC.exit ?_
      refine QF.thenExit ?_
      refine QF.thenExit ?_
      refine QF.blockHit ?_
      refine QF.seqNext ?_
      refine WC.seq ?_
      refine WC.region ?_
      refine WL.v (RV.move rfl) rfl ?_
      refine WL.v (RV.assign rfl) rfl ?_
      refine WL.nil ?_
      refine QF.seqNext ?_
      refine WC.ret ?_
      refine QF.done1 rfl rfl (⟨by rw [he], hE1.trans hE2⟩)
theorem equalNode_ret {F : FuncId} (hF : ∀ (args : Array Value) (w : World), (callFunc F args).run Tryz.prog w = .ok (.enter F args) w) (l1 l2 : List (N3)) (v1 v2 : Value) (q : Nat → Bool) (w : World) (h1 : Sl encN 3 w v1 l1) (h2 : Sl encN 3 w v2 l2) (ho1 : ∀ i, i < l1.length → ∀ c ∈ encN (nth l1 i), c.oneCell' = true) (ho2 : ∀ i, i < l2.length → ∀ c ∈ encN (nth l2 i), c.oneCell' = true)
    (hq : ∀ i, i < l1.length → i < l2.length → ∀ w', Ext w w' → Ret Tryz.prog F [nv (nth l1 i), nv (nth l2 i)] w' fun v w'' => v = .bool (q i) ∧ Ext w' w'') :
    Ret Tryz.prog 77 [v1, v2, .func (.func F) #[] #[]] w fun v w' => v = .bool (decide (l1.length = l2.length) && allN q l1.length) ∧ Ext w w' := by
  have hl1 := h1.len_le
  have hl2 := h2.len_le
  refine Ret.enter Tryz.func77 Tryz.ntmps77 rfl rfl ?_
  refine WC.seq ?_
  refine WC.region ?_
  refine WL.v (RV.assign rfl) rfl ?_
  refine WL.nil ?_
  refine QF.seqNext ?_
  refine WC.seq ?_
  refine WC.seq ?_
  refine WC.region ?_
  refine WL.v (RV.move rfl) rfl ?_
  refine WL.v (RV.len (by first | exact h1 | exact h2) Tryz.underlying46 rfl) rfl ?_
  refine WL.v (RV.move rfl) rfl ?_
  refine WL.v (RV.len (by first | exact h1 | exact h2) Tryz.underlying46 rfl) rfl ?_
  refine WL.v (RV.neq rfl rfl) rfl ?_
  refine WL.nil ?_
  refine QF.seqNext ?_
  by_cases hl : l1.length = l2.length
  · skip
    refine WC.condF rfl ((by rw [hl]; simp)) ?_
    refine WC.skip ?_
    refine QF.seqNext ?_
    refine WC.seq ?_
    refine WC.seq ?_
    refine WC.region ?_
    refine WL.v (RV.move rfl) rfl ?_
    refine WL.v (RV.len (by first | exact h1 | exact h2) Tryz.underlying46 rfl) rfl ?_
    refine WL.v (RV.move rfl) rfl ?_
    refine WL.nil ?_
    refine QF.seqNext ?_
    refine WC.block ?_
    refine WC.loop (fun y : Nat × World => [(1, v2), (2, .func (.func F) #[] #[]), (15, v1), (16, .int .i64 l1.length), (17, .int .i64 y.1)]) (fun y : Nat × World => y.2) (fun y : Nat × World => y.1 ≤ l1.length ∧ Ext w y.2 ∧ ∀ i, i < y.1 → q i = true) (fun y : Nat × World => l1.length - y.1) (0, w) (⟨Nat.zero_le _, Ext.refl _, fun i hi => absurd hi (Nat.not_lt_zero i)⟩) ⟨rfl, rfl, rfl, rfl, rfl, trivial⟩ rfl ?_
    rintro ⟨k, w1⟩ ⟨hk, hE, hyes⟩
    dsimp only at hk hE hyes ⊢
    have g1 := h1.ext hE
    have g2 := h2.ext hE
    refine WC.seq ?_
    refine WC.region ?_
    refine WL.v (RV.lss rfl rfl) rfl ?_
    refine WL.nil ?_
    refine QF.seqNext ?_
    refine WC.seq ?_
    refine WC.cond rfl ?_ ?_
    · intro hlt
      replace hlt : k < l1.length := by have := of_decide_eq_true hlt; omega
      have hlt2 : k < l2.length := by omega
      have o1 := ho1 k hlt
      have o2 := ho2 k hlt2
      refine WC.skip ?_
      refine QF.seqNext ?_
      refine WC.seq ?_
      refine WC.block ?_
      refine WC.seq ?_
      refine WC.region ?_
      refine WL.v (RV.move rfl) rfl ?_
      refine WL.v (RV.indexAddr (by first | exact g1 | exact g2) Tryz.underlying46 (Tryz.sizeOf48 _) rfl rfl _ rfl (by omega)) rfl ?_
      refine WL.v (RV.loadAgg (us := encN (nth l1 k)) (fun j u hu => g1.cell hlt hu) (Tryz.isAgg48 _) (Tryz.sizeOf48 _) rfl) rfl ?_
      refine WL.allocO (Rng.start w1) 1 (by omega) (Tryz.zeroValue48 _) rfl ?_
      intro ab w2 O2 ha2 hU2 hR2 hE2
      refine WL.v (RV.assign rfl) rfl ?_
      refine WL.storeAgg (us := (encN (nth l1 k)).toArray) ha2 rfl (Tryz.sizeOf48 _) (List.all_eq_true.2 o1) rfl rfl rfl ?_
      have ha3 := ha2.setRow (us := (encN (nth l1 k)).toArray)
      have hU3 : Upd (fun j => j = 1) O2 w2 O2 (w2.setRow ab (encN (nth l1 k)).toArray) := Upd.setRow (by decide) ha2.tag rfl
      have hR3 := hR2.upd hU3
      have hU13 := hU2.trans hU3
      generalize w2.setRow ab (encN (nth l1 k)).toArray = w3 at *
      have g23 := g2.ext hU13.ext
      refine WL.nil ?_
      refine QF.seqNext ?_
      refine WC.seq ?_
      refine WC.region ?_
      refine WL.v (RV.move rfl) rfl ?_
      refine WL.v (RV.move rfl) rfl ?_
      refine WL.v (RV.indexAddr (by first | exact g23) Tryz.underlying46 (Tryz.sizeOf48 _) rfl rfl _ rfl (by omega)) rfl ?_
      refine WL.v (RV.loadAgg (us := encN (nth l2 k)) (fun j u hu => g23.cell hlt2 hu) (Tryz.isAgg48 _) (Tryz.sizeOf48 _) rfl) rfl ?_
      refine WL.allocO hR3 2 (by omega) (Tryz.zeroValue48 _) rfl ?_
      intro bb w4 O4 hb4 hU4 hR4 hE4
      refine WL.storeAgg (us := (encN (nth l2 k)).toArray) hb4 rfl (Tryz.sizeOf48 _) (List.all_eq_true.2 o2) rfl rfl rfl ?_
      have hb5 := hb4.setRow (us := (encN (nth l2 k)).toArray)
      have hU5 : Upd (fun j => j = 2) O4 w4 O4 (w4.setRow bb (encN (nth l2 k)).toArray) := Upd.setRow (by decide) hb4.tag rfl
      have hU45 := hU4.trans hU5
      have ha5 := ha3.upd hU45 (by decide) (by decide)
      have hE5 : Ext w1 (w4.setRow bb (encN (nth l2 k)).toArray) := ((hU13.mono (S' := fun j => j = 1 ∨ j = 2) (fun _ h => .inl h) (by decide)).trans (hU45.mono (fun _ h => .inr h) (by decide))).ext
      generalize w4.setRow bb (encN (nth l2 k)).toArray = w5 at *
      refine WL.nil ?_
      refine QF.seqNext ?_
      refine WC.seq ?_
      refine WC.region ?_
      refine WL.v (RV.move rfl) rfl ?_
      refine WL.v (RV.loadAgg (us := encN (nth l1 k)) ha5.cellsAdd (Tryz.isAgg48 _) (Tryz.sizeOf48 _) rfl) rfl ?_
      refine WL.v (RV.loadAgg (us := encN (nth l2 k)) hb5.cellsAdd (Tryz.isAgg48 _) (Tryz.sizeOf48 _) rfl) rfl ?_
      refine WL.callV rfl hF rfl (hq k hlt hlt2 w5 (hE.trans hE5)) rfl ?_
      rintro v w6 ⟨rfl, hE6⟩
      refine WL.v (RV.not rfl) rfl ?_
      refine WL.nil ?_
      refine QF.seqNext ?_
      refine WC.cond rfl ?_ ?_
      · intro hy
        replace hy : q k = false := by simpa using hy
        refine WC.seq ?_
        refine WC.region ?_
        refine WL.v (RV.assign rfl) rfl ?_
        refine WL.nil ?_
        refine QF.seqNext ?_
        refine WC.ret ?_
        refine QF.blockRet ?_
        refine QF.thenRet ?_
        refine QF.thenRet ?_
        refine QF.blockRet ?_
        refine QF.thenRet ?_
        refine QF.done1 rfl rfl (⟨by rw [allN_no hlt hy, Bool.and_false], (hE.trans hE5).trans hE6⟩)
      · intro hy
        replace hy : q k = true := by simpa using hy
        refine WC.skip ?_
        refine QF.blockNormal ?_
        refine QF.seqNext ?_
        refine WC.region ?_
        refine WL.v (RV.add rfl rfl (Fit.i64 (by omega))) rfl ?_
        refine WL.v (RV.move rfl) rfl ?_
        refine WL.nil ?_
        refine QF.next ((k + 1, w6)) (⟨hlt, (hE.trans hE5).trans hE6, fun i hi => (Nat.lt_succ_iff_lt_or_eq.1 hi).elim (hyes i) (fun e => by rw [e]; exact hy)⟩) (by dsimp only; omega) ⟨rfl, rfl, rfl, rfl, rfl, trivial⟩ rfl
    · intro hge
      replace hge : l1.length ≤ k := by have := of_decide_eq_false hge; omega
      refine WC.exit ?_
      refine QF.thenExit ?_
      refine QF.thenExit ?_
      refine QF.blockHit ?_
      refine QF.seqNext ?_
      refine WC.seq ?_
      refine WC.region ?_
      refine WL.v (RV.assign rfl) rfl ?_
      refine WL.nil ?_
      refine QF.seqNext ?_
      refine WC.ret ?_
      refine QF.done1 rfl rfl (⟨by rw [decide_eq_true hl, allN_all fun i hi => hyes i (by omega)]; rfl, hE⟩)
  · skip
    refine WC.condT rfl ((by simpa using fun e : (l1.length : Int) = (l2.length : Int) => hl (by omega))) ?_
    refine WC.seq ?_
    refine WC.region ?_
    refine WL.v (RV.assign rfl) rfl ?_
    refine WL.nil ?_
    refine QF.seqNext ?_
    refine WC.ret ?_
    refine QF.thenRet ?_
    refine QF.done1 rfl rfl (⟨by rw [decide_eq_false hl]; rfl, Ext.refl _⟩)
theorem same_ret : ∀ (n : Nat) (t s : Nd), nsz t ≤ n → ∀ (x y : N3) (w : World), Nt (fun _ => 0) w t x → Nt (fun _ => 0) w s y → Ret Tryz.prog 52 [nv x, nv y] w fun v w' => v = .bool (sameM t s) ∧ Ext w w'
  | 0, t, s, hn => by have := nsz_pos t; omega
  | n + 1, .mk k c kids, .mk k' c' kids', hn => by
    intro x y w h h'
    have hx0 := h.ones
    have hy0 := h'.ones
    obtain ⟨xs, hs, hf, hl, hk⟩ := h.kids
    obtain ⟨ys, hs', hf', hl', hk'⟩ := h'.kids
    simp only [Nd.kids] at hl hk hl' hk'
    simp only [nsz] at hn
    have hF : sameM (.mk k c kids) (.mk k' c' kids') = (((k == k') && (c == c')) && (decide (xs.length = ys.length) && allN (fun i => sameM (nth kids i) (nth kids' i)) xs.length)) := by
      rw [sameM, sameL_eq, hl, hl']
    rw [hF]
    generalize x.2.2 = sv at *
    generalize y.2.2 = sv' at *
    subst hx0
    subst hy0
    simp only [Nd.kind, Nd.cls]
    refine Ret.enter Tryz.func52 Tryz.ntmps52 rfl rfl ?_
    refine WC.seq ?_
    refine WC.region ?_
    refine WL.boxO (Rng.start w) 1 (by omega) rfl rfl ?_
    intro xb w1 O1 hx1 hU1 hR1 hE1
    refine WL.boxO hR1 2 (by omega) rfl rfl ?_
    intro yb w2 O2 hy2 hU2 hR2 hE2
    have hx2 := hx1.upd hU2 (by decide) (by decide)
    have hE := hE1.trans hE2
    have c0 : w2.cell? ((⟨xb, 0, none⟩ : Addr).add 0) = some (.int .i64 k) := hx2.cell 0 rfl
    have c1 : w2.cell? ((⟨xb, 0, none⟩ : Addr).add 1) = some (.int .i64 c) := hx2.cell 1 rfl
    have c2 : w2.cell? ((⟨xb, 0, none⟩ : Addr).add 2) = some sv := hx2.cell 2 rfl
    have d0 : w2.cell? ((⟨yb, 0, none⟩ : Addr).add 0) = some (.int .i64 k') := hy2.cell 0 rfl
    have d1 : w2.cell? ((⟨yb, 0, none⟩ : Addr).add 1) = some (.int .i64 c') := hy2.cell 1 rfl
    have d2 : w2.cell? ((⟨yb, 0, none⟩ : Addr).add 2) = some sv' := hy2.cell 2 rfl
    refine WL.v (RV.assign rfl) rfl ?_
    refine WL.nil ?_
    refine QF.seqNext ?_
    refine WC.seq ?_
    refine WC.region ?_
    refine WL.v (RV.fieldAddr 0 Tryz.underlying48 rfl rfl (Tryz.sizeOf3 _) (by decide) rfl) rfl ?_
    refine WL.v (RV.load (by first | exact c0 | exact c1 | exact c2 | exact d0 | exact d1 | exact d2) (Tryz.isAgg3 _) rfl) rfl ?_
    refine WL.v (RV.fieldAddr 0 Tryz.underlying48 rfl rfl (Tryz.sizeOf3 _) (by decide) rfl) rfl ?_
    refine WL.v (RV.load (by first | exact c0 | exact c1 | exact c2 | exact d0 | exact d1 | exact d2) (Tryz.isAgg3 _) rfl) rfl ?_
    refine WL.v (RV.eql rfl rfl) rfl ?_
    refine WL.v (RV.move rfl) rfl ?_
    refine WL.andBS (fun w1 => _ = w1) ((c == c')) 5 (rfl) rfl rfl rfl rfl rfl ?_ ?_
    · skip
      intro a1
      refine WL.on rfl ?_
      refine WL.v (RV.fieldAddr 1 Tryz.underlying48 rfl rfl (Tryz.sizeOf3 _) (by decide) rfl) rfl ?_
      refine WL.on rfl ?_
      refine WL.v (RV.load (by first | exact c0 | exact c1 | exact c2 | exact d0 | exact d1 | exact d2) (Tryz.isAgg3 _) rfl) rfl ?_
      refine WL.on rfl ?_
      refine WL.v (RV.fieldAddr 1 Tryz.underlying48 rfl rfl (Tryz.sizeOf3 _) (by decide) rfl) rfl ?_
      refine WL.on rfl ?_
      refine WL.v (RV.load (by first | exact c0 | exact c1 | exact c2 | exact d0 | exact d1 | exact d2) (Tryz.isAgg3 _) rfl) rfl ?_
      refine WL.on rfl ?_
      refine WL.v (RV.eql rfl rfl) rfl ?_
      refine WL.nil ?_
      refine QF.andEnd (tA := 10) 6 (rfl) rfl rfl rfl (fun v hv => (Option.some.inj hv).symm.trans (congrArg Value.bool a1)) rfl
    rintro _ rfl
    refine WL.v (RV.move rfl) rfl ?_
    refine WL.andBS (Ext w2) ((decide (xs.length = ys.length) && allN (fun i => sameM (nth kids i) (nth kids' i)) xs.length)) 5 (Ext.refl w2) rfl rfl rfl rfl rfl ?_ ?_
    · skip
      intro a2
      refine WL.on rfl ?_
      refine WL.v (RV.fieldAddr 2 Tryz.underlying48 rfl rfl (Tryz.sizeOf46 _) (by decide) rfl) rfl ?_
      refine WL.on rfl ?_
      refine WL.v (RV.load (by first | exact c0 | exact c1 | exact c2 | exact d0 | exact d1 | exact d2) (Tryz.isAgg46 _) rfl) rfl ?_
      refine WL.on rfl ?_
      refine WL.v (RV.fieldAddr 2 Tryz.underlying48 rfl rfl (Tryz.sizeOf46 _) (by decide) rfl) rfl ?_
      refine WL.on rfl ?_
      refine WL.v (RV.load (by first | exact c0 | exact c1 | exact c2 | exact d0 | exact d1 | exact d2) (Tryz.isAgg46 _) rfl) rfl ?_
      refine WL.on rfl ?_
      refine WL.call Tryz.call77 rfl (equalNode_ret Tryz.call52 xs ys sv sv' (fun i => sameM (nth kids i) (nth kids' i)) w2 (hs.ext hE) (hs'.ext hE) (fun i hi => enc_one (hk i hi).one) (fun i hi => enc_one (hk' i hi).one) (fun i hi hi' w' hE' => same_ret n (nth kids i) (nth kids' i) (by have := nszL_nth kids i (by omega); omega) (nth xs i) (nth ys i) w' ((hk i hi).ext (hE.trans hE')) ((hk' i hi').ext (hE.trans hE')))) rfl ?_
      rintro v w3 ⟨rfl, hE3⟩
      refine WL.nil ?_
      refine QF.andEnd (tA := 17) 6 (hE3) rfl rfl rfl (fun v hv => (Option.some.inj hv).symm.trans (congrArg Value.bool a2)) rfl
    intro w3 hE3
    refine WL.v (RV.assign rfl) rfl ?_
    refine WL.nil ?_
    refine QF.seqNext ?_
    refine WC.ret ?_
    refine QF.done1 rfl rfl (⟨rfl, hE.trans hE3⟩)
theorem rsame_ret : ∀ (n : Nat) (t s : Nd), nsz t ≤ n → ∀ (x y : N3) (w : World), Nt (fun _ => 0) w t x → Nt (fun _ => 0) w s y → Ret Tryz.prog 36 [nv x, nv y] w fun v w' => v = .bool (sameM t s) ∧ Ext w w'
  | 0, t, s, hn => by have := nsz_pos t; omega
  | n + 1, .mk k c kids, .mk k' c' kids', hn => by
    intro x y w h h'
    have hx0 := h.ones
    have hy0 := h'.ones
    obtain ⟨xs, hs, hf, hl, hk⟩ := h.kids
    obtain ⟨ys, hs', hf', hl', hk'⟩ := h'.kids
    simp only [Nd.kids] at hl hk hl' hk'
    simp only [nsz] at hn
    have hF : sameM (.mk k c kids) (.mk k' c' kids') = (((k == k') && (c == c')) && (decide (xs.length = ys.length) && allN (fun i => sameM (nth kids i) (nth kids' i)) xs.length)) := by
      rw [sameM, sameL_eq, hl, hl']
    rw [hF]
    generalize x.2.2 = sv at *
    generalize y.2.2 = sv' at *
    subst hx0
    subst hy0
    simp only [Nd.kind, Nd.cls]
    have hlx := hs.len_le
    have hly := hs'.len_le
    refine Ret.enter Tryz.func36 Tryz.ntmps36 rfl rfl ?_
    refine WC.seq ?_
    refine WC.region ?_
    refine WL.boxO (Rng.start w) 1 (by omega) rfl rfl ?_
    intro xb w1 O1 hx1 hU1 hR1 hE1
    refine WL.boxO hR1 2 (by omega) rfl rfl ?_
    intro yb w2 O2 hy2 hU2 hR2 hE2
    have hx2 := hx1.upd hU2 (by decide) (by decide)
    have hE := hE1.trans hE2
    have c0 : w2.cell? ((⟨xb, 0, none⟩ : Addr).add 0) = some (.int .i64 k) := hx2.cell 0 rfl
    have c1 : w2.cell? ((⟨xb, 0, none⟩ : Addr).add 1) = some (.int .i64 c) := hx2.cell 1 rfl
    have c2 : w2.cell? ((⟨xb, 0, none⟩ : Addr).add 2) = some sv := hx2.cell 2 rfl
    have d0 : w2.cell? ((⟨yb, 0, none⟩ : Addr).add 0) = some (.int .i64 k') := hy2.cell 0 rfl
    have d1 : w2.cell? ((⟨yb, 0, none⟩ : Addr).add 1) = some (.int .i64 c') := hy2.cell 1 rfl
    have d2 : w2.cell? ((⟨yb, 0, none⟩ : Addr).add 2) = some sv' := hy2.cell 2 rfl
    have g1 := hs.ext hE
    have g2 := hs'.ext hE
    refine WL.v (RV.assign rfl) rfl ?_
    refine WL.nil ?_
    refine QF.seqNext ?_
    refine WC.seq ?_
    refine WC.seq ?_
    refine WC.region ?_
    refine WL.v (RV.fieldAddr 0 Tryz.underlying62 rfl rfl (Tryz.sizeOf3 _) (by decide) rfl) rfl ?_
    refine WL.v (RV.load (by first | exact c0 | exact c1 | exact c2 | exact d0 | exact d1 | exact d2) (Tryz.isAgg3 _) rfl) rfl ?_
    refine WL.v (RV.fieldAddr 0 Tryz.underlying62 rfl rfl (Tryz.sizeOf3 _) (by decide) rfl) rfl ?_
    refine WL.v (RV.load (by first | exact c0 | exact c1 | exact c2 | exact d0 | exact d1 | exact d2) (Tryz.isAgg3 _) rfl) rfl ?_
    refine WL.v (RV.neq rfl rfl) rfl ?_
    refine WL.v (RV.move rfl) rfl ?_
    refine WL.orBS (fun w1 => _ = w1) ((c != c')) 5 (rfl) rfl rfl rfl rfl rfl ?_ ?_
    · skip
      intro a1
      refine WL.on rfl ?_
      refine WL.v (RV.fieldAddr 1 Tryz.underlying62 rfl rfl (Tryz.sizeOf3 _) (by decide) rfl) rfl ?_
      refine WL.on rfl ?_
      refine WL.v (RV.load (by first | exact c0 | exact c1 | exact c2 | exact d0 | exact d1 | exact d2) (Tryz.isAgg3 _) rfl) rfl ?_
      refine WL.on rfl ?_
      refine WL.v (RV.fieldAddr 1 Tryz.underlying62 rfl rfl (Tryz.sizeOf3 _) (by decide) rfl) rfl ?_
      refine WL.on rfl ?_
      refine WL.v (RV.load (by first | exact c0 | exact c1 | exact c2 | exact d0 | exact d1 | exact d2) (Tryz.isAgg3 _) rfl) rfl ?_
      refine WL.on rfl ?_
      refine WL.v (RV.neq rfl rfl) rfl ?_
      refine WL.nil ?_
      refine QF.andEnd (tA := 11) 6 (rfl) rfl rfl rfl (fun v hv => (Option.some.inj hv).symm.trans (congrArg Value.bool a1)) rfl
    rintro _ rfl
    refine WL.v (RV.move rfl) rfl ?_
    refine WL.orBS (fun w1 => _ = w1) (((xs.length : Int) != (ys.length : Int))) 7 (rfl) rfl rfl rfl rfl rfl ?_ ?_
    · skip
      intro a2
      refine WL.on rfl ?_
      refine WL.v (RV.fieldAddr 2 Tryz.underlying62 rfl rfl (Tryz.sizeOf60 _) (by decide) rfl) rfl ?_
      refine WL.on rfl ?_
      refine WL.v (RV.load (by first | exact c0 | exact c1 | exact c2 | exact d0 | exact d1 | exact d2) (Tryz.isAgg60 _) rfl) rfl ?_
      refine WL.on rfl ?_
      refine WL.v (RV.len (by first | exact g1 | exact g2) Tryz.underlying60 rfl) rfl ?_
      refine WL.on rfl ?_
      refine WL.v (RV.fieldAddr 2 Tryz.underlying62 rfl rfl (Tryz.sizeOf60 _) (by decide) rfl) rfl ?_
      refine WL.on rfl ?_
      refine WL.v (RV.load (by first | exact c0 | exact c1 | exact c2 | exact d0 | exact d1 | exact d2) (Tryz.isAgg60 _) rfl) rfl ?_
      refine WL.on rfl ?_
      refine WL.v (RV.len (by first | exact g1 | exact g2) Tryz.underlying60 rfl) rfl ?_
      refine WL.on rfl ?_
      refine WL.v (RV.neq rfl rfl) rfl ?_
      refine WL.nil ?_
      refine QF.andEnd (tA := 18) 8 (rfl) rfl rfl rfl (fun v hv => (Option.some.inj hv).symm.trans (congrArg Value.bool a2)) rfl
    rintro _ rfl
    refine WL.nil ?_
    refine QF.seqNext ?_
    cases hd : (((k != k') || (c != c')) || ((xs.length : Int) != (ys.length : Int))) with
    | true =>
      have hv : (((k == k') && (c == c')) && (decide (xs.length = ys.length) && allN (fun i => sameM (nth kids i) (nth kids' i)) xs.length)) = false := by
        simp only [Bool.or_eq_true, bne_iff_ne] at hd
        rcases hd with (hd | hd) | hd
        · rw [beq_eq_false_iff_ne.2 hd]; rfl
        · rw [beq_eq_false_iff_ne.2 hd, Bool.and_false]; rfl
        · rw [decide_eq_false (show ¬ xs.length = ys.length from fun e => hd (by rw [e])), Bool.false_and, Bool.and_false]
      refine WC.condT rfl (rfl) ?_
      refine WC.seq ?_
      refine WC.region ?_
      refine WL.v (RV.assign rfl) rfl ?_
      refine WL.nil ?_
      refine QF.seqNext ?_
      refine WC.ret ?_
      refine QF.thenRet ?_
      refine QF.done1 rfl rfl (⟨by rw [hv], hE⟩)
    | false =>
      simp only [Bool.or_eq_false_iff, bne_eq_false_iff_eq] at hd
      obtain ⟨⟨rfl, rfl⟩, hll⟩ := hd
      replace hll : xs.length = ys.length := by omega
      rw [decide_eq_true hll]
      refine WC.condF rfl ((by simp [hll])) ?_
      refine WC.skip ?_
      refine QF.seqNext ?_
      refine WC.seq ?_
      refine WC.seq ?_
      refine WC.region ?_
      refine WL.v (RV.assign rfl) rfl ?_
      refine WL.nil ?_
      refine QF.seqNext ?_
      refine WC.block ?_
      refine WC.loop (fun y : Nat × World => [(2, .pointer (some ⟨xb, 0, none⟩)), (3, .pointer (some ⟨yb, 0, none⟩)), (5, .int .i64 y.1)]) (fun y : Nat × World => y.2) (fun y : Nat × World => y.1 ≤ xs.length ∧ Ext w2 y.2 ∧ ∀ i, i < y.1 → sameM (nth kids i) (nth kids' i) = true) (fun y : Nat × World => xs.length - y.1) (0, w2) (⟨Nat.zero_le _, Ext.refl _, fun i hi => absurd hi (Nat.not_lt_zero i)⟩) ⟨rfl, rfl, rfl, trivial⟩ rfl ?_
      rintro ⟨i, w3⟩ ⟨hi, hE3, hyes⟩
      dsimp only at hi hE3 hyes ⊢
      have e2 := hE3.cell c2
      have f2 := hE3.cell d2
      have g13 := g1.ext hE3
      have g23 := g2.ext hE3
      refine WC.seq ?_
      refine WC.seq ?_
      refine WC.region ?_
      refine WL.v (RV.move rfl) rfl ?_
      refine WL.v (RV.fieldAddr 2 Tryz.underlying62 rfl rfl (Tryz.sizeOf60 _) (by decide) rfl) rfl ?_
      refine WL.v (RV.load (by first | exact e2 | exact f2) (Tryz.isAgg60 _) rfl) rfl ?_
      refine WL.v (RV.len (by first | exact g13 | exact g23) Tryz.underlying60 rfl) rfl ?_
      refine WL.v (RV.lss rfl rfl) rfl ?_
      refine WL.nil ?_
      refine QF.seqNext ?_
      refine WC.cond rfl ?_ ?_
      · intro hlt
        replace hlt : i < xs.length := by have := of_decide_eq_true hlt; omega
        have hlt2 : i < ys.length := by omega
        have hkz := nszL_nth kids i (by omega)
        have e2d : w3.drew.cell? ((⟨xb, 0, none⟩ : Addr).add 2) = some sv := e2
        have f2d : w3.drew.cell? ((⟨yb, 0, none⟩ : Addr).add 2) = some sv' := f2
        have g1d := g13.drew
        have g2d := g23.drew
        refine WC.skip ?_
        refine QF.seqNext ?_
        refine WC.seq ?_
        refine WC.block ?_
        refine WC.seq ?_
        refine WC.tail 10 rfl rfl (by kernel_rfl) (by kernel_rfl) ?_
        refine WS.v (RV.fieldAddr 2 Tryz.underlying62 rfl rfl (Tryz.sizeOf60 _) (by decide) rfl) rfl ?_
        refine WS.v (RV.load (by first | exact e2 | exact f2) (Tryz.isAgg60 _) rfl) rfl ?_
        refine WS.v (RV.move rfl) rfl ?_
        refine WS.v (RV.indexAddr (by first | exact (g13).drew | exact (g23).drew) Tryz.underlying60 (Tryz.sizeOf62 _) rfl rfl _ rfl (by omega)) rfl ?_
        refine WS.v (RV.loadAgg (us := encN (nth xs i)) (fun j u hu => g1d.cell hlt hu) (Tryz.isAgg62 _) (Tryz.sizeOf62 _) rfl) rfl ?_
        refine WS.v (RV.fieldAddr 2 Tryz.underlying62 rfl rfl (Tryz.sizeOf60 _) (by decide) rfl) rfl ?_
        refine WS.v (RV.load (by first | exact e2 | exact f2) (Tryz.isAgg60 _) rfl) rfl ?_
        refine WS.v (RV.move rfl) rfl ?_
        refine WS.v (RV.indexAddr (by first | exact (g13).drew | exact (g23).drew) Tryz.underlying60 (Tryz.sizeOf62 _) rfl rfl _ rfl (by omega)) rfl ?_
        refine WS.v (RV.loadAgg (us := encN (nth ys i)) (fun j u hu => g2d.cell hlt2 hu) (Tryz.isAgg62 _) (Tryz.sizeOf62 _) rfl) rfl ?_
        refine WS.go ?_
        refine WL.call Tryz.call36 rfl (rsame_ret n (nth kids i) (nth kids' i) (by omega) (nth xs i) (nth ys i) w3.drew (((hk i hlt).ext (hE.trans hE3)).drew) (((hk' i hlt2).ext (hE.trans hE3)).drew)) rfl ?_
        rintro v w4 ⟨rfl, hE4⟩
        have hE34 : Ext w3 w4 := (Ext.refl w3).drew.trans hE4
        refine WL.v (RV.not rfl) rfl ?_
        refine WL.nil ?_
        refine QF.seqNext ?_
        refine WC.cond rfl ?_ ?_
        · intro hy
          replace hy : sameM (nth kids i) (nth kids' i) = false := by simpa using hy
          refine WC.seq ?_
          refine WC.region ?_
          refine WL.v (RV.assign rfl) rfl ?_
          refine WL.nil ?_
          refine QF.seqNext ?_
          refine WC.ret ?_
          refine QF.blockRet ?_
          refine QF.thenRet ?_
          refine QF.thenRet ?_
          refine QF.blockRet ?_
          refine QF.thenRet ?_
          refine QF.done1 rfl rfl (⟨by rw [allN_no hlt hy, Bool.and_false, Bool.and_false], (hE.trans hE3).trans hE34⟩)
        · intro hy
          replace hy : sameM (nth kids i) (nth kids' i) = true := by simpa using hy
          refine WC.skip ?_
          refine QF.blockNormal ?_
          refine QF.seqNext ?_
          refine WC.region ?_
          refine WL.v (RV.move rfl) rfl ?_
          refine WL.v (RV.add rfl rfl (Fit.i64 (by omega))) rfl ?_
          refine WL.v (RV.assign rfl) rfl ?_
          refine WL.nil ?_
          refine QF.next ((i + 1, w4)) (⟨hlt, hE3.trans hE34, fun j hj => (Nat.lt_succ_iff_lt_or_eq.1 hj).elim (hyes j) (fun e => by rw [e]; exact hy)⟩) (by dsimp only; omega) ⟨rfl, rfl, rfl, trivial⟩ rfl
      · intro hge
        replace hge : xs.length ≤ i := by have := of_decide_eq_false hge; omega
        refine WC.exit ?_
        refine QF.thenExit ?_
        refine QF.thenExit ?_
        refine QF.blockHit ?_
        refine QF.seqNext ?_
        refine WC.seq ?_
        refine WC.region ?_
        refine WL.v (RV.assign rfl) rfl ?_
        refine WL.nil ?_
        refine QF.seqNext ?_
        refine WC.ret ?_
        refine QF.done1 rfl rfl (⟨by rw [allN_all fun j hj => hyes j (by omega)]; simp, hE.trans hE3⟩)
end Go.Proofs.YtmohcfjopaccdaaGreatDoor
