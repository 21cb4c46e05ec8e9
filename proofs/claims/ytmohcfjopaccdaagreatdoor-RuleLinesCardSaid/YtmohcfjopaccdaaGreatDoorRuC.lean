/- Package rule, walked: looks; a rule. -/
import Derived.Test.YtmohcfjopaccdaaGreatDoorRuB
namespace Go.Proofs.YtmohcfjopaccdaaGreatDoor
open Go.VL Go.Proofs
set_option maxRecDepth 10000

def looksM (t : Nd) : Int := if (rightM t && hasM 3 t) = true then 4 else if (!(longB t) || decide (4 < longV t)) = true then 8 else 0
theorem looks_ret (t : Nd) (x : N3) (w : World) (h : Nt (fun _ => 0) w t x) : Ret Tryz.prog 50 [nv x] w fun v w' => v = .int .i64 (looksM t) ∧ Ext w w' := by
  refine Ret.enter Tryz.func50 Tryz.ntmps50 rfl rfl ?_
  refine WC.seq ?_
  refine WC.region ?_
  refine WL.boxO (Rng.start w) 1 (by omega) rfl rfl ?_
  intro xb w1 O1 hx1 hU1 hR1 hE1
  have hc1 : ∀ W, Ext w1 W → ∀ (j : Nat) (u : Value), (encN x)[j]? = some u → W.cell? ((⟨xb, 0, none⟩ : Addr).add j) = some u := fun W hE j u hu => hE.cell (hx1.cellsAdd j u hu)
  refine WL.v (RV.assign rfl) rfl ?_
  refine WL.nil ?_
  refine QF.seqNext ?_
  refine WC.seq ?_
  refine WC.region ?_
  refine WL.v (RV.loadAgg (us := encN x) (hc1 w1 (Ext.refl _)) (Tryz.isAgg48 _) (Tryz.sizeOf48 _) rfl) rfl ?_
  refine WL.call Tryz.call75 rfl (longestTop_ret t x w1 (h.ext hE1)) rfl ?_
  rintro v w2 ⟨rfl, hE2⟩
  refine WL.v (RV.move rfl) rfl ?_
  refine WL.v (RV.extract rfl rfl) rfl ?_
  refine WL.v (RV.extract rfl rfl) rfl ?_
  refine WL.v (RV.assign rfl) rfl ?_
  refine WL.v (RV.assign rfl) rfl ?_
  refine WL.nil ?_
  refine QF.seqNext ?_
  refine WC.seq ?_
  refine WC.block ?_
  refine WC.seq ?_
  refine WC.region ?_
  refine WL.v (RV.loadAgg (us := encN x) (hc1 w2 hE2) (Tryz.isAgg48 _) (Tryz.sizeOf48 _) rfl) rfl ?_
  refine WL.call Tryz.call76 rfl (hasTop_ret t 3 x w2 (h.ext (hE1.trans hE2))) rfl ?_
  rintro v w3 ⟨rfl, hE3⟩
  have hE13 := (hE1.trans hE2).trans hE3
  refine WL.v (RV.assign rfl) rfl ?_
  refine WL.nil ?_
  refine QF.seqNext ?_
  cases h1 : (rightM t && hasM 3 t) with
  | true =>
    refine WC.condT rfl (rfl) ?_
    refine WC.seq ?_
    refine WC.region ?_
    refine WL.v (RV.assign rfl) rfl ?_
    refine WL.nil ?_
    refine QF.seqNext ?_
    refine WC.ret ?_
    refine QF.blockRet ?_
    refine QF.thenRet ?_
    refine QF.done1 rfl rfl (⟨by unfold looksM; rw [if_pos h1], hE13⟩)
  | false =>
    refine WC.condF rfl (rfl) ?_
    refine WC.seq ?_
    refine WC.region ?_
    refine WL.v (RV.move rfl) rfl ?_
    refine WL.v (RV.not rfl) rfl ?_
    refine WL.v (RV.move rfl) rfl ?_
    refine WL.orBS (fun w1 => _ = w1) (decide (4 < longV t)) 2 (rfl) rfl rfl rfl rfl rfl ?_ ?_
    · skip
      intro a1
      refine WL.on rfl ?_
      refine WL.v (RV.move rfl) rfl ?_
      refine WL.on rfl ?_
      refine WL.v (RV.gtr rfl rfl) rfl ?_
      refine WL.nil ?_
      refine QF.andEnd (tA := 16) 3 (rfl) rfl rfl rfl (fun v hv => (Option.some.inj hv).symm.trans (congrArg Value.bool a1)) rfl
    rintro _ rfl
    refine WL.v (RV.assign rfl) rfl ?_
    refine WL.nil ?_
    refine QF.seqNext ?_
    cases h2 : (!(longB t) || decide (4 < longV t)) with
    | true =>
      refine WC.condT rfl (rfl) ?_
      refine WC.seq ?_
      refine WC.region ?_
      refine WL.v (RV.assign rfl) rfl ?_
      refine WL.nil ?_
      refine QF.seqNext ?_
      refine WC.ret ?_
      refine QF.blockRet ?_
      refine QF.thenRet ?_
      refine QF.done1 rfl rfl (⟨by unfold looksM; rw [if_neg (by rw [h1]; decide), if_pos h2], hE13⟩)
    | false =>
      refine WC.condF rfl (rfl) ?_
      refine WC.skip ?_
      refine QF.blockNormal ?_
      refine QF.seqNext ?_
      refine WC.seq ?_
      refine WC.region ?_
      refine WL.v (RV.assign rfl) rfl ?_
      refine WL.nil ?_
      refine QF.seqNext ?_
      refine WC.ret ?_
      refine QF.done1 rfl rfl (⟨by unfold looksM; rw [if_neg (by rw [h1]; decide), if_neg (by rw [h2]; decide)], hE13⟩)

abbrev R3 := Nd × Nd × Bool
abbrev X3 := N3 × N3 × Bool
def encR (x : X3) : List Value := [.int .i64 x.1.1, .int .i64 x.1.2.1, x.1.2.2, .int .i64 x.2.1.1, .int .i64 x.2.1.2.1, x.2.1.2.2, .bool x.2.2]
def Rt (O : Nat → Nat) (w : World) (t : R3) (x : X3) : Prop := Nt O w t.1 x.1 ∧ Nt O w t.2.1 x.2.1 ∧ x.2.2 = t.2.2
theorem Rt.upd {S : Nat → Prop} {O O' : Nat → Nat} {w w' : World} {t : R3} {x : X3} (h : Rt O w t x) (u : Upd S O w O' w') : Rt O' w' t x := ⟨h.1.upd u, h.2.1.upd u, h.2.2⟩
theorem Rt.weak {O O' : Nat → Nat} {w : World} {t : R3} {x : X3} (h : Rt O' w t x) (k : ∀ b, O' b = 0 → O b = 0) : Rt O w t x := ⟨h.1.weak k, h.2.1.weak k, h.2.2⟩
theorem elR : Elem Tryz.prog 24 50 7 88 := ⟨Tryz.underlying24, by kernel_rfl, by decide⟩
theorem pl50 : Places Tryz.prog 50 #[(0, 3), (3, 3), (6, 1)] := ⟨_, Tryz.underlying50, fun w => by kernel_rfl⟩
inductive LR where
  | ok (x : R3)
  | bad (p : Nat) (e : Int)
def ruleM (r : List UInt8) : LR :=
  match r.findIdx? sgnB with
  | none => .bad r.length 4
  | some k =>
    match sideM (r.take k) with
    | .bad p e => .bad p e
    | .ok a =>
      match sideM (r.drop (k + 1)) with
      | .bad p e => .bad (k + 1 + p) e
      | .ok b => if looksM b ≠ 0 then .bad (k + 1) (looksM b) else .ok (a, b, (((nth r k).toNat : Int) == 47))
def ruleK (kn : Kn) (r : List UInt8) : LR :=
  match r.findIdx? sgnB with
  | none => .bad r.length 4
  | some k =>
    match sideK kn (r.take k) with
    | .bad p e => .bad p e
    | .ok a =>
      match sideK kn (r.drop (k + 1)) with
      | .bad p e => .bad (k + 1 + p) e
      | .ok b => if looksM b ≠ 0 then .bad (k + 1) (looksM b) else .ok (a, b, (((nth r k).toNat : Int) == 47))
theorem ruleK_nil (r : List UInt8) : ruleK [] r = ruleM r := by
  unfold ruleK ruleM
  cases r.findIdx? sgnB with
  | none => rfl
  | some k =>
    dsimp only
    rw [sideK_nil, sideK_nil]
variable {kn : Kn}
def sAfter (s : LS) (fr : Nat) : XR → LS
  | .ok _ => s
  | .bad p e => {s with bad := (fr : Int) + (p : Int), e := e}
theorem PostS.rd {O : Nat → Nat} {w : World} {j rb : Nat} {s : LS} {fr : Nat} {x : N3} {M : XR} (h : PostS O w j rb s fr x M) : Rd6 O w j rb (sAfter s fr M) := by
  cases M with
  | ok t => exact h.2
  | bad p e => exact h.2.2
theorem PostS.one {O : Nat → Nat} {w : World} {j rb : Nat} {s : LS} {fr : Nat} {x : N3} {M : XR} (h : PostS O w j rb s fr x M) : x.2.2.oneCell' = true := by
  cases M with
  | ok t => exact h.1.one
  | bad p e => rw [h.1]; rfl
theorem PostS.upd {S : Nat → Prop} {O O' : Nat → Nat} {w w' : World} {j rb : Nat} {s : LS} {fr : Nat} {x : N3} {M : XR} (h : PostS O w j rb s fr x M) (u : Upd S O w O' w') (hj : j ≠ 0) (hS : ¬ S j) : PostS O' w' j rb s fr x M := by
  cases M with
  | ok t => exact ⟨h.1.upd u, BlkO.upd h.2 u hj hS⟩
  | bad p e => exact ⟨h.1, h.2.1, BlkO.upd h.2.2 u hj hS⟩
theorem sAfter_l (s : LS) (fr : Nat) (M : XR) : (sAfter s fr M).l = s.l := by cases M <;> rfl
theorem sAfter_bg (s : LS) (fr : Nat) (M : XR) : (sAfter s fr M).bg = s.bg := by cases M <;> rfl
def PostR (B : Nat) (O : Nat → Nat) (w w' : World) (j jr rb : Nat) (s : LS) (xs : List X3) (M : LR) : Prop :=
  ∃ O' rv, Upd (fun k => k = j ∨ k = jr) O w O' w' ∧ Rng B O' w' ∧
    match M with
    | .ok t => ∃ x, RowT encR 50 7 O' w' jr rv (xs ++ [x]) ∧ Rt O' w' t x ∧ Rd6 O' w' j rb {s with ru := rv}
    | .bad p e => e ≠ 0 ∧ Rd6 O' w' j rb {s with ru := rv, bad := s.bg + (p : Int), e := e}
theorem ruleN_one {x y : N3} {b : Bool} (h1 : x.2.2.oneCell' = true) (h2 : y.2.2.oneCell' = true) : (encR (x, y, b)).toArray.toList.all Value.oneCell' = true := by
  simp only [encR, List.all_cons, h1, h2]; rfl
theorem encR_ones {x y : N3} {b : Bool} (h1 : x.2.2.oneCell' = true) (h2 : y.2.2.oneCell' = true) : ∀ c ∈ encR (x, y, b), c.oneCell' = true := by
  have := ruleN_one (b := b) h1 h2
  exact List.all_eq_true.1 this
theorem suf_eq {L r : List UInt8} (h : r <:+ L) : L.drop (L.length - r.length) = r := (List.suffix_iff_eq_drop.1 h).symm
theorem right_cells {O : Nat → Nat} {w : World} {i b : Nat} {x1 x2 : N3} {brk : Bool} {E : TypeId} (h : BlkO O w i b (encR (x1, x2, brk)).toArray E) : ∀ (q : Nat) (u : Value), (encN x2)[q]? = some u → w.cell? (((⟨b, 0, none⟩ : Addr).add 3).add q) = some u := fun q u hu => by
  have e : (((⟨b, 0, none⟩ : Addr).add 3).add q) = ⟨b, 3 + q, none⟩ := by
    simp only [Addr.add]; (repeat' split) <;> simp_all
  rw [e]
  refine h.cell (3 + q) ?_
  simp only [encN] at hu
  match q, hu with
  | 0, hu => exact hu
  | 1, hu => exact hu
  | 2, hu => exact hu
theorem sideS {O : Nat → Nat} {w : World} {j rb m n : Nat} {s : LS} {fr : Nat} {x : N3} {M : XR} {hbg : s.bg = ((m - n : Nat) : Int)} (h : PostS O w j rb s fr x M) : w.cell? ⟨rb, 0, none⟩ = some (.string (bs s.l)) ∧ w.cell? ⟨rb, 3, none⟩ = some (.int .i64 ((m - n : Nat) : Int)) := by
  have h0 := h.rd.q0
  have h3 := h.rd.q3
  rw [sAfter_l] at h0
  rw [sAfter_bg, hbg] at h3
  exact ⟨h0, h3⟩
theorem ruleK_ret (B : Nat) (O : Nat → Nat) (w : World) (j jr rb : Nat) (s : LS) (m : Nat) (r : List UInt8) (xs : List X3) (hR : Rng B O w) (hj : j ≠ 0) (hjr : jr ≠ 0) (hne : j ≠ jr) (hm : m ≤ s.l.length) (hl : s.l.length ≤ 100000) (hto : s.to = (m : Int)) (hbg : s.bg = ((m - r.length : Nat) : Int)) (he : s.e = 0) {jm : Nat} (hjm : jm ≠ 0) (hjjm : j ≠ jm) (hrm : jr ≠ jm) (hkn : Mac O w jm s.mc kn)
    (hr : r <:+ s.l.take m) (hrow : RowT encR 50 7 O w jr s.ru xs) (hxl : xs.length ≤ 40) (h : Rd6 O w j rb s) :
    Ret Tryz.prog 42 [.pointer (some ⟨rb, 0, none⟩)] w fun _ w' => PostR B O w w' j jr rb s xs (if xs.length = 40 then .bad 0 3 else ruleK kn r) := by
  obtain ⟨T0, hT00, hT01⟩ := hR.bound
  obtain ⟨T, hT0, hjrT, hjmT, hT⟩ : ∃ T, 0 < T ∧ jr < T ∧ jm < T ∧ ∀ b, O b < T := ⟨T0 + jr + jm + 1, by omega, by omega, by omega, fun b => by have := hT01 b; omega⟩
  clear hT00 hT01 T0
  have hjT : j < T := by rw [← h.tag]; exact hT rb
  have hz3 : ¬ (fun q : Nat => q = j ∨ q = jr ∨ T ≤ q) 0 := fun e => by rcases e with e | e | e; exact hj e.symm; exact hjr e.symm; omega
  have hz2 : ¬ (fun q : Nat => q = j ∨ q = jr) 0 := fun e => by rcases e with e | e; exact hj e.symm; exact hjr e.symm
  have hLl : (s.l.take m).length = m := by simp; omega
  have hrl := hr.length_le
  rw [hLl] at hrl
  have hreq := suf_eq hr
  rw [hLl] at hreq
  have q0 := h.q0
  have q2 := h.q2
  rw [hto] at q2
  have q3 := h.q3
  rw [hbg] at q3
  have q8 := h.q8
  have hsl := hrow.sl
  refine Ret.enter Tryz.func42 Tryz.ntmps42 rfl rfl ?_
  refine WC.seq ?_
  refine WC.seq ?_
  refine WC.region ?_
  refine WL.v (RV.move rfl) rfl ?_
  refine WL.v (RV.nilPtr rfl) rfl ?_
  refine WL.v (RV.fieldAddr 6 Tryz.underlying56 rfl rfl (Tryz.sizeOf26 _) (by decide) rfl) rfl ?_
  refine WL.v (RV.fieldAddr 2 Tryz.underlying26 rfl rfl (Tryz.sizeOf24 _) (by decide) rfl) rfl ?_
  refine WL.v (RV.load (by first | exact q0 | exact q2 | exact q3 | exact q8) (Tryz.isAgg24 _) rfl) rfl ?_
  refine WL.v (RV.len (by first | exact hsl) Tryz.underlying24 rfl) rfl ?_
  refine WL.v (RV.eql rfl rfl) rfl ?_
  refine WL.nil ?_
  refine QF.seqNext ?_
  by_cases h40 : xs.length = 40
  · rw [if_pos h40]
    refine WC.condT rfl ((by rw [h40]; rfl)) ?_
    have qd3 : w.drew.cell? ⟨rb, 3, none⟩ = some (.int .i64 ((m - r.length : Nat) : Int)) := q3
    refine WC.seq ?_
    refine WC.tail 8 rfl rfl (by kernel_rfl) (by kernel_rfl) ?_
    refine WS.v (RV.move rfl) rfl ?_
    refine WS.v (RV.nilPtr rfl) rfl ?_
    refine WS.v (RV.fieldAddr 0 Tryz.underlying56 rfl rfl (Tryz.sizeOf53 _) (by decide) rfl) rfl ?_
    refine WS.v (RV.move rfl) rfl ?_
    refine WS.v (RV.nilPtr rfl) rfl ?_
    refine WS.v (RV.fieldAddr 0 Tryz.underlying56 rfl rfl (Tryz.sizeOf53 _) (by decide) rfl) rfl ?_
    refine WS.v (RV.fieldAddr 3 Tryz.underlying53 rfl rfl (Tryz.sizeOf3 _) (by decide) rfl) rfl ?_
    refine WS.v (RV.load (by first | exact qd3) (Tryz.isAgg3 _) rfl) rfl ?_
    refine WS.go ?_
    refine WL.call Tryz.call54 rfl (rfail_ret O w.drew j rb s ((m - r.length : Nat) : Int) 3 hj he h.drew) rfl ?_
    rintro v w1 ⟨hb1, hU1⟩
    refine WL.nil ?_
    refine QF.seqNext ?_
    refine WC.ret ?_
    refine QF.thenRet ?_
    refine QF.done0 rfl ⟨O, s.ru, (Upd.ofDrew hU1).mono (fun _ h => .inl h) hz2, hR.drew.upd hU1, by decide, ?_⟩
    rw [show s.bg + ((0 : Nat) : Int) = ((m - r.length : Nat) : Int) from by rw [hbg]; simp]
    exact hb1
  · rw [if_neg h40]
    refine WC.condF rfl ((beq_eq_false_iff_ne.2 (by omega))) ?_
    have hd := h.drew
    have d0 := hd.q0
    have d2 := hd.q2
    rw [hto] at d2
    have d3 := hd.q3
    rw [hbg] at d3
    refine WC.skip ?_
    refine QF.seqNext ?_
    refine WC.seq ?_
    refine WC.tail 16 rfl rfl (by kernel_rfl) (by kernel_rfl) ?_
    refine WS.v (RV.move rfl) rfl ?_
    refine WS.v (RV.nilPtr rfl) rfl ?_
    refine WS.v (RV.fieldAddr 0 Tryz.underlying56 rfl rfl (Tryz.sizeOf53 _) (by decide) rfl) rfl ?_
    refine WS.v (RV.fieldAddr 0 Tryz.underlying53 rfl rfl (Tryz.sizeOf9 _) (by decide) rfl) rfl ?_
    refine WS.v (RV.load (by first | exact d0 | exact d2 | exact d3) (Tryz.isAgg9 _) rfl) rfl ?_
    refine WS.v (RV.move rfl) rfl ?_
    refine WS.v (RV.nilPtr rfl) rfl ?_
    refine WS.v (RV.fieldAddr 0 Tryz.underlying56 rfl rfl (Tryz.sizeOf53 _) (by decide) rfl) rfl ?_
    refine WS.v (RV.fieldAddr 3 Tryz.underlying53 rfl rfl (Tryz.sizeOf3 _) (by decide) rfl) rfl ?_
    refine WS.v (RV.load (by first | exact d0 | exact d2 | exact d3) (Tryz.isAgg3 _) rfl) rfl ?_
    refine WS.v (RV.move rfl) rfl ?_
    refine WS.v (RV.nilPtr rfl) rfl ?_
    refine WS.v (RV.fieldAddr 0 Tryz.underlying56 rfl rfl (Tryz.sizeOf53 _) (by decide) rfl) rfl ?_
    refine WS.v (RV.fieldAddr 2 Tryz.underlying53 rfl rfl (Tryz.sizeOf3 _) (by decide) rfl) rfl ?_
    refine WS.v (RV.load (by first | exact d0 | exact d2 | exact d3) (Tryz.isAgg3 _) rfl) rfl ?_
    refine WS.v (RV.sliceS Tryz.underlying9 rfl rfl rfl (m - r.length) m rfl rfl (by omega) hm) rfl ?_
    refine WS.go ?_
    rw [hreq]
    refine WL.call Tryz.call60 rfl (indexFuncTop_ret r w.drew) rfl ?_
    rintro v w1 ⟨rfl, hE1⟩
    have hX1 : Upd (fun _ => False) O w.drew O w1 := Upd.of_ext (fun h => h) O hE1
    have hb1 := hd.upd hX1 hj (fun h => h)
    have hrow1 := hrow.drew.upd hX1 hjr (fun h => h)
    have hR1 := hR.drew.upd hX1
    have hUt1 : Upd (fun q => q = j ∨ T ≤ q) O w O w1 := Upd.ofDrew (hX1.mono (fun _ h => h.elim) (fun e => by rcases e with e | e; exact hj e.symm; omega))
    have e2 := hb1.q2
    rw [hto] at e2
    have e3 := hb1.q3
    rw [hbg] at e3
    cases hf : r.findIdx? sgnB with
    | none =>
      have hi : sgnIdx r = -1 := by unfold sgnIdx; rw [hf]
      have hM : ruleK kn r = .bad r.length 4 := by unfold ruleK; rw [hf]
      rw [hi, hM]
      refine WL.v (RV.assign rfl) rfl ?_
      refine WL.nil ?_
      refine QF.seqNext ?_
      refine WC.seq ?_
      refine WC.seq ?_
      refine WC.region ?_
      refine WL.v (RV.move rfl) rfl ?_
      refine WL.v (RV.lss rfl rfl) rfl ?_
      refine WL.nil ?_
      refine QF.seqNext ?_
      refine WC.condT rfl (rfl) ?_
      have ed2 : w1.drew.cell? ⟨rb, 2, none⟩ = some (.int .i64 (m : Int)) := e2
      refine WC.seq ?_
      refine WC.tail 8 rfl rfl (by kernel_rfl) (by kernel_rfl) ?_
      refine WS.v (RV.move rfl) rfl ?_
      refine WS.v (RV.nilPtr rfl) rfl ?_
      refine WS.v (RV.fieldAddr 0 Tryz.underlying56 rfl rfl (Tryz.sizeOf53 _) (by decide) rfl) rfl ?_
      refine WS.v (RV.move rfl) rfl ?_
      refine WS.v (RV.nilPtr rfl) rfl ?_
      refine WS.v (RV.fieldAddr 0 Tryz.underlying56 rfl rfl (Tryz.sizeOf53 _) (by decide) rfl) rfl ?_
      refine WS.v (RV.fieldAddr 2 Tryz.underlying53 rfl rfl (Tryz.sizeOf3 _) (by decide) rfl) rfl ?_
      refine WS.v (RV.load (by first | exact ed2) (Tryz.isAgg3 _) rfl) rfl ?_
      refine WS.go ?_
      refine WL.call Tryz.call54 rfl (rfail_ret O w1.drew j rb s (m : Int) 4 hj he hb1.drew) rfl ?_
      rintro v w2 ⟨hb2, hU2⟩
      refine WL.nil ?_
      refine QF.seqNext ?_
      refine WC.ret ?_
      refine QF.thenRet ?_
      refine QF.done0 rfl ⟨O, s.ru, (hUt1.fgt (S' := fun k => k = j ∨ k = jr) (fun b hb => .inl (hb.resolve_right (by have := hT b; omega))) hz2).trans ((Upd.ofDrew hU2).mono (fun _ h => .inl h) hz2), hR1.drew.upd hU2, by decide, ?_⟩
      rw [show s.bg + (r.length : Int) = (m : Int) from by rw [hbg]; omega]
      exact hb2
    | some k =>
      obtain ⟨hk, hk1, hk2⟩ := List.findIdx?_eq_some_iff_getElem.1 hf
      have hi : sgnIdx r = (k : Nat) := by unfold sgnIdx; rw [hf]
      rw [hi]
      have hget : s.l[k + (m - r.length)]? = some (nth r k) := by
        have h1 : (s.l.take m)[m - r.length + k]? = r[k]? := by rw [← hreq, List.getElem?_drop, hreq]
        rw [nth_eq hk]
        exact take_get (m := m) (by rw [Nat.add_comm, h1]; exact List.getElem?_eq_getElem hk)
      have hseg1 : (s.l.take (k + (m - r.length))).drop (m - r.length) = r.take k := by
        rw [← hreq, List.take_drop, List.take_take, Nat.min_eq_left (by omega), hreq, Nat.add_comm]
      have hseg2 : (s.l.take m).drop (k + (m - r.length) + 1) = r.drop (k + 1) := by
        rw [← hreq, List.drop_drop, hreq]; congr 1; omega
      generalize hbrk : (((nth r k).toNat : Int) == 47) = brk
      refine WL.v (RV.assign rfl) rfl ?_
      refine WL.nil ?_
      refine QF.seqNext ?_
      refine WC.seq ?_
      refine WC.seq ?_
      refine WC.region ?_
      refine WL.v (RV.move rfl) rfl ?_
      refine WL.v (RV.lss rfl rfl) rfl ?_
      refine WL.nil ?_
      refine QF.seqNext ?_
      refine WC.condF rfl ((decide_eq_false (by omega))) ?_
      refine WC.skip ?_
      refine QF.seqNext ?_
      refine WC.seq ?_
      refine WC.region ?_
      refine WL.v (RV.move rfl) rfl ?_
      refine WL.v (RV.move rfl) rfl ?_
      refine WL.v (RV.nilPtr rfl) rfl ?_
      refine WL.v (RV.fieldAddr 0 Tryz.underlying56 rfl rfl (Tryz.sizeOf53 _) (by decide) rfl) rfl ?_
      refine WL.v (RV.fieldAddr 3 Tryz.underlying53 rfl rfl (Tryz.sizeOf3 _) (by decide) rfl) rfl ?_
      refine WL.v (RV.load (by first | exact e3) (Tryz.isAgg3 _) rfl) rfl ?_
      refine WL.v (RV.add rfl rfl (Fit.i64 (by omega))) rfl ?_
      refine WL.v (RV.assign rfl) rfl ?_
      refine WL.nil ?_
      refine QF.seqNext ?_
      refine WC.seq ?_
      rw [show (k : Int) + ((m - r.length : Nat) : Int) = ((k + (m - r.length) : Nat) : Int) from by omega]
      refine WC.mid (fun z : (Nat → Nat) × World × Nat × N3 => [(0, .pointer (some ⟨rb, 0, none⟩)), (2, .int .i64 ((k + (m - r.length) : Nat) : Int)), (3, .pointer (some ⟨z.2.2.1, 0, none⟩))]) (fun z : (Nat → Nat) × World × Nat × N3 => z.2.1) (fun z : (Nat → Nat) × World × Nat × N3 => BlkO z.1 z.2.1 T z.2.2.1 (encR (z.2.2.2, (0, 0, .slice none 0 0), brk)).toArray 50 ∧ Upd (fun q => q = j ∨ T ≤ q) O w z.1 z.2.1 ∧ Rng B z.1 z.2.1 ∧ PostS z.1 z.2.1 j rb s (m - r.length) z.2.2.2 (sideK kn (r.take k))) ?_ ?_
      · intro hN
        refine WC.draw (fun V => V.cell? ⟨rb, 0, none⟩ = some (.string (bs s.l)) ∧ V.cell? ⟨rb, 3, none⟩ = some (.int .i64 ((m - r.length : Nat) : Int))) 19 rfl (by kernel_rfl) ?_
        refine WH.take 0 rfl (by kernel_rfl) (by kernel_rfl) (by kernel_rfl) ⟨hb1.drew.q0, e3⟩ (fun w1 hw1 => RV.move rfl) rfl ?_
        refine WH.take 1 rfl (by kernel_rfl) (by kernel_rfl) (by kernel_rfl) ⟨hb1.drew.q0, e3⟩ (fun w1 hw1 => RV.move rfl) rfl ?_
        refine WH.take 2 rfl (by kernel_rfl) (by kernel_rfl) (by kernel_rfl) ⟨hb1.drew.q0, e3⟩ (fun w1 hw1 => RV.nilPtr rfl) rfl ?_
        refine WH.take 3 rfl (by kernel_rfl) (by kernel_rfl) (by kernel_rfl) ⟨hb1.drew.q0, e3⟩ (fun w1 hw1 => RV.fieldAddr 0 Tryz.underlying56 rfl rfl (Tryz.sizeOf53 _) (by decide) rfl) rfl ?_
        refine WH.take 4 rfl (by kernel_rfl) (by kernel_rfl) (by kernel_rfl) ⟨hb1.drew.q0, e3⟩ (fun w1 hw1 => RV.fieldAddr 3 Tryz.underlying53 rfl rfl (Tryz.sizeOf3 _) (by decide) rfl) rfl ?_
        refine WH.take 5 rfl (by kernel_rfl) (by kernel_rfl) (by kernel_rfl) ⟨hb1.drew.q0, e3⟩ (fun w1 hw1 => RV.load (by first | exact hw1.1 | exact hw1.2) (Tryz.isAgg3 _) rfl) rfl ?_
        refine WH.take 6 rfl (by kernel_rfl) (by kernel_rfl) (by kernel_rfl) ⟨hb1.drew.q0, e3⟩ (fun w1 hw1 => RV.move rfl) rfl ?_
        refine WH.take 8 rfl (by kernel_rfl) (by kernel_rfl) (by kernel_rfl) ⟨hb1.drew.q0, e3⟩ (fun w1 hw1 => RV.move rfl) rfl ?_
        refine WH.take 9 rfl (by kernel_rfl) (by kernel_rfl) (by kernel_rfl) ⟨hb1.drew.q0, e3⟩ (fun w1 hw1 => RV.nilPtr rfl) rfl ?_
        refine WH.take 10 rfl (by kernel_rfl) (by kernel_rfl) (by kernel_rfl) ⟨hb1.drew.q0, e3⟩ (fun w1 hw1 => RV.fieldAddr 0 Tryz.underlying56 rfl rfl (Tryz.sizeOf53 _) (by decide) rfl) rfl ?_
        refine WH.take 11 rfl (by kernel_rfl) (by kernel_rfl) (by kernel_rfl) ⟨hb1.drew.q0, e3⟩ (fun w1 hw1 => RV.fieldAddr 0 Tryz.underlying53 rfl rfl (Tryz.sizeOf9 _) (by decide) rfl) rfl ?_
        refine WH.take 12 rfl (by kernel_rfl) (by kernel_rfl) (by kernel_rfl) ⟨hb1.drew.q0, e3⟩ (fun w1 hw1 => RV.load (by first | exact hw1.1 | exact hw1.2) (Tryz.isAgg9 _) rfl) rfl ?_
        refine WH.take 13 rfl (by kernel_rfl) (by kernel_rfl) (by kernel_rfl) ⟨hb1.drew.q0, e3⟩ (fun w1 hw1 => RV.move rfl) rfl ?_
        refine WH.take 14 rfl (by kernel_rfl) (by kernel_rfl) (by kernel_rfl) ⟨hb1.drew.q0, e3⟩ (fun w1 hw1 => RV.indexS1 (c := nth r k) Tryz.underlying9 rfl rfl (k + (m - r.length)) rfl hget) rfl ?_
        refine WH.take 15 rfl (by kernel_rfl) (by kernel_rfl) (by kernel_rfl) ⟨hb1.drew.q0, e3⟩ (fun w1 hw1 => RV.eql rfl rfl) rfl ?_
        rw [hbrk]
        refine WH.two 7 17 (by kernel_rfl) rfl rfl ?_ ?_
        · skip
          refine WL.call Tryz.call63 rfl (side_ret B O w1.drew j rb s (m - r.length) (k + (m - r.length)) hR1.drew hj he hjm hjjm (hkn.upd (Upd.drew hUt1) hjm (by omega)) (by omega) (by omega) hl hb1.drew) rfl ?_
          rintro v w3 ⟨x1, rfl, hU3, hP3⟩
          rw [hseg1] at hP3
          refine WL.nil ?_
          refine QF.after (sideS (hbg := hbg) hP3) ?_
          refine WH.take 16 rfl (by kernel_rfl) (by kernel_rfl) (by kernel_rfl) (sideS (hbg := hbg) hP3) (fun w1 hw1 => RV.build (cells := (encR (x1, (0, 0, .slice none 0 0), brk)).toArray) pl50 (Tryz.zeroValue50 _) rfl rfl) rfl ?_
          refine WH.one 17 (by kernel_rfl) rfl ?_
          refine WL.allocO (hR1.drew.upd hU3) T (by omega) (Tryz.zeroValue50 _) rfl ?_
          intro xb w4 O4 hx4 hU4 hR4 hE4
          have hP4 := hP3.upd hU4 hj (by omega)
          refine WL.nil ?_
          refine QF.after (sideS (hbg := hbg) hP4) ?_
          refine WH.one 18 (by kernel_rfl) rfl ?_
          refine WL.storeAgg (us := (encR (x1, (0, 0, .slice none 0 0), brk)).toArray) hx4 rfl (Tryz.sizeOf50 _) (ruleN_one hP3.one rfl) rfl rfl rfl ?_
          have hx5 := hx4.setRow (us := (encR (x1, (0, 0, .slice none 0 0), brk)).toArray)
          have hU5 : Upd (fun q => q = T) O4 w4 O4 (w4.setRow xb (encR (x1, (0, 0, .slice none 0 0), brk)).toArray) := Upd.setRow (by omega) hx4.tag rfl
          have hP5 := hP4.upd hU5 hj (by omega)
          refine WL.nil ?_
          refine QF.after (sideS (hbg := hbg) hP5) ?_
          refine WH.done (by kernel_rfl) ?_
          exact QF.of (hN ((O4, _, xb, x1)) (⟨hx5, (((Upd.drew hUt1).trans (hU3.pj hT0)).trans (hU4.pT hj hT0 (Nat.le_refl _))).trans (hU5.pT hj hT0 (Nat.le_refl _)), hR4.upd hU5, hP5⟩)) ⟨rfl, rfl, rfl, trivial⟩ rfl
        · skip
          refine WL.allocO hR1.drew T (by omega) (Tryz.zeroValue50 _) rfl ?_
          intro xb w3 O3 hx3 hU3 hR3 hE3
          have hb3 := hb1.drew.upd hU3 hj (by omega)
          have f3 := hb3.q3
          rw [hbg] at f3
          refine WL.nil ?_
          refine QF.after ⟨hb3.q0, f3⟩ ?_
          refine WH.one 7 (by kernel_rfl) rfl ?_
          refine WL.call Tryz.call63 rfl (side_ret B O3 w3 j rb s (m - r.length) (k + (m - r.length)) hR3 hj he hjm hjjm (hkn.upd ((Upd.drew hUt1).trans (hU3.pT hj hT0 (Nat.le_refl _))) hjm (by omega)) (by omega) (by omega) hl hb3) rfl ?_
          rintro v w4 ⟨x1, rfl, hU4, hP4⟩
          rw [hseg1] at hP4
          have hx4 := hx3.upd hU4 (by omega) (by omega)
          refine WL.nil ?_
          refine QF.after (sideS (hbg := hbg) hP4) ?_
          refine WH.take 16 rfl (by kernel_rfl) (by kernel_rfl) (by kernel_rfl) (sideS (hbg := hbg) hP4) (fun w1 hw1 => RV.build (cells := (encR (x1, (0, 0, .slice none 0 0), brk)).toArray) pl50 (Tryz.zeroValue50 _) rfl rfl) rfl ?_
          refine WH.one 18 (by kernel_rfl) rfl ?_
          refine WL.storeAgg (us := (encR (x1, (0, 0, .slice none 0 0), brk)).toArray) hx4 rfl (Tryz.sizeOf50 _) (ruleN_one hP4.one rfl) rfl rfl rfl ?_
          have hx5 := hx4.setRow (us := (encR (x1, (0, 0, .slice none 0 0), brk)).toArray)
          have hU5 : Upd (fun q => q = T) O3 w4 O3 (w4.setRow xb (encR (x1, (0, 0, .slice none 0 0), brk)).toArray) := Upd.setRow (by omega) hx4.tag rfl
          have hP5 := hP4.upd hU5 hj (by omega)
          refine WL.nil ?_
          refine QF.after (sideS (hbg := hbg) hP5) ?_
          refine WH.done (by kernel_rfl) ?_
          exact QF.of (hN ((O3, _, xb, x1)) (⟨hx5, (((Upd.drew hUt1).trans (hU3.pT hj hT0 (Nat.le_refl _))).trans (hU4.pj hT0)).trans (hU5.pT hj hT0 (Nat.le_refl _)), (hR3.upd hU4).upd hU5, hP5⟩)) ⟨rfl, rfl, rfl, trivial⟩ rfl
      · rintro ⟨O3, w3, xb, x1⟩ ⟨hx3, hUt3, hR3, hP3⟩
        dsimp only at hx3 hUt3 hR3 hP3 ⊢
        have hrow3 := hrow.upd hUt3 hjr (fun e => by rcases e with e | e; exact hne e.symm; omega)
        have hx1o := hP3.one
        have hU3' : Upd (fun q => q = j ∨ q = jr ∨ T ≤ q) O w O3 w3 := hUt3.mono (fun _ h => h.elim .inl (fun h => .inr (.inr h))) hz3
        refine QF.seqNext ?_
        cases hs1 : sideK kn (r.take k) with
        | bad p e =>
          have hM : ruleK kn r = .bad p e := by unfold ruleK; rw [hf]; dsimp only; rw [hs1]
          rw [hM]
          rw [hs1] at hP3
          obtain ⟨rfl, hne1, hb3⟩ := hP3
          replace hb3 : BlkO O3 w3 j rb ({s with bad := ((m - r.length : Nat) : Int) + (p : Int), e := e} : LS).cells 56 := hb3
          refine WC.seq ?_
          refine WC.seq ?_
          refine WC.region ?_
          refine WL.v (RV.move rfl) rfl ?_
          refine WL.v (RV.nilPtr rfl) rfl ?_
          refine WL.v (RV.fieldAddr 0 Tryz.underlying56 rfl rfl (Tryz.sizeOf53 _) (by decide) rfl) rfl ?_
          refine WL.v (RV.fieldAddr 5 Tryz.underlying53 rfl rfl (Tryz.sizeOf27 _) (by decide) rfl) rfl ?_
          refine WL.v (RV.load (by first | exact hb3.q0 | exact hb3.q1 | exact hb3.q2 | exact hb3.q3 | exact hb3.q4 | exact hb3.q5 | exact hb3.q6 | exact hb3.q7 | exact hb3.q8 | exact hb3.q9 | exact hb3.q10 | exact hb3.q11) (Tryz.isAgg27 _) rfl) rfl ?_
          refine WL.v (RV.eql rfl rfl) rfl ?_
          refine WL.nil ?_
          refine QF.seqNext ?_
          refine WC.condF rfl ((by simpa using hne1)) ?_
          refine WC.skip ?_
          refine QF.seqNext ?_
          refine WC.seq ?_
          refine WC.seq ?_
          refine WC.region ?_
          refine WL.v (RV.fieldAddr 3 Tryz.underlying50 rfl rfl (Tryz.sizeOf48 _) (by decide) rfl) rfl ?_
          refine WL.v (RV.loadAgg (us := encN ((0, 0, .slice none 0 0) : N3)) (right_cells hx3) (Tryz.isAgg48 _) (Tryz.sizeOf48 _) rfl) rfl ?_
          refine WL.call Tryz.call50 rfl (looks_ret (.mk 0 0 []) (0, 0, .slice none 0 0) w3 (Nt.leaf _ _ _ _)) rfl ?_
          rintro v w4 ⟨rfl, hE4⟩
          have hX4 : Upd (fun _ => False) O3 w3 O3 w4 := Upd.of_ext (fun h => h) O3 hE4
          have hb4 := hb3.upd hX4 hj (fun h => h)
          have hx4 := hx3.upd hX4 (by omega) (fun h => h)
          have hrow4 := hrow3.upd hX4 hjr (fun h => h)
          have hR4 := hR3.upd hX4
          have hUt8 := hU3'.trans (hX4.mono (fun _ h => h.elim) hz3)
          refine WL.v (RV.assign rfl) rfl ?_
          refine WL.nil ?_
          refine QF.seqNext ?_
          refine WC.seq ?_
          refine WC.region ?_
          refine WL.v (RV.move rfl) rfl ?_
          refine WL.v (RV.nilPtr rfl) rfl ?_
          refine WL.v (RV.fieldAddr 0 Tryz.underlying56 rfl rfl (Tryz.sizeOf53 _) (by decide) rfl) rfl ?_
          refine WL.v (RV.fieldAddr 5 Tryz.underlying53 rfl rfl (Tryz.sizeOf27 _) (by decide) rfl) rfl ?_
          refine WL.v (RV.load (by first | exact hb4.q0 | exact hb4.q1 | exact hb4.q2 | exact hb4.q3 | exact hb4.q4 | exact hb4.q5 | exact hb4.q6 | exact hb4.q7 | exact hb4.q8 | exact hb4.q9 | exact hb4.q10 | exact hb4.q11) (Tryz.isAgg27 _) rfl) rfl ?_
          refine WL.v (RV.eql rfl rfl) rfl ?_
          refine WL.v (RV.move rfl) rfl ?_
          refine WL.know (d := 98) rfl (b' := false) ((by simpa using hne1)) ?_
          obtain ⟨x1, hx1e⟩ : ∃ x1 : N3, x1 = (0, 0, .slice none 0 0) := ⟨_, rfl⟩
          obtain ⟨x2, hx2e⟩ : ∃ x2 : N3, x2 = (0, 0, .slice none 0 0) := ⟨_, rfl⟩
          have hx2o : x2.2.2.oneCell' = true := by rw [hx2e]; rfl
          have hx1o : x1.2.2.oneCell' = true := by rw [hx1e]; rfl
          have hx4' : BlkO O3 w4 T xb (encR (x1, x2, brk)).toArray 50 := by rw [hx1e, hx2e]; exact hx4
          have hbd := (BlkO.drew hb4)
          have hxd := (BlkO.drew hx4')
          have hrowd := (RowT.drew hrow4)
          have hRd := (Rng.drew hR4)
          refine WL.off rfl rfl rfl ?_
          refine WL.off rfl rfl rfl ?_
          refine WL.v (RV.pickF rfl rfl) rfl ?_
          refine WL.nil ?_
          refine QF.seqNext ?_
          refine WC.condF rfl rfl ?_
          refine WC.skip ?_
          refine QF.seqNext ?_
          refine WC.draw (fun V => ∀ (q : Nat) (u : Value), (encR (x1, x2, brk))[q]? = some u → V.cell? ((⟨xb, 0, none⟩ : Addr).add q) = some u) 13 rfl (by kernel_rfl) ?_
          refine WH.take 0 rfl (by kernel_rfl) (by kernel_rfl) (by kernel_rfl) hxd.cellsAdd (fun w1 hw1 => RV.move rfl) rfl ?_
          refine WH.take 1 rfl (by kernel_rfl) (by kernel_rfl) (by kernel_rfl) hxd.cellsAdd (fun w1 hw1 => RV.move rfl) rfl ?_
          refine WH.take 2 rfl (by kernel_rfl) (by kernel_rfl) (by kernel_rfl) hxd.cellsAdd (fun w1 hw1 => RV.nilPtr rfl) rfl ?_
          refine WH.take 3 rfl (by kernel_rfl) (by kernel_rfl) (by kernel_rfl) hxd.cellsAdd (fun w1 hw1 => RV.fieldAddr 6 Tryz.underlying56 rfl rfl (Tryz.sizeOf26 _) (by decide) rfl) rfl ?_
          refine WH.take 4 rfl (by kernel_rfl) (by kernel_rfl) (by kernel_rfl) hxd.cellsAdd (fun w1 hw1 => RV.fieldAddr 2 Tryz.underlying26 rfl rfl (Tryz.sizeOf24 _) (by decide) rfl) rfl ?_
          refine WH.take 6 rfl (by kernel_rfl) (by kernel_rfl) (by kernel_rfl) hxd.cellsAdd (fun w1 hw1 => RV.loadAgg (us := encR (x1, x2, brk)) hw1 (Tryz.isAgg50 _) (Tryz.sizeOf50 _) rfl) rfl ?_
          refine WH.two 5 7 (by kernel_rfl) rfl rfl ?_ ?_
          · skip
            refine WL.v (RV.load hbd.q8 (Tryz.isAgg24 _) rfl) rfl ?_
            refine WL.nil ?_
            refine QF.after hxd.cellsAdd ?_
            refine WH.one 7 (by kernel_rfl) rfl ?_
            refine WL.buildOne2 elR (enc := encR) (x1, x2, brk) rfl rfl rfl (by decide) rfl ?_
            intro w9 h9 hE9
            have hX9 : Upd (fun _ => False) O3 (World.drew w4) O3 w9 := Upd.of_ext (fun h => h) O3 hE9
            have hb9 := hbd.upd hX9 hj (fun h => h)
            have hx9 := hxd.upd hX9 (by omega) (fun h => h)
            have hrow9 := hrowd.upd hX9 hjr (fun h => h)
            have hR9 := hRd.upd hX9
            have hUt9 := (hUt8.drew).trans (hX9.mono (fun _ h => h.elim) hz3)
            refine WL.nil ?_
            refine QF.after hx9.cellsAdd ?_
            have hone9 : ∀ u ∈ [(x1, x2, brk)], ∀ c ∈ encR u, c.oneCell' = true := fun u hu => by
              rw [List.mem_singleton.1 hu]; exact encR_ones hx1o hx2o
            refine WH.one 8 (by kernel_rfl) rfl ?_
            refine WL.appendSl elR hrow9 hR9 h9 (by simp) rfl rfl (fun _ _ => rfl) hone9 (by simp; omega) (by simp; omega) (by omega) rfl ?_
            intro lv10 w10 O10 hrow10 hU10 hR10
            have hb10 := BlkO.upd hb9 hU10 hj (by omega)
            have hx10 := BlkO.upd hx9 hU10 (by omega) (by omega)
            have hl10 := hrow10.one
            refine WL.nil ?_
            refine QF.after hx10.cellsAdd ?_
            refine WH.take 9 rfl (by kernel_rfl) (by kernel_rfl) (by kernel_rfl) hx10.cellsAdd (fun w1 hw1 => RV.nilPtr rfl) rfl ?_
            refine WH.take 10 rfl (by kernel_rfl) (by kernel_rfl) (by kernel_rfl) hx10.cellsAdd (fun w1 hw1 => RV.fieldAddr 6 Tryz.underlying56 rfl rfl (Tryz.sizeOf26 _) (by decide) rfl) rfl ?_
            refine WH.take 11 rfl (by kernel_rfl) (by kernel_rfl) (by kernel_rfl) hx10.cellsAdd (fun w1 hw1 => RV.fieldAddr 2 Tryz.underlying26 rfl rfl (Tryz.sizeOf24 _) (by decide) rfl) rfl ?_
            refine WH.one 12 (by kernel_rfl) rfl ?_
            refine WL.storeBlk (j := 8) hb10 rfl (Tryz.sizeOf24 _) hl10 rfl rfl rfl ?_
            have hb11 := hb10.s_ru lv10
            have hU11 : Upd (fun q => q = j) O10 w10 O10 (w10.setCell ⟨rb, 8, none⟩ lv10) := Upd.set (fun e => hj e.symm) hb10.tag rfl
            have hx11 := hx10.upd hU11 (by omega) (by omega)
            have hrow11 := hrow10.upd hU11 hjr (fun e => hne e.symm)
            have hR11 := hR10.upd hU11
            refine WL.nil ?_
            refine QF.after hx11.cellsAdd ?_
            refine WH.done (by kernel_rfl) ?_
            have hUz : Upd (fun q => q = j ∨ q = jr ∨ T ≤ q) O w O10 (w10.setCell ⟨rb, 8, none⟩ lv10) := (hUt9.trans (hU10.mono (fun _ h => .inr (.inl h)) hz3)).trans (hU11.mono (fun _ h => .inl h) hz3)
            refine QF.end0 rfl ⟨lowT O10 T, lv10, hUz.lowT hT (fun b hb => by have := hT b; rcases hb with h | h | h; exact .inl h; exact .inr h; omega) (fun e => by rcases e with e | e; exact hj e.symm; exact hjr e.symm), hR11.lowT T, ?_⟩
            exact ⟨hne1, by rw [show s.bg + (p : Int) = ((m - r.length : Nat) : Int) + (p : Int) from by rw [hbg]]; exact hb11.lowT hjT⟩
          · skip
            refine WL.buildOne2 elR (enc := encR) (x1, x2, brk) rfl rfl rfl (by decide) rfl ?_
            intro w9 h9 hE9
            have hX9 : Upd (fun _ => False) O3 (World.drew w4) O3 w9 := Upd.of_ext (fun h => h) O3 hE9
            have hb9 := hbd.upd hX9 hj (fun h => h)
            have hx9 := hxd.upd hX9 (by omega) (fun h => h)
            have hrow9 := hrowd.upd hX9 hjr (fun h => h)
            have hR9 := hRd.upd hX9
            have hUt9 := (hUt8.drew).trans (hX9.mono (fun _ h => h.elim) hz3)
            refine WL.nil ?_
            refine QF.after hx9.cellsAdd ?_
            refine WH.one 5 (by kernel_rfl) rfl ?_
            refine WL.v (RV.load hb9.q8 (Tryz.isAgg24 _) rfl) rfl ?_
            refine WL.nil ?_
            refine QF.after hx9.cellsAdd ?_
            have hone9 : ∀ u ∈ [(x1, x2, brk)], ∀ c ∈ encR u, c.oneCell' = true := fun u hu => by
              rw [List.mem_singleton.1 hu]; exact encR_ones hx1o hx2o
            refine WH.one 8 (by kernel_rfl) rfl ?_
            refine WL.appendSl elR hrow9 hR9 h9 (by simp) rfl rfl (fun _ _ => rfl) hone9 (by simp; omega) (by simp; omega) (by omega) rfl ?_
            intro lv10 w10 O10 hrow10 hU10 hR10
            have hb10 := BlkO.upd hb9 hU10 hj (by omega)
            have hx10 := BlkO.upd hx9 hU10 (by omega) (by omega)
            have hl10 := hrow10.one
            refine WL.nil ?_
            refine QF.after hx10.cellsAdd ?_
            refine WH.take 9 rfl (by kernel_rfl) (by kernel_rfl) (by kernel_rfl) hx10.cellsAdd (fun w1 hw1 => RV.nilPtr rfl) rfl ?_
            refine WH.take 10 rfl (by kernel_rfl) (by kernel_rfl) (by kernel_rfl) hx10.cellsAdd (fun w1 hw1 => RV.fieldAddr 6 Tryz.underlying56 rfl rfl (Tryz.sizeOf26 _) (by decide) rfl) rfl ?_
            refine WH.take 11 rfl (by kernel_rfl) (by kernel_rfl) (by kernel_rfl) hx10.cellsAdd (fun w1 hw1 => RV.fieldAddr 2 Tryz.underlying26 rfl rfl (Tryz.sizeOf24 _) (by decide) rfl) rfl ?_
            refine WH.one 12 (by kernel_rfl) rfl ?_
            refine WL.storeBlk (j := 8) hb10 rfl (Tryz.sizeOf24 _) hl10 rfl rfl rfl ?_
            have hb11 := hb10.s_ru lv10
            have hU11 : Upd (fun q => q = j) O10 w10 O10 (w10.setCell ⟨rb, 8, none⟩ lv10) := Upd.set (fun e => hj e.symm) hb10.tag rfl
            have hx11 := hx10.upd hU11 (by omega) (by omega)
            have hrow11 := hrow10.upd hU11 hjr (fun e => hne e.symm)
            have hR11 := hR10.upd hU11
            refine WL.nil ?_
            refine QF.after hx11.cellsAdd ?_
            refine WH.done (by kernel_rfl) ?_
            have hUz : Upd (fun q => q = j ∨ q = jr ∨ T ≤ q) O w O10 (w10.setCell ⟨rb, 8, none⟩ lv10) := (hUt9.trans (hU10.mono (fun _ h => .inr (.inl h)) hz3)).trans (hU11.mono (fun _ h => .inl h) hz3)
            refine QF.end0 rfl ⟨lowT O10 T, lv10, hUz.lowT hT (fun b hb => by have := hT b; rcases hb with h | h | h; exact .inl h; exact .inr h; omega) (fun e => by rcases e with e | e; exact hj e.symm; exact hjr e.symm), hR11.lowT T, ?_⟩
            exact ⟨hne1, by rw [show s.bg + (p : Int) = ((m - r.length : Nat) : Int) + (p : Int) from by rw [hbg]]; exact hb11.lowT hjT⟩
        | ok a =>
          rw [hs1] at hP3
          obtain ⟨hn3, hb3⟩ := hP3
          replace hb3 : BlkO O3 w3 j rb s.cells 56 := hb3
          have g2 := hb3.q2
          rw [hto] at g2
          have g5 := hb3.q5
          rw [he] at g5
          refine WC.seq ?_
          refine WC.seq ?_
          refine WC.region ?_
          refine WL.v (RV.move rfl) rfl ?_
          refine WL.v (RV.nilPtr rfl) rfl ?_
          refine WL.v (RV.fieldAddr 0 Tryz.underlying56 rfl rfl (Tryz.sizeOf53 _) (by decide) rfl) rfl ?_
          refine WL.v (RV.fieldAddr 5 Tryz.underlying53 rfl rfl (Tryz.sizeOf27 _) (by decide) rfl) rfl ?_
          refine WL.v (RV.load (by first | exact g2 | exact g5) (Tryz.isAgg27 _) rfl) rfl ?_
          refine WL.v (RV.eql rfl rfl) rfl ?_
          refine WL.nil ?_
          refine QF.seqNext ?_
          refine WC.condT rfl (rfl) ?_
          refine WC.region ?_
          refine WL.v (RV.move rfl) rfl ?_
          refine WL.v (RV.move rfl) rfl ?_
          refine WL.v (RV.add rfl rfl (Fit.i64 (by omega))) rfl ?_
          refine WL.v (RV.move rfl) rfl ?_
          refine WL.v (RV.nilPtr rfl) rfl ?_
          refine WL.v (RV.fieldAddr 0 Tryz.underlying56 rfl rfl (Tryz.sizeOf53 _) (by decide) rfl) rfl ?_
          refine WL.v (RV.fieldAddr 2 Tryz.underlying53 rfl rfl (Tryz.sizeOf3 _) (by decide) rfl) rfl ?_
          refine WL.v (RV.load (by first | exact g2 | exact g5) (Tryz.isAgg3 _) rfl) rfl ?_
          rw [show ((k + (m - r.length) : Nat) : Int) + 1 = ((k + (m - r.length) + 1 : Nat) : Int) from by omega]
          refine WL.call Tryz.call63 rfl (side_ret B O3 w3 j rb s (k + (m - r.length) + 1) m hR3 hj he hjm hjjm (hkn.upd hU3' hjm (by omega)) (by omega) hm hl hb3) rfl ?_
          rintro v w4 ⟨x2, rfl, hU4, hP4⟩
          rw [hseg2] at hP4
          have hx2o := hP4.one
          have hx4 := hx3.upd hU4 (by omega) (by omega)
          have hrow4 := hrow3.upd hU4 hjr (fun e => hne e.symm)
          have hR4 := hR3.upd hU4
          have hUt4 := hU3'.trans (hU4.mono (fun _ h => .inl h) hz3)
          have hn4 := hn3.upd hU4
          refine WL.v (RV.fieldAddr 3 Tryz.underlying50 rfl rfl (Tryz.sizeOf48 _) (by decide) rfl) rfl ?_
          refine WL.storeAggAt 3 (us := #[.int .i64 x2.1, .int .i64 x2.2.1, x2.2.2]) hx4 (Nat.le_of_ble_eq_true rfl) (Tryz.sizeOf48 _) (nv_ok hx2o) rfl rfl rfl ?_
          rw [show ((encR (x1, (0, 0, .slice none 0 0), brk)).toArray.toList.take 3 ++ (#[.int .i64 x2.1, .int .i64 x2.2.1, x2.2.2] : Array Value).toList ++ (encR (x1, (0, 0, .slice none 0 0), brk)).toArray.toList.drop (3 + (#[.int .i64 x2.1, .int .i64 x2.2.1, x2.2.2] : Array Value).size)).toArray = (encR (x1, x2, brk)).toArray from rfl]
          have hx5 := hx4.setRow (us := (encR (x1, x2, brk)).toArray)
          have hU5 : Upd (fun q => q = T) O3 w4 O3 (w4.setRow xb (encR (x1, x2, brk)).toArray) := Upd.setRow (by omega) hx4.tag rfl
          have hP5 := hP4.upd hU5 hj (by omega)
          have hrow5 := hrow4.upd hU5 hjr (by omega)
          have hR5 := hR4.upd hU5
          have hUt5 := hUt4.trans (hU5.mono (fun _ h => .inr (.inr (Nat.le_of_eq h.symm))) hz3)
          have hn5 := hn4.upd hU5
          generalize w4.setRow xb (encR (x1, x2, brk)).toArray = w5 at *
          refine WL.nil ?_
          refine QF.seqNext ?_
          refine WC.seq ?_
          refine WC.seq ?_
          refine WC.region ?_
          refine WL.v (RV.fieldAddr 3 Tryz.underlying50 rfl rfl (Tryz.sizeOf48 _) (by decide) rfl) rfl ?_
          refine WL.v (RV.loadAgg (us := encN x2) (right_cells hx5) (Tryz.isAgg48 _) (Tryz.sizeOf48 _) rfl) rfl ?_
          cases hs2 : sideK kn (r.drop (k + 1)) with
          | bad p e =>
            have hM : ruleK kn r = .bad (k + 1 + p) e := by unfold ruleK; rw [hf]; dsimp only; rw [hs1]; dsimp only; rw [hs2]
            rw [hM]
            rw [hs2] at hP5
            obtain ⟨hx2e, hne1, hb5⟩ := hP5
            replace hb5 : BlkO O3 w5 j rb ({s with bad := ((k + (m - r.length) + 1 : Nat) : Int) + (p : Int), e := e} : LS).cells 56 := hb5
            refine WL.call Tryz.call50 rfl (looks_ret (.mk 0 0 []) x2 w5 (by rw [hx2e]; exact Nt.leaf _ _ _ _)) rfl ?_
            rintro v w6 ⟨rfl, hE6⟩
            have hX6 : Upd (fun _ => False) O3 w5 O3 w6 := Upd.of_ext (fun h => h) O3 hE6
            have hb6 := hb5.upd hX6 hj (fun h => h)
            have hx6 := hx5.upd hX6 (by omega) (fun h => h)
            have hrow6 := hrow5.upd hX6 hjr (fun h => h)
            have hR6 := hR5.upd hX6
            have hUt8 := hUt5.trans (hX6.mono (fun _ h => h.elim) hz3)
            refine WL.v (RV.assign rfl) rfl ?_
            refine WL.nil ?_
            refine QF.seqNext ?_
            refine WC.seq ?_
            refine WC.region ?_
            refine WL.v (RV.move rfl) rfl ?_
            refine WL.v (RV.nilPtr rfl) rfl ?_
            refine WL.v (RV.fieldAddr 0 Tryz.underlying56 rfl rfl (Tryz.sizeOf53 _) (by decide) rfl) rfl ?_
            refine WL.v (RV.fieldAddr 5 Tryz.underlying53 rfl rfl (Tryz.sizeOf27 _) (by decide) rfl) rfl ?_
            refine WL.v (RV.load (by first | exact hb6.q0 | exact hb6.q1 | exact hb6.q2 | exact hb6.q3 | exact hb6.q4 | exact hb6.q5 | exact hb6.q6 | exact hb6.q7 | exact hb6.q8 | exact hb6.q9 | exact hb6.q10 | exact hb6.q11) (Tryz.isAgg27 _) rfl) rfl ?_
            refine WL.v (RV.eql rfl rfl) rfl ?_
            refine WL.v (RV.move rfl) rfl ?_
            refine WL.know (d := 98) rfl (b' := false) ((by simpa using hne1)) ?_
            have hbd := (BlkO.drew hb6)
            have hxd := (BlkO.drew hx6)
            have hrowd := (RowT.drew hrow6)
            have hRd := (Rng.drew hR6)
            refine WL.off rfl rfl rfl ?_
            refine WL.off rfl rfl rfl ?_
            refine WL.v (RV.pickF rfl rfl) rfl ?_
            refine WL.nil ?_
            refine QF.seqNext ?_
            refine WC.condF rfl rfl ?_
            refine WC.skip ?_
            refine QF.seqNext ?_
            refine WC.draw (fun V => ∀ (q : Nat) (u : Value), (encR (x1, x2, brk))[q]? = some u → V.cell? ((⟨xb, 0, none⟩ : Addr).add q) = some u) 13 rfl (by kernel_rfl) ?_
            refine WH.take 0 rfl (by kernel_rfl) (by kernel_rfl) (by kernel_rfl) hxd.cellsAdd (fun w1 hw1 => RV.move rfl) rfl ?_
            refine WH.take 1 rfl (by kernel_rfl) (by kernel_rfl) (by kernel_rfl) hxd.cellsAdd (fun w1 hw1 => RV.move rfl) rfl ?_
            refine WH.take 2 rfl (by kernel_rfl) (by kernel_rfl) (by kernel_rfl) hxd.cellsAdd (fun w1 hw1 => RV.nilPtr rfl) rfl ?_
            refine WH.take 3 rfl (by kernel_rfl) (by kernel_rfl) (by kernel_rfl) hxd.cellsAdd (fun w1 hw1 => RV.fieldAddr 6 Tryz.underlying56 rfl rfl (Tryz.sizeOf26 _) (by decide) rfl) rfl ?_
            refine WH.take 4 rfl (by kernel_rfl) (by kernel_rfl) (by kernel_rfl) hxd.cellsAdd (fun w1 hw1 => RV.fieldAddr 2 Tryz.underlying26 rfl rfl (Tryz.sizeOf24 _) (by decide) rfl) rfl ?_
            refine WH.take 6 rfl (by kernel_rfl) (by kernel_rfl) (by kernel_rfl) hxd.cellsAdd (fun w1 hw1 => RV.loadAgg (us := encR (x1, x2, brk)) hw1 (Tryz.isAgg50 _) (Tryz.sizeOf50 _) rfl) rfl ?_
            refine WH.two 5 7 (by kernel_rfl) rfl rfl ?_ ?_
            · skip
              refine WL.v (RV.load hbd.q8 (Tryz.isAgg24 _) rfl) rfl ?_
              refine WL.nil ?_
              refine QF.after hxd.cellsAdd ?_
              refine WH.one 7 (by kernel_rfl) rfl ?_
              refine WL.buildOne2 elR (enc := encR) (x1, x2, brk) rfl rfl rfl (by decide) rfl ?_
              intro w9 h9 hE9
              have hX9 : Upd (fun _ => False) O3 (World.drew w6) O3 w9 := Upd.of_ext (fun h => h) O3 hE9
              have hb9 := hbd.upd hX9 hj (fun h => h)
              have hx9 := hxd.upd hX9 (by omega) (fun h => h)
              have hrow9 := hrowd.upd hX9 hjr (fun h => h)
              have hR9 := hRd.upd hX9
              have hUt9 := (hUt8.drew).trans (hX9.mono (fun _ h => h.elim) hz3)
              refine WL.nil ?_
              refine QF.after hx9.cellsAdd ?_
              have hone9 : ∀ u ∈ [(x1, x2, brk)], ∀ c ∈ encR u, c.oneCell' = true := fun u hu => by
                rw [List.mem_singleton.1 hu]; exact encR_ones hx1o hx2o
              refine WH.one 8 (by kernel_rfl) rfl ?_
              refine WL.appendSl elR hrow9 hR9 h9 (by simp) rfl rfl (fun _ _ => rfl) hone9 (by simp; omega) (by simp; omega) (by omega) rfl ?_
              intro lv10 w10 O10 hrow10 hU10 hR10
              have hb10 := BlkO.upd hb9 hU10 hj (by omega)
              have hx10 := BlkO.upd hx9 hU10 (by omega) (by omega)
              have hl10 := hrow10.one
              refine WL.nil ?_
              refine QF.after hx10.cellsAdd ?_
              refine WH.take 9 rfl (by kernel_rfl) (by kernel_rfl) (by kernel_rfl) hx10.cellsAdd (fun w1 hw1 => RV.nilPtr rfl) rfl ?_
              refine WH.take 10 rfl (by kernel_rfl) (by kernel_rfl) (by kernel_rfl) hx10.cellsAdd (fun w1 hw1 => RV.fieldAddr 6 Tryz.underlying56 rfl rfl (Tryz.sizeOf26 _) (by decide) rfl) rfl ?_
              refine WH.take 11 rfl (by kernel_rfl) (by kernel_rfl) (by kernel_rfl) hx10.cellsAdd (fun w1 hw1 => RV.fieldAddr 2 Tryz.underlying26 rfl rfl (Tryz.sizeOf24 _) (by decide) rfl) rfl ?_
              refine WH.one 12 (by kernel_rfl) rfl ?_
              refine WL.storeBlk (j := 8) hb10 rfl (Tryz.sizeOf24 _) hl10 rfl rfl rfl ?_
              have hb11 := hb10.s_ru lv10
              have hU11 : Upd (fun q => q = j) O10 w10 O10 (w10.setCell ⟨rb, 8, none⟩ lv10) := Upd.set (fun e => hj e.symm) hb10.tag rfl
              have hx11 := hx10.upd hU11 (by omega) (by omega)
              have hrow11 := hrow10.upd hU11 hjr (fun e => hne e.symm)
              have hR11 := hR10.upd hU11
              refine WL.nil ?_
              refine QF.after hx11.cellsAdd ?_
              refine WH.done (by kernel_rfl) ?_
              have hUz : Upd (fun q => q = j ∨ q = jr ∨ T ≤ q) O w O10 (w10.setCell ⟨rb, 8, none⟩ lv10) := (hUt9.trans (hU10.mono (fun _ h => .inr (.inl h)) hz3)).trans (hU11.mono (fun _ h => .inl h) hz3)
              refine QF.end0 rfl ⟨lowT O10 T, lv10, hUz.lowT hT (fun b hb => by have := hT b; rcases hb with h | h | h; exact .inl h; exact .inr h; omega) (fun e => by rcases e with e | e; exact hj e.symm; exact hjr e.symm), hR11.lowT T, ?_⟩
              exact ⟨hne1, by rw [show s.bg + ((k + 1 + p : Nat) : Int) = ((k + (m - r.length) + 1 : Nat) : Int) + (p : Int) from by rw [hbg]; omega]; exact hb11.lowT hjT⟩
            · skip
              refine WL.buildOne2 elR (enc := encR) (x1, x2, brk) rfl rfl rfl (by decide) rfl ?_
              intro w9 h9 hE9
              have hX9 : Upd (fun _ => False) O3 (World.drew w6) O3 w9 := Upd.of_ext (fun h => h) O3 hE9
              have hb9 := hbd.upd hX9 hj (fun h => h)
              have hx9 := hxd.upd hX9 (by omega) (fun h => h)
              have hrow9 := hrowd.upd hX9 hjr (fun h => h)
              have hR9 := hRd.upd hX9
              have hUt9 := (hUt8.drew).trans (hX9.mono (fun _ h => h.elim) hz3)
              refine WL.nil ?_
              refine QF.after hx9.cellsAdd ?_
              refine WH.one 5 (by kernel_rfl) rfl ?_
              refine WL.v (RV.load hb9.q8 (Tryz.isAgg24 _) rfl) rfl ?_
              refine WL.nil ?_
              refine QF.after hx9.cellsAdd ?_
              have hone9 : ∀ u ∈ [(x1, x2, brk)], ∀ c ∈ encR u, c.oneCell' = true := fun u hu => by
                rw [List.mem_singleton.1 hu]; exact encR_ones hx1o hx2o
              refine WH.one 8 (by kernel_rfl) rfl ?_
              refine WL.appendSl elR hrow9 hR9 h9 (by simp) rfl rfl (fun _ _ => rfl) hone9 (by simp; omega) (by simp; omega) (by omega) rfl ?_
              intro lv10 w10 O10 hrow10 hU10 hR10
              have hb10 := BlkO.upd hb9 hU10 hj (by omega)
              have hx10 := BlkO.upd hx9 hU10 (by omega) (by omega)
              have hl10 := hrow10.one
              refine WL.nil ?_
              refine QF.after hx10.cellsAdd ?_
              refine WH.take 9 rfl (by kernel_rfl) (by kernel_rfl) (by kernel_rfl) hx10.cellsAdd (fun w1 hw1 => RV.nilPtr rfl) rfl ?_
              refine WH.take 10 rfl (by kernel_rfl) (by kernel_rfl) (by kernel_rfl) hx10.cellsAdd (fun w1 hw1 => RV.fieldAddr 6 Tryz.underlying56 rfl rfl (Tryz.sizeOf26 _) (by decide) rfl) rfl ?_
              refine WH.take 11 rfl (by kernel_rfl) (by kernel_rfl) (by kernel_rfl) hx10.cellsAdd (fun w1 hw1 => RV.fieldAddr 2 Tryz.underlying26 rfl rfl (Tryz.sizeOf24 _) (by decide) rfl) rfl ?_
              refine WH.one 12 (by kernel_rfl) rfl ?_
              refine WL.storeBlk (j := 8) hb10 rfl (Tryz.sizeOf24 _) hl10 rfl rfl rfl ?_
              have hb11 := hb10.s_ru lv10
              have hU11 : Upd (fun q => q = j) O10 w10 O10 (w10.setCell ⟨rb, 8, none⟩ lv10) := Upd.set (fun e => hj e.symm) hb10.tag rfl
              have hx11 := hx10.upd hU11 (by omega) (by omega)
              have hrow11 := hrow10.upd hU11 hjr (fun e => hne e.symm)
              have hR11 := hR10.upd hU11
              refine WL.nil ?_
              refine QF.after hx11.cellsAdd ?_
              refine WH.done (by kernel_rfl) ?_
              have hUz : Upd (fun q => q = j ∨ q = jr ∨ T ≤ q) O w O10 (w10.setCell ⟨rb, 8, none⟩ lv10) := (hUt9.trans (hU10.mono (fun _ h => .inr (.inl h)) hz3)).trans (hU11.mono (fun _ h => .inl h) hz3)
              refine QF.end0 rfl ⟨lowT O10 T, lv10, hUz.lowT hT (fun b hb => by have := hT b; rcases hb with h | h | h; exact .inl h; exact .inr h; omega) (fun e => by rcases e with e | e; exact hj e.symm; exact hjr e.symm), hR11.lowT T, ?_⟩
              exact ⟨hne1, by rw [show s.bg + ((k + 1 + p : Nat) : Int) = ((k + (m - r.length) + 1 : Nat) : Int) + (p : Int) from by rw [hbg]; omega]; exact hb11.lowT hjT⟩
          | ok b =>
            rw [hs2] at hP5
            obtain ⟨hnb5, hb5⟩ := hP5
            replace hb5 : BlkO O3 w5 j rb s.cells 56 := hb5
            refine WL.call Tryz.call50 rfl (looks_ret b x2 w5 hnb5.zero) rfl ?_
            rintro v w6 ⟨rfl, hE6⟩
            have hX6 : Upd (fun _ => False) O3 w5 O3 w6 := Upd.of_ext (fun h => h) O3 hE6
            have hb6 := hb5.upd hX6 hj (fun h => h)
            have hx6 := hx5.upd hX6 (by omega) (fun h => h)
            have hrow6 := hrow5.upd hX6 hjr (fun h => h)
            have hR6 := hR5.upd hX6
            have hUt6 := hUt5.trans (hX6.mono (fun _ h => h.elim) hz3)
            have hnA := hn5.upd hX6
            have hnB := hnb5.upd hX6
            have g6 := hb6.q5
            rw [he] at g6
            refine WL.v (RV.assign rfl) rfl ?_
            refine WL.nil ?_
            refine QF.seqNext ?_
            refine WC.seq ?_
            refine WC.region ?_
            refine WL.v (RV.move rfl) rfl ?_
            refine WL.v (RV.nilPtr rfl) rfl ?_
            refine WL.v (RV.fieldAddr 0 Tryz.underlying56 rfl rfl (Tryz.sizeOf53 _) (by decide) rfl) rfl ?_
            refine WL.v (RV.fieldAddr 5 Tryz.underlying53 rfl rfl (Tryz.sizeOf27 _) (by decide) rfl) rfl ?_
            refine WL.v (RV.load (by first | exact g6) (Tryz.isAgg27 _) rfl) rfl ?_
            refine WL.v (RV.eql rfl rfl) rfl ?_
            refine WL.v (RV.move rfl) rfl ?_
            refine WL.know (d := 98) rfl (b' := true) (rfl) ?_
            refine WL.on rfl ?_
            refine WL.v (RV.move rfl) rfl ?_
            refine WL.on rfl ?_
            refine WL.v (RV.neq rfl rfl) rfl ?_
            refine WL.v (RV.pickT rfl rfl) rfl ?_
            refine WL.nil ?_
            refine QF.seqNext ?_
            by_cases hlk : looksM b = 0
            · have hM : ruleK kn r = .ok (a, b, brk) := by unfold ruleK; rw [hf]; dsimp only; rw [hs1]; dsimp only; rw [hs2]; dsimp only; rw [if_neg (by simpa using hlk), hbrk]
              rw [hM]
              have hUt8 := hUt6
              refine WC.condF rfl ((by rw [hlk]; rfl)) ?_
              have hbd := (BlkO.drew hb6)
              have hxd := (BlkO.drew hx6)
              have hrowd := (RowT.drew hrow6)
              have hRd := (Rng.drew hR6)
              refine WC.skip ?_
              refine QF.seqNext ?_
              refine WC.draw (fun V => ∀ (q : Nat) (u : Value), (encR (x1, x2, brk))[q]? = some u → V.cell? ((⟨xb, 0, none⟩ : Addr).add q) = some u) 13 rfl (by kernel_rfl) ?_
              refine WH.take 0 rfl (by kernel_rfl) (by kernel_rfl) (by kernel_rfl) hxd.cellsAdd (fun w1 hw1 => RV.move rfl) rfl ?_
              refine WH.take 1 rfl (by kernel_rfl) (by kernel_rfl) (by kernel_rfl) hxd.cellsAdd (fun w1 hw1 => RV.move rfl) rfl ?_
              refine WH.take 2 rfl (by kernel_rfl) (by kernel_rfl) (by kernel_rfl) hxd.cellsAdd (fun w1 hw1 => RV.nilPtr rfl) rfl ?_
              refine WH.take 3 rfl (by kernel_rfl) (by kernel_rfl) (by kernel_rfl) hxd.cellsAdd (fun w1 hw1 => RV.fieldAddr 6 Tryz.underlying56 rfl rfl (Tryz.sizeOf26 _) (by decide) rfl) rfl ?_
              refine WH.take 4 rfl (by kernel_rfl) (by kernel_rfl) (by kernel_rfl) hxd.cellsAdd (fun w1 hw1 => RV.fieldAddr 2 Tryz.underlying26 rfl rfl (Tryz.sizeOf24 _) (by decide) rfl) rfl ?_
              refine WH.take 6 rfl (by kernel_rfl) (by kernel_rfl) (by kernel_rfl) hxd.cellsAdd (fun w1 hw1 => RV.loadAgg (us := encR (x1, x2, brk)) hw1 (Tryz.isAgg50 _) (Tryz.sizeOf50 _) rfl) rfl ?_
              refine WH.two 5 7 (by kernel_rfl) rfl rfl ?_ ?_
              · skip
                refine WL.v (RV.load hbd.q8 (Tryz.isAgg24 _) rfl) rfl ?_
                refine WL.nil ?_
                refine QF.after hxd.cellsAdd ?_
                refine WH.one 7 (by kernel_rfl) rfl ?_
                refine WL.buildOne2 elR (enc := encR) (x1, x2, brk) rfl rfl rfl (by decide) rfl ?_
                intro w9 h9 hE9
                have hX9 : Upd (fun _ => False) O3 (World.drew w6) O3 w9 := Upd.of_ext (fun h => h) O3 hE9
                have hb9 := hbd.upd hX9 hj (fun h => h)
                have hx9 := hxd.upd hX9 (by omega) (fun h => h)
                have hrow9 := hrowd.upd hX9 hjr (fun h => h)
                have hR9 := hRd.upd hX9
                have hUt9 := (hUt8.drew).trans (hX9.mono (fun _ h => h.elim) hz3)
                refine WL.nil ?_
                refine QF.after hx9.cellsAdd ?_
                have hone9 : ∀ u ∈ [(x1, x2, brk)], ∀ c ∈ encR u, c.oneCell' = true := fun u hu => by
                  rw [List.mem_singleton.1 hu]; exact encR_ones hx1o hx2o
                refine WH.one 8 (by kernel_rfl) rfl ?_
                refine WL.appendSl elR hrow9 hR9 h9 (by simp) rfl rfl (fun _ _ => rfl) hone9 (by simp; omega) (by simp; omega) (by omega) rfl ?_
                intro lv10 w10 O10 hrow10 hU10 hR10
                have hb10 := BlkO.upd hb9 hU10 hj (by omega)
                have hx10 := BlkO.upd hx9 hU10 (by omega) (by omega)
                have hl10 := hrow10.one
                refine WL.nil ?_
                refine QF.after hx10.cellsAdd ?_
                refine WH.take 9 rfl (by kernel_rfl) (by kernel_rfl) (by kernel_rfl) hx10.cellsAdd (fun w1 hw1 => RV.nilPtr rfl) rfl ?_
                refine WH.take 10 rfl (by kernel_rfl) (by kernel_rfl) (by kernel_rfl) hx10.cellsAdd (fun w1 hw1 => RV.fieldAddr 6 Tryz.underlying56 rfl rfl (Tryz.sizeOf26 _) (by decide) rfl) rfl ?_
                refine WH.take 11 rfl (by kernel_rfl) (by kernel_rfl) (by kernel_rfl) hx10.cellsAdd (fun w1 hw1 => RV.fieldAddr 2 Tryz.underlying26 rfl rfl (Tryz.sizeOf24 _) (by decide) rfl) rfl ?_
                refine WH.one 12 (by kernel_rfl) rfl ?_
                refine WL.storeBlk (j := 8) hb10 rfl (Tryz.sizeOf24 _) hl10 rfl rfl rfl ?_
                have hb11 := hb10.s_ru lv10
                have hU11 : Upd (fun q => q = j) O10 w10 O10 (w10.setCell ⟨rb, 8, none⟩ lv10) := Upd.set (fun e => hj e.symm) hb10.tag rfl
                have hx11 := hx10.upd hU11 (by omega) (by omega)
                have hrow11 := hrow10.upd hU11 hjr (fun e => hne e.symm)
                have hR11 := hR10.upd hU11
                refine WL.nil ?_
                refine QF.after hx11.cellsAdd ?_
                refine WH.done (by kernel_rfl) ?_
                have hUz : Upd (fun q => q = j ∨ q = jr ∨ T ≤ q) O w O10 (w10.setCell ⟨rb, 8, none⟩ lv10) := (hUt9.trans (hU10.mono (fun _ h => .inr (.inl h)) hz3)).trans (hU11.mono (fun _ h => .inl h) hz3)
                refine QF.end0 rfl ⟨lowT O10 T, lv10, hUz.lowT hT (fun b hb => by have := hT b; rcases hb with h | h | h; exact .inl h; exact .inr h; omega) (fun e => by rcases e with e | e; exact hj e.symm; exact hjr e.symm), hR11.lowT T, ?_⟩
                exact ⟨(x1, x2, brk), hrow11.lowT hjrT, ⟨((((hnA.drew).upd hX9).upd hU10).upd hU11).weak (fun b e => lowT_z e), ((((hnB.drew).upd hX9).upd hU10).upd hU11).weak (fun b e => lowT_z e), rfl⟩, hb11.lowT hjT⟩
              · skip
                refine WL.buildOne2 elR (enc := encR) (x1, x2, brk) rfl rfl rfl (by decide) rfl ?_
                intro w9 h9 hE9
                have hX9 : Upd (fun _ => False) O3 (World.drew w6) O3 w9 := Upd.of_ext (fun h => h) O3 hE9
                have hb9 := hbd.upd hX9 hj (fun h => h)
                have hx9 := hxd.upd hX9 (by omega) (fun h => h)
                have hrow9 := hrowd.upd hX9 hjr (fun h => h)
                have hR9 := hRd.upd hX9
                have hUt9 := (hUt8.drew).trans (hX9.mono (fun _ h => h.elim) hz3)
                refine WL.nil ?_
                refine QF.after hx9.cellsAdd ?_
                refine WH.one 5 (by kernel_rfl) rfl ?_
                refine WL.v (RV.load hb9.q8 (Tryz.isAgg24 _) rfl) rfl ?_
                refine WL.nil ?_
                refine QF.after hx9.cellsAdd ?_
                have hone9 : ∀ u ∈ [(x1, x2, brk)], ∀ c ∈ encR u, c.oneCell' = true := fun u hu => by
                  rw [List.mem_singleton.1 hu]; exact encR_ones hx1o hx2o
                refine WH.one 8 (by kernel_rfl) rfl ?_
                refine WL.appendSl elR hrow9 hR9 h9 (by simp) rfl rfl (fun _ _ => rfl) hone9 (by simp; omega) (by simp; omega) (by omega) rfl ?_
                intro lv10 w10 O10 hrow10 hU10 hR10
                have hb10 := BlkO.upd hb9 hU10 hj (by omega)
                have hx10 := BlkO.upd hx9 hU10 (by omega) (by omega)
                have hl10 := hrow10.one
                refine WL.nil ?_
                refine QF.after hx10.cellsAdd ?_
                refine WH.take 9 rfl (by kernel_rfl) (by kernel_rfl) (by kernel_rfl) hx10.cellsAdd (fun w1 hw1 => RV.nilPtr rfl) rfl ?_
                refine WH.take 10 rfl (by kernel_rfl) (by kernel_rfl) (by kernel_rfl) hx10.cellsAdd (fun w1 hw1 => RV.fieldAddr 6 Tryz.underlying56 rfl rfl (Tryz.sizeOf26 _) (by decide) rfl) rfl ?_
                refine WH.take 11 rfl (by kernel_rfl) (by kernel_rfl) (by kernel_rfl) hx10.cellsAdd (fun w1 hw1 => RV.fieldAddr 2 Tryz.underlying26 rfl rfl (Tryz.sizeOf24 _) (by decide) rfl) rfl ?_
                refine WH.one 12 (by kernel_rfl) rfl ?_
                refine WL.storeBlk (j := 8) hb10 rfl (Tryz.sizeOf24 _) hl10 rfl rfl rfl ?_
                have hb11 := hb10.s_ru lv10
                have hU11 : Upd (fun q => q = j) O10 w10 O10 (w10.setCell ⟨rb, 8, none⟩ lv10) := Upd.set (fun e => hj e.symm) hb10.tag rfl
                have hx11 := hx10.upd hU11 (by omega) (by omega)
                have hrow11 := hrow10.upd hU11 hjr (fun e => hne e.symm)
                have hR11 := hR10.upd hU11
                refine WL.nil ?_
                refine QF.after hx11.cellsAdd ?_
                refine WH.done (by kernel_rfl) ?_
                have hUz : Upd (fun q => q = j ∨ q = jr ∨ T ≤ q) O w O10 (w10.setCell ⟨rb, 8, none⟩ lv10) := (hUt9.trans (hU10.mono (fun _ h => .inr (.inl h)) hz3)).trans (hU11.mono (fun _ h => .inl h) hz3)
                refine QF.end0 rfl ⟨lowT O10 T, lv10, hUz.lowT hT (fun b hb => by have := hT b; rcases hb with h | h | h; exact .inl h; exact .inr h; omega) (fun e => by rcases e with e | e; exact hj e.symm; exact hjr e.symm), hR11.lowT T, ?_⟩
                exact ⟨(x1, x2, brk), hrow11.lowT hjrT, ⟨((((hnA.drew).upd hX9).upd hU10).upd hU11).weak (fun b e => lowT_z e), ((((hnB.drew).upd hX9).upd hU10).upd hU11).weak (fun b e => lowT_z e), rfl⟩, hb11.lowT hjT⟩
            · have hM : ruleK kn r = .bad (k + 1) (looksM b) := by unfold ruleK; rw [hf]; dsimp only; rw [hs1]; dsimp only; rw [hs2]; dsimp only; rw [if_pos (by simpa using hlk)]
              rw [hM]
              refine WC.condT rfl ((by simpa using hlk)) ?_
              refine WC.region ?_
              refine WL.v (RV.move rfl) rfl ?_
              refine WL.v (RV.nilPtr rfl) rfl ?_
              refine WL.v (RV.fieldAddr 0 Tryz.underlying56 rfl rfl (Tryz.sizeOf53 _) (by decide) rfl) rfl ?_
              refine WL.v (RV.move rfl) rfl ?_
              refine WL.v (RV.add rfl rfl (Fit.i64 (by omega))) rfl ?_
              refine WL.v (RV.move rfl) rfl ?_
              refine WL.call Tryz.call54 rfl (rfail_ret O3 w6 j rb s (((k + (m - r.length) : Nat) : Int) + 1) (looksM b) hj he hb6) rfl ?_
              rintro v w7 ⟨hb7, hU7⟩
              have hx7 := hx6.upd hU7 (by omega) (by omega)
              have hrow7 := hrow6.upd hU7 hjr (fun e => hne e.symm)
              have hR7 := hR6.upd hU7
              have hUt8 := hUt6.trans (hU7.mono (fun _ h => .inl h) hz3)
              have hbd := (BlkO.drew hb7)
              have hxd := (BlkO.drew hx7)
              have hrowd := (RowT.drew hrow7)
              have hRd := (Rng.drew hR7)
              refine WL.nil ?_
              refine QF.seqNext ?_
              refine WC.draw (fun V => ∀ (q : Nat) (u : Value), (encR (x1, x2, brk))[q]? = some u → V.cell? ((⟨xb, 0, none⟩ : Addr).add q) = some u) 13 rfl (by kernel_rfl) ?_
              refine WH.take 0 rfl (by kernel_rfl) (by kernel_rfl) (by kernel_rfl) hxd.cellsAdd (fun w1 hw1 => RV.move rfl) rfl ?_
              refine WH.take 1 rfl (by kernel_rfl) (by kernel_rfl) (by kernel_rfl) hxd.cellsAdd (fun w1 hw1 => RV.move rfl) rfl ?_
              refine WH.take 2 rfl (by kernel_rfl) (by kernel_rfl) (by kernel_rfl) hxd.cellsAdd (fun w1 hw1 => RV.nilPtr rfl) rfl ?_
              refine WH.take 3 rfl (by kernel_rfl) (by kernel_rfl) (by kernel_rfl) hxd.cellsAdd (fun w1 hw1 => RV.fieldAddr 6 Tryz.underlying56 rfl rfl (Tryz.sizeOf26 _) (by decide) rfl) rfl ?_
              refine WH.take 4 rfl (by kernel_rfl) (by kernel_rfl) (by kernel_rfl) hxd.cellsAdd (fun w1 hw1 => RV.fieldAddr 2 Tryz.underlying26 rfl rfl (Tryz.sizeOf24 _) (by decide) rfl) rfl ?_
              refine WH.take 6 rfl (by kernel_rfl) (by kernel_rfl) (by kernel_rfl) hxd.cellsAdd (fun w1 hw1 => RV.loadAgg (us := encR (x1, x2, brk)) hw1 (Tryz.isAgg50 _) (Tryz.sizeOf50 _) rfl) rfl ?_
              refine WH.two 5 7 (by kernel_rfl) rfl rfl ?_ ?_
              · skip
                refine WL.v (RV.load hbd.q8 (Tryz.isAgg24 _) rfl) rfl ?_
                refine WL.nil ?_
                refine QF.after hxd.cellsAdd ?_
                refine WH.one 7 (by kernel_rfl) rfl ?_
                refine WL.buildOne2 elR (enc := encR) (x1, x2, brk) rfl rfl rfl (by decide) rfl ?_
                intro w9 h9 hE9
                have hX9 : Upd (fun _ => False) O3 (World.drew w7) O3 w9 := Upd.of_ext (fun h => h) O3 hE9
                have hb9 := hbd.upd hX9 hj (fun h => h)
                have hx9 := hxd.upd hX9 (by omega) (fun h => h)
                have hrow9 := hrowd.upd hX9 hjr (fun h => h)
                have hR9 := hRd.upd hX9
                have hUt9 := (hUt8.drew).trans (hX9.mono (fun _ h => h.elim) hz3)
                refine WL.nil ?_
                refine QF.after hx9.cellsAdd ?_
                have hone9 : ∀ u ∈ [(x1, x2, brk)], ∀ c ∈ encR u, c.oneCell' = true := fun u hu => by
                  rw [List.mem_singleton.1 hu]; exact encR_ones hx1o hx2o
                refine WH.one 8 (by kernel_rfl) rfl ?_
                refine WL.appendSl elR hrow9 hR9 h9 (by simp) rfl rfl (fun _ _ => rfl) hone9 (by simp; omega) (by simp; omega) (by omega) rfl ?_
                intro lv10 w10 O10 hrow10 hU10 hR10
                have hb10 := BlkO.upd hb9 hU10 hj (by omega)
                have hx10 := BlkO.upd hx9 hU10 (by omega) (by omega)
                have hl10 := hrow10.one
                refine WL.nil ?_
                refine QF.after hx10.cellsAdd ?_
                refine WH.take 9 rfl (by kernel_rfl) (by kernel_rfl) (by kernel_rfl) hx10.cellsAdd (fun w1 hw1 => RV.nilPtr rfl) rfl ?_
                refine WH.take 10 rfl (by kernel_rfl) (by kernel_rfl) (by kernel_rfl) hx10.cellsAdd (fun w1 hw1 => RV.fieldAddr 6 Tryz.underlying56 rfl rfl (Tryz.sizeOf26 _) (by decide) rfl) rfl ?_
                refine WH.take 11 rfl (by kernel_rfl) (by kernel_rfl) (by kernel_rfl) hx10.cellsAdd (fun w1 hw1 => RV.fieldAddr 2 Tryz.underlying26 rfl rfl (Tryz.sizeOf24 _) (by decide) rfl) rfl ?_
                refine WH.one 12 (by kernel_rfl) rfl ?_
                refine WL.storeBlk (j := 8) hb10 rfl (Tryz.sizeOf24 _) hl10 rfl rfl rfl ?_
                have hb11 := hb10.s_ru lv10
                have hU11 : Upd (fun q => q = j) O10 w10 O10 (w10.setCell ⟨rb, 8, none⟩ lv10) := Upd.set (fun e => hj e.symm) hb10.tag rfl
                have hx11 := hx10.upd hU11 (by omega) (by omega)
                have hrow11 := hrow10.upd hU11 hjr (fun e => hne e.symm)
                have hR11 := hR10.upd hU11
                refine WL.nil ?_
                refine QF.after hx11.cellsAdd ?_
                refine WH.done (by kernel_rfl) ?_
                have hUz : Upd (fun q => q = j ∨ q = jr ∨ T ≤ q) O w O10 (w10.setCell ⟨rb, 8, none⟩ lv10) := (hUt9.trans (hU10.mono (fun _ h => .inr (.inl h)) hz3)).trans (hU11.mono (fun _ h => .inl h) hz3)
                refine QF.end0 rfl ⟨lowT O10 T, lv10, hUz.lowT hT (fun b hb => by have := hT b; rcases hb with h | h | h; exact .inl h; exact .inr h; omega) (fun e => by rcases e with e | e; exact hj e.symm; exact hjr e.symm), hR11.lowT T, ?_⟩
                exact ⟨hlk, by rw [show s.bg + ((k + 1 : Nat) : Int) = ((k + (m - r.length) : Nat) : Int) + 1 from by rw [hbg]; omega]; exact hb11.lowT hjT⟩
              · skip
                refine WL.buildOne2 elR (enc := encR) (x1, x2, brk) rfl rfl rfl (by decide) rfl ?_
                intro w9 h9 hE9
                have hX9 : Upd (fun _ => False) O3 (World.drew w7) O3 w9 := Upd.of_ext (fun h => h) O3 hE9
                have hb9 := hbd.upd hX9 hj (fun h => h)
                have hx9 := hxd.upd hX9 (by omega) (fun h => h)
                have hrow9 := hrowd.upd hX9 hjr (fun h => h)
                have hR9 := hRd.upd hX9
                have hUt9 := (hUt8.drew).trans (hX9.mono (fun _ h => h.elim) hz3)
                refine WL.nil ?_
                refine QF.after hx9.cellsAdd ?_
                refine WH.one 5 (by kernel_rfl) rfl ?_
                refine WL.v (RV.load hb9.q8 (Tryz.isAgg24 _) rfl) rfl ?_
                refine WL.nil ?_
                refine QF.after hx9.cellsAdd ?_
                have hone9 : ∀ u ∈ [(x1, x2, brk)], ∀ c ∈ encR u, c.oneCell' = true := fun u hu => by
                  rw [List.mem_singleton.1 hu]; exact encR_ones hx1o hx2o
                refine WH.one 8 (by kernel_rfl) rfl ?_
                refine WL.appendSl elR hrow9 hR9 h9 (by simp) rfl rfl (fun _ _ => rfl) hone9 (by simp; omega) (by simp; omega) (by omega) rfl ?_
                intro lv10 w10 O10 hrow10 hU10 hR10
                have hb10 := BlkO.upd hb9 hU10 hj (by omega)
                have hx10 := BlkO.upd hx9 hU10 (by omega) (by omega)
                have hl10 := hrow10.one
                refine WL.nil ?_
                refine QF.after hx10.cellsAdd ?_
                refine WH.take 9 rfl (by kernel_rfl) (by kernel_rfl) (by kernel_rfl) hx10.cellsAdd (fun w1 hw1 => RV.nilPtr rfl) rfl ?_
                refine WH.take 10 rfl (by kernel_rfl) (by kernel_rfl) (by kernel_rfl) hx10.cellsAdd (fun w1 hw1 => RV.fieldAddr 6 Tryz.underlying56 rfl rfl (Tryz.sizeOf26 _) (by decide) rfl) rfl ?_
                refine WH.take 11 rfl (by kernel_rfl) (by kernel_rfl) (by kernel_rfl) hx10.cellsAdd (fun w1 hw1 => RV.fieldAddr 2 Tryz.underlying26 rfl rfl (Tryz.sizeOf24 _) (by decide) rfl) rfl ?_
                refine WH.one 12 (by kernel_rfl) rfl ?_
                refine WL.storeBlk (j := 8) hb10 rfl (Tryz.sizeOf24 _) hl10 rfl rfl rfl ?_
                have hb11 := hb10.s_ru lv10
                have hU11 : Upd (fun q => q = j) O10 w10 O10 (w10.setCell ⟨rb, 8, none⟩ lv10) := Upd.set (fun e => hj e.symm) hb10.tag rfl
                have hx11 := hx10.upd hU11 (by omega) (by omega)
                have hrow11 := hrow10.upd hU11 hjr (fun e => hne e.symm)
                have hR11 := hR10.upd hU11
                refine WL.nil ?_
                refine QF.after hx11.cellsAdd ?_
                refine WH.done (by kernel_rfl) ?_
                have hUz : Upd (fun q => q = j ∨ q = jr ∨ T ≤ q) O w O10 (w10.setCell ⟨rb, 8, none⟩ lv10) := (hUt9.trans (hU10.mono (fun _ h => .inr (.inl h)) hz3)).trans (hU11.mono (fun _ h => .inl h) hz3)
                refine QF.end0 rfl ⟨lowT O10 T, lv10, hUz.lowT hT (fun b hb => by have := hT b; rcases hb with h | h | h; exact .inl h; exact .inr h; omega) (fun e => by rcases e with e | e; exact hj e.symm; exact hjr e.symm), hR11.lowT T, ?_⟩
                exact ⟨hlk, by rw [show s.bg + ((k + 1 : Nat) : Int) = ((k + (m - r.length) : Nat) : Int) + 1 from by rw [hbg]; omega]; exact hb11.lowT hjT⟩
theorem rule_ret (B : Nat) (O : Nat → Nat) (w : World) (j jr rb : Nat) (s : LS) (m : Nat) (r : List UInt8) (xs : List X3) (hR : Rng B O w) (hj : j ≠ 0) (hjr : jr ≠ 0) (hne : j ≠ jr) (hm : m ≤ s.l.length) (hl : s.l.length ≤ 100000) (hto : s.to = (m : Int)) (hbg : s.bg = ((m - r.length : Nat) : Int)) (he : s.e = 0) (hmc : s.mc = .slice none 0 0)
    (hr : r <:+ s.l.take m) (_ha : asciiL r) (hrow : RowT encR 50 7 O w jr s.ru xs) (hxl : xs.length ≤ 40) (h : Rd6 O w j rb s) :
    Ret Tryz.prog 42 [.pointer (some ⟨rb, 0, none⟩)] w fun _ w' => PostR B O w w' j jr rb s xs (if xs.length = 40 then .bad 0 3 else ruleM r) := by
  have := ruleK_ret (kn := []) B O w j jr rb s m r xs hR hj hjr hne hm hl hto hbg he (jm := j + jr + 1) (by omega) (by omega) (by omega) (by rw [hmc]; exact Mac.nil O w _) hr hrow hxl h
  rw [ruleK_nil] at this
  exact this
end Go.Proofs.YtmohcfjopaccdaaGreatDoor
