/- Package expr, walked: seq, alts. -/
import Derived.Test.YtmohcfjopaccdaaGreatDoorExF
namespace Go.Proofs.YtmohcfjopaccdaaGreatDoor
open Go.VL Go.Proofs
set_option maxRecDepth 10000
variable {kv : Value} {kn : Kn}

theorem begins_ret (c : UInt8) (w : World) : Ret Tryz.prog 125 [.int .u8 (c.toNat : Int)] w fun v w' => v = .bool (beginsB c) ∧ w' = w := by
  refine Ret.enter Tryz.func125 Tryz.ntmps125 rfl rfl ?_
  refine WC.seq ?_
  refine WC.region ?_
  refine WL.v (RV.assign rfl) rfl ?_
  refine WL.nil ?_
  refine QF.seqNext ?_
  refine WC.seq ?_
  refine WC.region ?_
  refine WL.v (RV.move rfl) rfl ?_
  refine WL.call Tryz.call137 rfl (letter_ret c w) rfl ?_
  rintro v w9 ⟨rfl, hw9⟩
  rw [hw9]
  clear hw9 w9
  refine WL.v (RV.move rfl) rfl ?_
  cases h1 : letterB c with
  | true =>
    refine WL.know (d := 5) rfl (b' := true) (rfl) ?_
    refine WL.off rfl rfl rfl ?_
    refine WL.off rfl rfl rfl ?_
    refine WL.v (RV.pickT rfl rfl) rfl ?_
    refine WL.v (RV.move rfl) rfl ?_
    refine WL.off rfl rfl rfl ?_
    refine WL.off rfl rfl rfl ?_
    refine WL.v (RV.pickT rfl rfl) rfl ?_
    refine WL.v (RV.move rfl) rfl ?_
    refine WL.off rfl rfl rfl ?_
    refine WL.off rfl rfl rfl ?_
    refine WL.v (RV.pickT rfl rfl) rfl ?_
    refine WL.v (RV.assign rfl) rfl ?_
    refine WL.nil ?_
    refine QF.seqNext ?_
    refine WC.ret ?_
    refine QF.done1 rfl rfl (⟨by simp [beginsB, h1], rfl⟩)
  | false =>
    refine WL.know (d := 5) rfl (b' := false) (rfl) ?_
    refine WL.on rfl ?_
    refine WL.v (RV.move rfl) rfl ?_
    refine WL.on rfl ?_
    refine WL.v (RV.eql rfl rfl) rfl ?_
    refine WL.v (RV.pickF rfl rfl) rfl ?_
    refine WL.v (RV.move rfl) rfl ?_
    by_cases h2 : c = 126
    · skip
      refine WL.know (d := 9) rfl (b' := true) ((by rw [h2]; rfl)) ?_
      refine WL.off rfl rfl rfl ?_
      refine WL.off rfl rfl rfl ?_
      refine WL.v (RV.pickT rfl rfl) rfl ?_
      refine WL.v (RV.move rfl) rfl ?_
      refine WL.off rfl rfl rfl ?_
      refine WL.off rfl rfl rfl ?_
      refine WL.v (RV.pickT rfl rfl) rfl ?_
      refine WL.v (RV.assign rfl) rfl ?_
      refine WL.nil ?_
      refine QF.seqNext ?_
      refine WC.ret ?_
      refine QF.done1 rfl rfl (⟨by simp [beginsB, h2], rfl⟩)
    · skip
      refine WL.know (d := 9) rfl (b' := false) ((byteBeq _ 126 (by decide) h2)) ?_
      refine WL.on rfl ?_
      refine WL.v (RV.move rfl) rfl ?_
      refine WL.on rfl ?_
      refine WL.v (RV.eql rfl rfl) rfl ?_
      refine WL.v (RV.pickF rfl rfl) rfl ?_
      refine WL.v (RV.move rfl) rfl ?_
      by_cases h3 : c = 94
      · skip
        refine WL.know (d := 13) rfl (b' := true) ((by rw [h3]; rfl)) ?_
        refine WL.off rfl rfl rfl ?_
        refine WL.off rfl rfl rfl ?_
        refine WL.v (RV.pickT rfl rfl) rfl ?_
        refine WL.v (RV.assign rfl) rfl ?_
        refine WL.nil ?_
        refine QF.seqNext ?_
        refine WC.ret ?_
        refine QF.done1 rfl rfl (⟨by simp [beginsB, h3], rfl⟩)
      · skip
        refine WL.know (d := 13) rfl (b' := false) ((byteBeq _ 94 (by decide) h3)) ?_
        refine WL.on rfl ?_
        refine WL.v (RV.move rfl) rfl ?_
        refine WL.on rfl ?_
        refine WL.v (RV.eql rfl rfl) rfl ?_
        refine WL.v (RV.pickF rfl rfl) rfl ?_
        refine WL.v (RV.assign rfl) rfl ?_
        refine WL.nil ?_
        refine QF.seqNext ?_
        refine WC.ret ?_
        have e := byteEq c 40 (by decide)
        refine QF.done1 rfl rfl (⟨?_, rfl⟩)
        have e2 : beginsB c = decide (c = 40) := by simp [beginsB, h1, h2, h3]
        rw [e2]; exact congrArg Value.bool e

def PR.andThen (M : PR) (f : Nd → List UInt8 → PR) : PR := match M with | .bad p e => .bad p e | .ok t r => f t r
def LoopS (kv : Value) (op : Int) (l : List UInt8) (j rb : Nat) (F : Nat → List Nd → List UInt8 → PR) (M : PR) (O : Nat → Nat) (w : World) (n : Nat) (r1 : List UInt8) (ts : List Nd) (xs : List N3) : Prop :=
  (Rdr kv O w j rb l ((l.length : Int) - (r1.length : Int)) op 0 0 ∧ r1 <:+ l ∧ r1.length < n ∧ xs.length + n ≤ 5000 ∧ ts.length = xs.length ∧ (∀ i, i < xs.length → Nt O w (nth ts i) (nth xs i)) ∧ F n ts r1 = M) ∨
  (∃ p e a op', M = .bad p e ∧ e ≠ 0 ∧ Rdr kv O w j rb l a op' ((l.length : Int) - (p : Int)) e ∧ 0 ≤ a ∧ a ≤ l.length + 20 - op ∧ op ≤ op' ∧ op' ≤ 20)
theorem LoopS.upd {op : Int} {l : List UInt8} {j rb : Nat} {F : Nat → List Nd → List UInt8 → PR} {M : PR} {O O' : Nat → Nat} {w w' : World} {n : Nat} {r1 : List UInt8} {ts : List Nd} {xs : List N3} {S : Nat → Prop} (h : LoopS kv op l j rb F M O w n r1 ts xs) (u : Upd S O w O' w') (hj : j ≠ 0) (hS : ¬ S j) : LoopS kv op l j rb F M O' w' n r1 ts xs := by
  rcases h with ⟨h1, h2, h3, h4, h5, h6, h7⟩ | ⟨p, e, a, o, h1, h2, h3, h4⟩
  · exact .inl ⟨BlkO.upd h1 u hj hS, h2, h3, h4, h5, fun i hi => (h6 i hi).upd u, h7⟩
  · exact .inr ⟨p, e, a, o, h1, h2, BlkO.upd h3 u hj hS, h4⟩
theorem LoopS.next {op : Int} {l : List UInt8} {j rb : Nat} {F : Nat → List Nd → List UInt8 → PR} {M M' : PR} {O : Nat → Nat} {w : World} {n : Nat} {q r1 : List UInt8} {ts : List Nd} {xs : List N3} {x : N3} (hP : PostE kv O w j rb l op x M') (hG : Good q M') (hq : q <:+ l) (hqr : q.length ≤ r1.length) (h3 : r1.length < n + 1) (h4 : xs.length + (n + 1) ≤ 5000) (h5 : ts.length = xs.length)
    (h6 : ∀ i, i < xs.length → Nt O w (nth ts i) (nth xs i)) (h7 : F (n + 1) ts r1 = M) (hF : F (n + 1) ts r1 = M'.andThen fun t r2 => F n (ts ++ [t]) r2) : ∃ n' r' ts', n' < n + 1 ∧ LoopS kv op l j rb F M O w n' r' ts' (xs ++ [x]) := by
  cases M' with
  | bad p e =>
    obtain ⟨g1, a, o, g2, g3⟩ := hP
    exact ⟨0, [], [], by omega, .inr ⟨p, e, a, o, by rw [← h7, hF]; rfl, hG.2, g2, g3⟩⟩
  | ok t r2 =>
    refine ⟨n, r2, ts ++ [t], by omega, .inl ⟨hP.1, hG.1.trans hq, by have := hG.2; omega, by simp; omega, by simp [h5], fun i hi => ?_, by rw [← h7, hF]; rfl⟩⟩
    simp only [List.length_append, List.length_singleton] at hi
    by_cases e : i < xs.length
    · rw [nth_eq (by simp; omega), nth_eq (by simp; omega), List.getElem_append_left (by omega), List.getElem_append_left e, ← nth_eq (by omega), ← nth_eq e]
      exact h6 i e
    · obtain rfl : i = xs.length := by omega
      rw [nth_eq (by simp; omega), nth_eq (by simp), List.getElem_append_right (by omega), List.getElem_append_right (by omega)]
      simp [h5]
      exact hP.2
theorem LoopS.start {op : Int} {l : List UInt8} {j rb : Nat} {F : Nat → List Nd → List UInt8 → PR} {M M' : PR} {O : Nat → Nat} {w : World} {r : List UInt8} {x : N3} (hP : PostE kv O w j rb l op x M') (hG : Good r M') (hr : r <:+ l) (hl : l.length ≤ 4096) (hF : M = M'.andThen fun t r2 => F (r2.length + 1) [t] r2) : ∃ n' r' ts', LoopS kv op l j rb F M O w n' r' ts' [x] := by
  cases M' with
  | bad p e =>
    obtain ⟨g1, a, o, g2, g3⟩ := hP
    exact ⟨0, [], [], .inr ⟨p, e, a, o, hF, hG.2, g2, g3⟩⟩
  | ok t r2 =>
    have := hr.length_le
    refine ⟨r2.length + 1, r2, [t], .inl ⟨hP.1, hG.1.trans hr, by omega, by have := hG.2; simp; omega, rfl, fun i hi => ?_, hF.symm⟩⟩
    obtain rfl : i = 0 := by simpa using hi
    rw [nth_cons0, nth_cons0]; exact hP.2
theorem Nt.oneM {O O' : Nat → Nat} {w w' : World} {k : Int} {ts : List Nd} {xs : List N3} {lv : Value} {T U B : Nat} {S : Nat → Prop} (hrow : RowT encN 48 3 O' w' U lv xs) (hTU : T ≤ U) (hT0 : 0 < T) (hT : ∀ b, O b < T) (r : Rng B O' w') (u : Upd S O w O' w') (h5 : ts.length = xs.length) (h6 : ∀ i, i < xs.length → Nt O' w' (nth ts i) (nth xs i)) (h1 : 1 ≤ xs.length) :
    Nt O w' (oneM k ts) (if xs.length = 1 then nth xs 0 else (k, 0, lv)) := by
  unfold Go.Proofs.YtmohcfjopaccdaaGreatDoor.oneM
  by_cases e : xs.length = 1
  · rw [if_pos (by omega), if_pos e]
    exact (h6 0 (by omega)).low u
  · rw [if_neg (by omega), if_neg e]
    exact .mk hrow.sl (hrow.freeT (by omega) (fun b => Nat.lt_of_lt_of_le (hT b) hTU) r u) h5 (fun i hi => (h6 i hi).low u)
theorem seq_ret (al : Option (List UInt8 → PR)) (op : Int) (hop : 0 ≤ op ∧ op ≤ 20) (ha : AltsOK kv kn al op) (hg : GoodF al) : Reads kv kn 101 [] op (seqK kn al) (fun _ => True) := by
  intro B O j rb l r w hR hj hr hl hpre h hkn
  obtain ⟨T, hT0, hT⟩ := hR.bound
  have hjT : j < T := by rw [← h.tag]; exact hT rb
  have hrl := hr.length_le
  refine Ret.enter Tryz.func101 Tryz.ntmps101 rfl rfl ?_
  refine WC.seq ?_
  refine WC.region ?_
  refine WL.allocO hR T (by omega) (Tryz.zeroValue48 _) rfl ?_
  intro xb w1 O1 hx1 hU1 hR1 hE1
  have hb1 := h.upd hU1 hj (by omega)
  have hUt1 := hU1.pT hj hT0 (Nat.le_refl _)
  refine WL.nil ?_
  refine QF.seqNext ?_
  refine WC.seq ?_
  refine WC.region ?_
  refine WL.v (RV.move rfl) rfl ?_
  refine WL.call Tryz.call124 rfl (often_ret al op hop ha hg B O1 j rb l r w1 hR1 hj hr hl trivial hb1 (hkn.upd hUt1)) rfl ?_
  rintro v w2 ⟨x, rfl, hU2, hP2⟩
  have hxo2 := hP2.one
  have hx2 := hx1.upd hU2 (by omega) (by omega)
  have hR2 := hR1.upd hU2
  have hUt2 := hUt1.trans (hU2.pj hT0)
  refine WL.buildOneO elN (enc := encN) hR2 (T + 1) (by omega) x rfl rfl rfl (by decide) rfl ?_
  intro lv w3 O3 hrow3 hU3 hR3
  have hx3 := hx2.upd hU3 (by omega) (by omega)
  have hP3 := hP2.upd hU3 hj (by omega)
  have hUt3 := hUt2.trans (hU3.pT hj hT0 (Nat.le_succ _))
  have hone0 : ∀ i, i < [x].length → (nth [x] i).2.2.oneCell' = true := fun i hi => by
    obtain rfl : i = 0 := by simpa using hi
    rw [nth_cons0]; exact hxo2
  obtain ⟨n0, r0, ts0, hS0⟩ := LoopS.start (F := seqLoopK kn al) (M := seqK kn al r) hP3 (oftenK_good (kn := kn) hg r) hr hl rfl
  refine WL.v (RV.assign rfl) rfl ?_
  refine WL.nil ?_
  refine QF.seqNext ?_
  refine WC.seq ?_
  refine WC.block ?_
  refine WC.loop (fun y : Nat × List UInt8 × List Nd × List N3 × (Nat → Nat) × World × Value => [(0, .pointer (some ⟨rb, 0, none⟩)), (2, .pointer (some ⟨xb, 0, none⟩)), (3, y.2.2.2.2.2.2)]) (fun y : Nat × List UInt8 × List Nd × List N3 × (Nat → Nat) × World × Value => y.2.2.2.2.2.1) (fun y : Nat × List UInt8 × List Nd × List N3 × (Nat → Nat) × World × Value => BlkO y.2.2.2.2.1 y.2.2.2.2.2.1 T xb #[.int .i64 0, .int .i64 0, .slice none 0 0] 48 ∧ RowT encN 48 3 y.2.2.2.2.1 y.2.2.2.2.2.1 (T + 1) y.2.2.2.2.2.2 y.2.2.2.1 ∧ 1 ≤ y.2.2.2.1.length ∧ (∀ i, i < y.2.2.2.1.length → (nth y.2.2.2.1 i).2.2.oneCell' = true) ∧ Upd (fun k => k = j ∨ T ≤ k) O w y.2.2.2.2.1 y.2.2.2.2.2.1 ∧ Rng B y.2.2.2.2.1 y.2.2.2.2.2.1 ∧ LoopS kv op l j rb (seqLoopK kn al) (seqK kn al r) y.2.2.2.2.1 y.2.2.2.2.2.1 y.1 y.2.1 y.2.2.1 y.2.2.2.1) (fun y : Nat × List UInt8 × List Nd × List N3 × (Nat → Nat) × World × Value => y.1) (n0, r0, ts0, [x], O3, w3, lv) (⟨hx3, hrow3, Nat.le_refl _, hone0, hUt3, hR3, hS0⟩) ⟨rfl, rfl, rfl, trivial⟩ rfl ?_
  rintro ⟨n, r1, ts, xs, O4, w4, lv4⟩ ⟨hx4, hrow4, hlen4, hone4, hU4, hR4, hS4⟩
  dsimp only at hx4 hrow4 hlen4 hone4 hU4 hR4 hS4 ⊢
  rcases hS4 with ⟨hb4, hr4, hn4, hc4, hl4, ht4, hF4⟩ | ⟨p, e, a, op', hM, he, hb4, hbd1, hbd2, hbd3, hbd4⟩
  · have hq4 := (skipB_suf r1).trans hr4
    have hqle := skipB_le r1
    obtain ⟨m, rfl⟩ : ∃ m, n = m + 1 := ⟨n - 1, by omega⟩
    have hU' : seqLoopK kn al (m + 1) ts r1 = if beginsB ((skipB r1).headD 0) = true then ((oftenK kn al (skipB r1)).andThen fun t r2 => seqLoopK kn al m (ts ++ [t]) r2) else .ok (oneM 4 ts) (skipB r1) := rfl
    refine WC.seq ?_
    refine WC.seq ?_
    refine WC.region ?_
    refine WL.v (RV.move rfl) rfl ?_
    refine WL.v (RV.nilPtr rfl) rfl ?_
    refine WL.v (RV.fieldAddr 5 Tryz.underlying125 rfl rfl (Tryz.sizeOf27 _) (by decide) rfl) rfl ?_
    refine WL.v (RV.load (by first | exact hb4.r0 | exact hb4.r1 | exact hb4.r2 | exact hb4.r3 | exact hb4.r4 | exact hb4.r5) (Tryz.isAgg27 _) rfl) rfl ?_
    refine WL.v (RV.eql rfl rfl) rfl ?_
    refine WL.v (RV.move rfl) rfl ?_
    refine WL.know (d := 12) rfl (b' := true) (rfl) ?_
    refine WL.on rfl ?_
    refine WL.v (RV.move rfl) rfl ?_
    refine WL.on rfl ?_
    refine WL.v (RV.nilPtr rfl) rfl ?_
    refine WL.on rfl ?_
    refine WL.v (RV.fieldAddr 0 Tryz.underlying125 rfl rfl (Tryz.sizeOf123 _) (by decide) rfl) rfl ?_
    refine WL.on rfl ?_
    refine WL.call Tryz.call82 rfl (peek_ret O4 w4 j rb l r1 op 0 0 hj hr4 (by omega) hb4) rfl ?_
    rintro v w5 ⟨rfl, hb5, hU5⟩
    have hx5 := hx4.upd hU5 (by omega) (by omega)
    have hrow5 := hrow4.upd hU5 (by omega) (by omega)
    have hR5 := hR4.upd hU5
    have hUt5 := hU4.trans (hU5.pj hT0)
    have ht5 : ∀ i, i < xs.length → Nt O4 w5 (nth ts i) (nth xs i) := fun i hi => (ht4 i hi).upd hU5
    refine WL.on rfl ?_
    refine WL.call Tryz.call125 rfl (begins_ret ((skipB r1).headD 0) w5) rfl ?_
    rintro v w9 ⟨rfl, hw9⟩
    rw [hw9]
    clear hw9 w9
    refine WL.v (RV.pickT rfl rfl) rfl ?_
    refine WL.nil ?_
    refine QF.seqNext ?_
    by_cases hc : beginsB ((skipB r1).headD 0) = true
    · rw [if_pos hc] at hU'
      refine WC.condT rfl (hc) ?_
      refine WC.skip ?_
      refine QF.seqNext ?_
      refine WC.block ?_
      refine WC.region ?_
      refine WL.v (RV.move rfl) rfl ?_
      refine WL.v (RV.move rfl) rfl ?_
      refine WL.call Tryz.call124 rfl (often_ret al op hop ha hg B O4 j rb l (skipB r1) w5 hR5 hj hq4 hl trivial hb5 (hkn.upd hUt5)) rfl ?_
      rintro v w6 ⟨x6, rfl, hU6, hP6⟩
      have hxo6 := hP6.one
      have hx6 := hx5.upd hU6 (by omega) (by omega)
      have hrow6 := hrow5.upd hU6 (by omega) (by omega)
      have hR6 := hR5.upd hU6
      have hUt6 := hUt5.trans (hU6.pj hT0)
      refine WL.push elN hrow6 hR6 (x6) (fun _ => rfl) rfl rfl rfl (enc_one hxo6) (by omega) (by omega) (by omega) (by decide) rfl rfl ?_
      intro lv7 w7 O7 hrow7 hU7 hR7
      obtain ⟨n', r', ts', hlt, hS7⟩ := LoopS.next (F := seqLoopK kn al) hP6 (oftenK_good (kn := kn) hg _) hq4 hqle hn4 hc4 hl4 (fun i hi => (ht5 i hi).upd hU6) hF4 hU'
      refine WL.v (RV.assign rfl) rfl ?_
      refine WL.nil ?_
      refine QF.blockNormal ?_
      refine QF.next ((n', r', ts', xs ++ [x6], O7, w7, lv7)) (⟨hx6.upd hU7 (by omega) (by omega), hrow7, by simp, fun i hi => ?_, hUt6.trans (hU7.pT hj hT0 (Nat.le_succ _)), hR7, hS7.upd hU7 hj (by omega)⟩) (hlt) ⟨rfl, rfl, rfl, trivial⟩ rfl
      simp only [List.length_append, List.length_singleton] at hi
      by_cases e : i < xs.length
      · rw [nth_eq (by simp; omega), List.getElem_append_left e, ← nth_eq e]; exact hone4 i e
      · obtain rfl : i = xs.length := by omega
        rw [nth_eq (by simp)]; simpa using hxo6
    · rw [if_neg hc] at hU'
      refine WC.condF rfl ((by simpa using hc)) ?_
      refine WC.exit ?_
      refine QF.thenExit ?_
      refine QF.thenExit ?_
      refine QF.blockHit ?_
      refine QF.seqNext ?_
      refine WC.seq ?_
      refine WC.region ?_
      refine WL.v (RV.move rfl) rfl ?_
      refine WL.call Tryz.call102 rfl (one_ret 4 xs lv4 w5 hrow5.sl hone4) rfl ?_
      rintro v wo ⟨rfl, hEo⟩
      have hXo : Upd (fun _ => False) O4 w5 O4 wo := Upd.of_ext (fun h => h) O4 hEo
      have hxo5 := BlkO.upd hx5 hXo (by omega) (fun h => h)
      have hrowo := RowT.upd hrow5 hXo (by omega) (fun h => h)
      have hRo := Rng.upd hR5 hXo
      have hxo : (if xs.length = 1 then nth xs 0 else (4, 0, lv4) : N3).2.2.oneCell' = true := by
        split
        · exact hone4 0 (by omega)
        · exact hrowo.one
      refine WL.storeAgg (us := #[.int .i64 (if xs.length = 1 then nth xs 0 else (4, 0, lv4) : N3).1, .int .i64 (if xs.length = 1 then nth xs 0 else (4, 0, lv4) : N3).2.1, (if xs.length = 1 then nth xs 0 else (4, 0, lv4) : N3).2.2]) hxo5 rfl (Tryz.sizeOf48 _) (nv_ok hxo) rfl rfl rfl ?_
      have hxd := BlkO.setRow (us := #[.int .i64 (if xs.length = 1 then nth xs 0 else (4, 0, lv4) : N3).1, .int .i64 (if xs.length = 1 then nth xs 0 else (4, 0, lv4) : N3).2.1, (if xs.length = 1 then nth xs 0 else (4, 0, lv4) : N3).2.2]) hxo5
      have hUd : Upd (fun k => k = T) O4 wo O4 (World.setRow wo xb #[.int .i64 (if xs.length = 1 then nth xs 0 else (4, 0, lv4) : N3).1, .int .i64 (if xs.length = 1 then nth xs 0 else (4, 0, lv4) : N3).2.1, (if xs.length = 1 then nth xs 0 else (4, 0, lv4) : N3).2.2]) := Upd.setRow (by omega) (BlkO.tag hxo5) rfl
      have hUy := hUt5.trans (Upd.pE O4 hEo hj hT0)
      have hUz := hUy.trans (hUd.pT hj hT0 (Nat.le_refl _))
      refine WL.nil ?_
      refine QF.seqNext ?_
      refine WC.ret ?_
      refine QF.doneC1 rfl rfl (hxd.cellsAdd) (Tryz.isAgg48 _) (Tryz.sizeOf48 _) (⟨(if xs.length = 1 then nth xs 0 else (4, 0, lv4)), rfl, hUz.priv hT hj, ?_⟩)
      have hbo := (BlkO.upd hb5 hXo hj (fun h => h)).upd hUd hj (by omega)
      rw [← hF4, hU']
      exact ⟨hbo.fgt h.tag, Nt.oneM (hrowo.upd hUd (by omega) (by omega)) (Nat.le_succ T) hT0 hT (hRo.upd hUd) hUz hl4 (fun i hi => ((ht5 i hi).upd hXo).upd hUd) hlen4⟩
  · replace hb4 : BlkO O4 w4 j rb (rdr kv l a op' ((l.length : Int) - (p : Int)) e) 125 := hb4
    refine WC.seq ?_
    refine WC.seq ?_
    refine WC.region ?_
    refine WL.v (RV.move rfl) rfl ?_
    refine WL.v (RV.nilPtr rfl) rfl ?_
    refine WL.v (RV.fieldAddr 5 Tryz.underlying125 rfl rfl (Tryz.sizeOf27 _) (by decide) rfl) rfl ?_
    refine WL.v (RV.load (by first | exact hb4.r0 | exact hb4.r1 | exact hb4.r2 | exact hb4.r3 | exact hb4.r4 | exact hb4.r5) (Tryz.isAgg27 _) rfl) rfl ?_
    refine WL.v (RV.eql rfl rfl) rfl ?_
    refine WL.v (RV.move rfl) rfl ?_
    refine WL.know (d := 12) rfl (b' := false) ((by simpa using he)) ?_
    refine WL.off rfl rfl rfl ?_
    refine WL.off rfl rfl rfl ?_
    refine WL.off rfl rfl rfl ?_
    refine WL.off rfl rfl rfl ?_
    refine WL.off rfl rfl rfl ?_
    refine WL.v (RV.pickF rfl rfl) rfl ?_
    refine WL.nil ?_
    refine QF.seqNext ?_
    refine WC.condF rfl rfl ?_
    refine WC.exit ?_
    refine QF.thenExit ?_
    refine QF.thenExit ?_
    refine QF.blockHit ?_
    refine QF.seqNext ?_
    refine WC.seq ?_
    refine WC.region ?_
    refine WL.v (RV.move rfl) rfl ?_
    refine WL.call Tryz.call102 rfl (one_ret 4 xs lv4 w4 hrow4.sl hone4) rfl ?_
    rintro v wo ⟨rfl, hEo⟩
    have hXo : Upd (fun _ => False) O4 w4 O4 wo := Upd.of_ext (fun h => h) O4 hEo
    have hxo5 := BlkO.upd hx4 hXo (by omega) (fun h => h)
    have hrowo := RowT.upd hrow4 hXo (by omega) (fun h => h)
    have hRo := Rng.upd hR4 hXo
    have hxo : (if xs.length = 1 then nth xs 0 else (4, 0, lv4) : N3).2.2.oneCell' = true := by
      split
      · exact hone4 0 (by omega)
      · exact hrowo.one
    refine WL.storeAgg (us := #[.int .i64 (if xs.length = 1 then nth xs 0 else (4, 0, lv4) : N3).1, .int .i64 (if xs.length = 1 then nth xs 0 else (4, 0, lv4) : N3).2.1, (if xs.length = 1 then nth xs 0 else (4, 0, lv4) : N3).2.2]) hxo5 rfl (Tryz.sizeOf48 _) (nv_ok hxo) rfl rfl rfl ?_
    have hxd := BlkO.setRow (us := #[.int .i64 (if xs.length = 1 then nth xs 0 else (4, 0, lv4) : N3).1, .int .i64 (if xs.length = 1 then nth xs 0 else (4, 0, lv4) : N3).2.1, (if xs.length = 1 then nth xs 0 else (4, 0, lv4) : N3).2.2]) hxo5
    have hUd : Upd (fun k => k = T) O4 wo O4 (World.setRow wo xb #[.int .i64 (if xs.length = 1 then nth xs 0 else (4, 0, lv4) : N3).1, .int .i64 (if xs.length = 1 then nth xs 0 else (4, 0, lv4) : N3).2.1, (if xs.length = 1 then nth xs 0 else (4, 0, lv4) : N3).2.2]) := Upd.setRow (by omega) (BlkO.tag hxo5) rfl
    have hUy := hU4.trans (Upd.pE O4 hEo hj hT0)
    have hUz := hUy.trans (hUd.pT hj hT0 (Nat.le_refl _))
    refine WL.nil ?_
    refine QF.seqNext ?_
    refine WC.ret ?_
    refine QF.doneC1 rfl rfl (hxd.cellsAdd) (Tryz.isAgg48 _) (Tryz.sizeOf48 _) (⟨(if xs.length = 1 then nth xs 0 else (4, 0, lv4)), rfl, hUz.priv hT hj, ?_⟩)
    have hbo := (BlkO.upd hb4 hXo hj (fun h => h)).upd hUd hj (by omega)
    rw [hM]
    exact ⟨hxo, a, op', hbo.fgt h.tag, hbd1, hbd2, hbd3, hbd4⟩
theorem alts_ret (al : Option (List UInt8 → PR)) (op : Int) (hop : 0 ≤ op ∧ op ≤ 20) (ha : AltsOK kv kn al op) (hg : GoodF al) : Reads kv kn 81 [] op (altsLK kn al) (fun _ => True) := by
  intro B O j rb l r w hR hj hr hl hpre h hkn
  obtain ⟨T, hT0, hT⟩ := hR.bound
  have hjT : j < T := by rw [← h.tag]; exact hT rb
  have hrl := hr.length_le
  refine Ret.enter Tryz.func81 Tryz.ntmps81 rfl rfl ?_
  refine WC.seq ?_
  refine WC.region ?_
  refine WL.allocO hR T (by omega) (Tryz.zeroValue48 _) rfl ?_
  intro xb w1 O1 hx1 hU1 hR1 hE1
  have hb1 := h.upd hU1 hj (by omega)
  have hUt1 := hU1.pT hj hT0 (Nat.le_refl _)
  refine WL.nil ?_
  refine QF.seqNext ?_
  refine WC.seq ?_
  refine WC.region ?_
  refine WL.v (RV.move rfl) rfl ?_
  refine WL.call Tryz.call101 rfl (seq_ret al op hop ha hg B O1 j rb l r w1 hR1 hj hr hl trivial hb1 (hkn.upd hUt1)) rfl ?_
  rintro v w2 ⟨x, rfl, hU2, hP2⟩
  have hxo2 := hP2.one
  have hx2 := hx1.upd hU2 (by omega) (by omega)
  have hR2 := hR1.upd hU2
  have hUt2 := hUt1.trans (hU2.pj hT0)
  refine WL.buildOneO elN (enc := encN) hR2 (T + 1) (by omega) x rfl rfl rfl (by decide) rfl ?_
  intro lv w3 O3 hrow3 hU3 hR3
  have hx3 := hx2.upd hU3 (by omega) (by omega)
  have hP3 := hP2.upd hU3 hj (by omega)
  have hUt3 := hUt2.trans (hU3.pT hj hT0 (Nat.le_succ _))
  have hone0 : ∀ i, i < [x].length → (nth [x] i).2.2.oneCell' = true := fun i hi => by
    obtain rfl : i = 0 := by simpa using hi
    rw [nth_cons0]; exact hxo2
  obtain ⟨n0, r0, ts0, hS0⟩ := LoopS.start (F := altsLoopK kn al) (M := altsLK kn al r) hP3 (seqK_good (kn := kn) hg r) hr hl rfl
  refine WL.v (RV.assign rfl) rfl ?_
  refine WL.nil ?_
  refine QF.seqNext ?_
  refine WC.seq ?_
  refine WC.block ?_
  refine WC.loop (fun y : Nat × List UInt8 × List Nd × List N3 × (Nat → Nat) × World × Value => [(0, .pointer (some ⟨rb, 0, none⟩)), (2, .pointer (some ⟨xb, 0, none⟩)), (3, y.2.2.2.2.2.2)]) (fun y : Nat × List UInt8 × List Nd × List N3 × (Nat → Nat) × World × Value => y.2.2.2.2.2.1) (fun y : Nat × List UInt8 × List Nd × List N3 × (Nat → Nat) × World × Value => BlkO y.2.2.2.2.1 y.2.2.2.2.2.1 T xb #[.int .i64 0, .int .i64 0, .slice none 0 0] 48 ∧ RowT encN 48 3 y.2.2.2.2.1 y.2.2.2.2.2.1 (T + 1) y.2.2.2.2.2.2 y.2.2.2.1 ∧ 1 ≤ y.2.2.2.1.length ∧ (∀ i, i < y.2.2.2.1.length → (nth y.2.2.2.1 i).2.2.oneCell' = true) ∧ Upd (fun k => k = j ∨ T ≤ k) O w y.2.2.2.2.1 y.2.2.2.2.2.1 ∧ Rng B y.2.2.2.2.1 y.2.2.2.2.2.1 ∧ LoopS kv op l j rb (altsLoopK kn al) (altsLK kn al r) y.2.2.2.2.1 y.2.2.2.2.2.1 y.1 y.2.1 y.2.2.1 y.2.2.2.1) (fun y : Nat × List UInt8 × List Nd × List N3 × (Nat → Nat) × World × Value => y.1) (n0, r0, ts0, [x], O3, w3, lv) (⟨hx3, hrow3, Nat.le_refl _, hone0, hUt3, hR3, hS0⟩) ⟨rfl, rfl, rfl, trivial⟩ rfl ?_
  rintro ⟨n, r1, ts, xs, O4, w4, lv4⟩ ⟨hx4, hrow4, hlen4, hone4, hU4, hR4, hS4⟩
  dsimp only at hx4 hrow4 hlen4 hone4 hU4 hR4 hS4 ⊢
  rcases hS4 with ⟨hb4, hr4, hn4, hc4, hl4, ht4, hF4⟩ | ⟨p, e, a, op', hM, he, hb4, hbd1, hbd2, hbd3, hbd4⟩
  · have hq4 := (skipB_suf r1).trans hr4
    have hqle := skipB_le r1
    obtain ⟨m, rfl⟩ : ∃ m, n = m + 1 := ⟨n - 1, by omega⟩
    have hU' : altsLoopK kn al (m + 1) ts r1 = if (skipB r1).headD 0 = 124 then ((seqK kn al (skipB r1).tail).andThen fun t r2 => altsLoopK kn al m (ts ++ [t]) r2) else .ok (oneM 5 ts) (skipB r1) := rfl
    refine WC.seq ?_
    refine WC.seq ?_
    refine WC.region ?_
    refine WL.v (RV.move rfl) rfl ?_
    refine WL.v (RV.nilPtr rfl) rfl ?_
    refine WL.v (RV.fieldAddr 5 Tryz.underlying125 rfl rfl (Tryz.sizeOf27 _) (by decide) rfl) rfl ?_
    refine WL.v (RV.load (by first | exact hb4.r0 | exact hb4.r1 | exact hb4.r2 | exact hb4.r3 | exact hb4.r4 | exact hb4.r5) (Tryz.isAgg27 _) rfl) rfl ?_
    refine WL.v (RV.eql rfl rfl) rfl ?_
    refine WL.v (RV.move rfl) rfl ?_
    refine WL.know (d := 12) rfl (b' := true) (rfl) ?_
    refine WL.on rfl ?_
    refine WL.v (RV.move rfl) rfl ?_
    refine WL.on rfl ?_
    refine WL.v (RV.nilPtr rfl) rfl ?_
    refine WL.on rfl ?_
    refine WL.v (RV.fieldAddr 0 Tryz.underlying125 rfl rfl (Tryz.sizeOf123 _) (by decide) rfl) rfl ?_
    refine WL.on rfl ?_
    refine WL.call Tryz.call82 rfl (peek_ret O4 w4 j rb l r1 op 0 0 hj hr4 (by omega) hb4) rfl ?_
    rintro v w5 ⟨rfl, hb5, hU5⟩
    have hx5 := hx4.upd hU5 (by omega) (by omega)
    have hrow5 := hrow4.upd hU5 (by omega) (by omega)
    have hR5 := hR4.upd hU5
    have hUt5 := hU4.trans (hU5.pj hT0)
    have ht5 : ∀ i, i < xs.length → Nt O4 w5 (nth ts i) (nth xs i) := fun i hi => (ht4 i hi).upd hU5
    refine WL.on rfl ?_
    refine WL.v (RV.eql rfl rfl) rfl ?_
    refine WL.v (RV.pickT rfl rfl) rfl ?_
    refine WL.nil ?_
    refine QF.seqNext ?_
    by_cases hc : (skipB r1).headD 0 = 124
    · rw [if_pos hc] at hU'
      obtain ⟨k1, k2⟩ := tail_good (r := skipB r1) (by rw [hc]; decide)
      have hq4l := hq4.length_le
      refine WC.condT rfl ((by rw [hc]; rfl)) ?_
      refine WC.skip ?_
      refine QF.seqNext ?_
      refine WC.block ?_
      refine WC.seq ?_
      refine WC.region ?_
      refine WL.v (RV.move rfl) rfl ?_
      refine WL.v (RV.nilPtr rfl) rfl ?_
      refine WL.v (RV.fieldAddr 0 Tryz.underlying125 rfl rfl (Tryz.sizeOf123 _) (by decide) rfl) rfl ?_
      refine WL.v (RV.fieldAddr 1 Tryz.underlying123 rfl rfl (Tryz.sizeOf3 _) (by decide) rfl) rfl ?_
      refine WL.v (RV.load (by first | exact hb5.r0 | exact hb5.r1 | exact hb5.r2 | exact hb5.r3 | exact hb5.r4 | exact hb5.r5) (Tryz.isAgg3 _) rfl) rfl ?_
      refine WL.v (RV.add rfl rfl (Fit.i64 (by omega))) rfl ?_
      refine WL.v (RV.nilPtr rfl) rfl ?_
      refine WL.v (RV.fieldAddr 0 Tryz.underlying125 rfl rfl (Tryz.sizeOf123 _) (by decide) rfl) rfl ?_
      refine WL.v (RV.fieldAddr 1 Tryz.underlying123 rfl rfl (Tryz.sizeOf3 _) (by decide) rfl) rfl ?_
      refine WL.storeBlk (j := 1) hb5 rfl (Tryz.sizeOf3 _) rfl rfl rfl rfl ?_
      rw [show ((l.length : Int) - ((skipB r1).length : Int)) + 1 = (l.length : Int) - ((skipB r1).tail.length : Int) from by omega]
      have hb5a := BlkO.rAt hb5 ((l.length : Int) - ((skipB r1).tail.length : Int))
      have hU5a : Upd (fun k => k = j) O4 w5 O4 (World.setCell w5 ⟨rb, 1, none⟩ (.int .i64 ((l.length : Int) - ((skipB r1).tail.length : Int)))) := Upd.set (fun e => hj e.symm) (BlkO.tag hb5) rfl
      have hx5a := hx5.upd hU5a (by omega) (by omega)
      have hrow5a := hrow5.upd hU5a (by omega) (by omega)
      have hR5a := hR5.upd hU5a
      have hUt5a := hUt5.trans (hU5a.pj hT0)
      generalize World.setCell w5 ⟨rb, 1, none⟩ (.int .i64 ((l.length : Int) - ((skipB r1).tail.length : Int))) = w5a at *
      refine WL.nil ?_
      refine QF.seqNext ?_
      refine WC.region ?_
      refine WL.v (RV.move rfl) rfl ?_
      refine WL.v (RV.move rfl) rfl ?_
      refine WL.call Tryz.call101 rfl (seq_ret al op hop ha hg B O4 j rb l (skipB r1).tail w5a hR5a hj (k1.trans hq4) hl trivial hb5a (hkn.upd hUt5a)) rfl ?_
      rintro v w6 ⟨x6, rfl, hU6, hP6⟩
      have hxo6 := hP6.one
      have hx6 := hx5a.upd hU6 (by omega) (by omega)
      have hrow6 := hrow5a.upd hU6 (by omega) (by omega)
      have hR6 := hR5a.upd hU6
      have hUt6 := hUt5a.trans (hU6.pj hT0)
      refine WL.push elN hrow6 hR6 (x6) (fun _ => rfl) rfl rfl rfl (enc_one hxo6) (by omega) (by omega) (by omega) (by decide) rfl rfl ?_
      intro lv7 w7 O7 hrow7 hU7 hR7
      obtain ⟨n', r', ts', hlt, hS7⟩ := LoopS.next (F := altsLoopK kn al) hP6 (seqK_good (kn := kn) hg _) (k1.trans hq4) (by omega) hn4 hc4 hl4 (fun i hi => ((ht5 i hi).upd hU5a).upd hU6) hF4 hU'
      refine WL.v (RV.assign rfl) rfl ?_
      refine WL.nil ?_
      refine QF.blockNormal ?_
      refine QF.next ((n', r', ts', xs ++ [x6], O7, w7, lv7)) (⟨hx6.upd hU7 (by omega) (by omega), hrow7, by simp, fun i hi => ?_, hUt6.trans (hU7.pT hj hT0 (Nat.le_succ _)), hR7, hS7.upd hU7 hj (by omega)⟩) (hlt) ⟨rfl, rfl, rfl, trivial⟩ rfl
      simp only [List.length_append, List.length_singleton] at hi
      by_cases e : i < xs.length
      · rw [nth_eq (by simp; omega), List.getElem_append_left e, ← nth_eq e]; exact hone4 i e
      · obtain rfl : i = xs.length := by omega
        rw [nth_eq (by simp)]; simpa using hxo6
    · rw [if_neg hc] at hU'
      refine WC.condF rfl ((byteBeq _ 124 (by decide) hc)) ?_
      refine WC.exit ?_
      refine QF.thenExit ?_
      refine QF.thenExit ?_
      refine QF.blockHit ?_
      refine QF.seqNext ?_
      refine WC.seq ?_
      refine WC.region ?_
      refine WL.v (RV.move rfl) rfl ?_
      refine WL.call Tryz.call102 rfl (one_ret 5 xs lv4 w5 hrow5.sl hone4) rfl ?_
      rintro v wo ⟨rfl, hEo⟩
      have hXo : Upd (fun _ => False) O4 w5 O4 wo := Upd.of_ext (fun h => h) O4 hEo
      have hxo5 := BlkO.upd hx5 hXo (by omega) (fun h => h)
      have hrowo := RowT.upd hrow5 hXo (by omega) (fun h => h)
      have hRo := Rng.upd hR5 hXo
      have hxo : (if xs.length = 1 then nth xs 0 else (5, 0, lv4) : N3).2.2.oneCell' = true := by
        split
        · exact hone4 0 (by omega)
        · exact hrowo.one
      refine WL.storeAgg (us := #[.int .i64 (if xs.length = 1 then nth xs 0 else (5, 0, lv4) : N3).1, .int .i64 (if xs.length = 1 then nth xs 0 else (5, 0, lv4) : N3).2.1, (if xs.length = 1 then nth xs 0 else (5, 0, lv4) : N3).2.2]) hxo5 rfl (Tryz.sizeOf48 _) (nv_ok hxo) rfl rfl rfl ?_
      have hxd := BlkO.setRow (us := #[.int .i64 (if xs.length = 1 then nth xs 0 else (5, 0, lv4) : N3).1, .int .i64 (if xs.length = 1 then nth xs 0 else (5, 0, lv4) : N3).2.1, (if xs.length = 1 then nth xs 0 else (5, 0, lv4) : N3).2.2]) hxo5
      have hUd : Upd (fun k => k = T) O4 wo O4 (World.setRow wo xb #[.int .i64 (if xs.length = 1 then nth xs 0 else (5, 0, lv4) : N3).1, .int .i64 (if xs.length = 1 then nth xs 0 else (5, 0, lv4) : N3).2.1, (if xs.length = 1 then nth xs 0 else (5, 0, lv4) : N3).2.2]) := Upd.setRow (by omega) (BlkO.tag hxo5) rfl
      have hUy := hUt5.trans (Upd.pE O4 hEo hj hT0)
      have hUz := hUy.trans (hUd.pT hj hT0 (Nat.le_refl _))
      refine WL.nil ?_
      refine QF.seqNext ?_
      refine WC.ret ?_
      refine QF.doneC1 rfl rfl (hxd.cellsAdd) (Tryz.isAgg48 _) (Tryz.sizeOf48 _) (⟨(if xs.length = 1 then nth xs 0 else (5, 0, lv4)), rfl, hUz.priv hT hj, ?_⟩)
      have hbo := (BlkO.upd hb5 hXo hj (fun h => h)).upd hUd hj (by omega)
      rw [← hF4, hU']
      exact ⟨hbo.fgt h.tag, Nt.oneM (hrowo.upd hUd (by omega) (by omega)) (Nat.le_succ T) hT0 hT (hRo.upd hUd) hUz hl4 (fun i hi => ((ht5 i hi).upd hXo).upd hUd) hlen4⟩
  · replace hb4 : BlkO O4 w4 j rb (rdr kv l a op' ((l.length : Int) - (p : Int)) e) 125 := hb4
    refine WC.seq ?_
    refine WC.seq ?_
    refine WC.region ?_
    refine WL.v (RV.move rfl) rfl ?_
    refine WL.v (RV.nilPtr rfl) rfl ?_
    refine WL.v (RV.fieldAddr 5 Tryz.underlying125 rfl rfl (Tryz.sizeOf27 _) (by decide) rfl) rfl ?_
    refine WL.v (RV.load (by first | exact hb4.r0 | exact hb4.r1 | exact hb4.r2 | exact hb4.r3 | exact hb4.r4 | exact hb4.r5) (Tryz.isAgg27 _) rfl) rfl ?_
    refine WL.v (RV.eql rfl rfl) rfl ?_
    refine WL.v (RV.move rfl) rfl ?_
    refine WL.know (d := 12) rfl (b' := false) ((by simpa using he)) ?_
    refine WL.off rfl rfl rfl ?_
    refine WL.off rfl rfl rfl ?_
    refine WL.off rfl rfl rfl ?_
    refine WL.off rfl rfl rfl ?_
    refine WL.off rfl rfl rfl ?_
    refine WL.v (RV.pickF rfl rfl) rfl ?_
    refine WL.nil ?_
    refine QF.seqNext ?_
    refine WC.condF rfl rfl ?_
    refine WC.exit ?_
    refine QF.thenExit ?_
    refine QF.thenExit ?_
    refine QF.blockHit ?_
    refine QF.seqNext ?_
    refine WC.seq ?_
    refine WC.region ?_
    refine WL.v (RV.move rfl) rfl ?_
    refine WL.call Tryz.call102 rfl (one_ret 5 xs lv4 w4 hrow4.sl hone4) rfl ?_
    rintro v wo ⟨rfl, hEo⟩
    have hXo : Upd (fun _ => False) O4 w4 O4 wo := Upd.of_ext (fun h => h) O4 hEo
    have hxo5 := BlkO.upd hx4 hXo (by omega) (fun h => h)
    have hrowo := RowT.upd hrow4 hXo (by omega) (fun h => h)
    have hRo := Rng.upd hR4 hXo
    have hxo : (if xs.length = 1 then nth xs 0 else (5, 0, lv4) : N3).2.2.oneCell' = true := by
      split
      · exact hone4 0 (by omega)
      · exact hrowo.one
    refine WL.storeAgg (us := #[.int .i64 (if xs.length = 1 then nth xs 0 else (5, 0, lv4) : N3).1, .int .i64 (if xs.length = 1 then nth xs 0 else (5, 0, lv4) : N3).2.1, (if xs.length = 1 then nth xs 0 else (5, 0, lv4) : N3).2.2]) hxo5 rfl (Tryz.sizeOf48 _) (nv_ok hxo) rfl rfl rfl ?_
    have hxd := BlkO.setRow (us := #[.int .i64 (if xs.length = 1 then nth xs 0 else (5, 0, lv4) : N3).1, .int .i64 (if xs.length = 1 then nth xs 0 else (5, 0, lv4) : N3).2.1, (if xs.length = 1 then nth xs 0 else (5, 0, lv4) : N3).2.2]) hxo5
    have hUd : Upd (fun k => k = T) O4 wo O4 (World.setRow wo xb #[.int .i64 (if xs.length = 1 then nth xs 0 else (5, 0, lv4) : N3).1, .int .i64 (if xs.length = 1 then nth xs 0 else (5, 0, lv4) : N3).2.1, (if xs.length = 1 then nth xs 0 else (5, 0, lv4) : N3).2.2]) := Upd.setRow (by omega) (BlkO.tag hxo5) rfl
    have hUy := hU4.trans (Upd.pE O4 hEo hj hT0)
    have hUz := hUy.trans (hUd.pT hj hT0 (Nat.le_refl _))
    refine WL.nil ?_
    refine QF.seqNext ?_
    refine WC.ret ?_
    refine QF.doneC1 rfl rfl (hxd.cellsAdd) (Tryz.isAgg48 _) (Tryz.sizeOf48 _) (⟨(if xs.length = 1 then nth xs 0 else (5, 0, lv4)), rfl, hUz.priv hT hj, ?_⟩)
    have hbo := (BlkO.upd hb4 hXo hj (fun h => h)).upd hUd hj (by omega)
    rw [hM]
    exact ⟨hxo, a, op', hbo.fgt h.tag, hbd1, hbd2, hbd3, hbd4⟩
theorem alts_reads : ∀ (d : Nat), d ≤ 20 → Reads kv kn 81 [] (20 - (d : Int)) (altsK kn d) (fun _ => True)
  | 0, h => alts_ret none _ (by omega) (show (20 : Int) - ((0 : Nat) : Int) = 20 by omega) (fun f e => by cases e)
  | d + 1, h => by
    have ih := alts_reads d (by omega)
    rw [show (20 : Int) - (d : Int) = (20 - ((d + 1 : Nat) : Int)) + 1 from by omega] at ih
    exact alts_ret (some (altsK kn d)) _ (by omega) ⟨by omega, ih⟩ (fun f e r => by cases e; exact altsK_good (kn := kn) d r)
end Go.Proofs.YtmohcfjopaccdaaGreatDoor
