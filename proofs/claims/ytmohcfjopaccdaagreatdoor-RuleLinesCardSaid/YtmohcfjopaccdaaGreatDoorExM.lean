/- Package expr, walked: named. -/
import Derived.Test.YtmohcfjopaccdaaGreatDoorExD
namespace Go.Proofs.YtmohcfjopaccdaaGreatDoor
open Go.VL Go.Proofs
set_option maxRecDepth 10000
variable {kv : Value} {kn : Kn}

theorem cells_from {w : World} {b : Nat} {us vs : List Value} (k : Nat) (h : ∀ (j : Nat) (u : Value), us[j]? = some u → w.cell? ((⟨b, 0, none⟩ : Addr).add j) = some u) (hv : ∀ (q : Nat) (u : Value), vs[q]? = some u → us[k + q]? = some u) : ∀ (q : Nat) (u : Value), vs[q]? = some u → w.cell? (((⟨b, 0, none⟩ : Addr).add k).add q) = some u := fun q u hu => by
  have h1 := h (k + q) u (hv q u hu)
  have e : (((⟨b, 0, none⟩ : Addr).add k).add q) = ((⟨b, 0, none⟩ : Addr).add (k + q)) := by
    simp only [Addr.add]; (repeat' split) <;> simp_all [Nat.add_assoc]
  rw [e]; exact h1
theorem KnownM.ex {O : Nat → Nat} {w : World} {ms : List M3} (h : KnownM O w kv kn ms) : Known O w kv kn := ⟨ms, h⟩
theorem mac_one {O : Nat → Nat} {w : World} {ms : List M3} (h : KnownM O w kv kn ms) {x : M3} (hx : x ∈ ms.reverse) : (encM x).toArray.toList.all Value.oneCell' = true := by
  obtain ⟨i, hi, e⟩ := List.getElem_of_mem (List.mem_reverse.1 hx)
  have h1 := (h.2.2.2 i hi).2.one
  rw [nth_eq hi, e] at h1
  simp only [encM, List.all_cons, h1]; rfl
theorem find_none {α : Type} [Inhabited α] {p : α → Bool} {l : List α} (h : ∀ q, q < l.length → p (nth l q) = false) : l.find? p = none := by
  rw [List.find?_eq_none]
  intro x hx
  obtain ⟨i, hi, rfl⟩ := List.getElem_of_mem hx
  have := h i hi
  rw [nth_eq hi] at this
  rw [this]; decide
theorem find_at {α : Type} [Inhabited α] {p : α → Bool} : ∀ {l : List α} {k : Nat}, k < l.length → (∀ q, q < k → p (nth l q) = false) → p (nth l k) = true → l.find? p = some (nth l k)
  | [], k, hk, _, _ => absurd hk (by simp)
  | a :: l, 0, _, _, hp => by rw [nth_cons0] at hp ⊢; rw [List.find?_cons, hp]
  | a :: l, k + 1, hk, h, hp => by
    have h0 := h 0 (by omega)
    rw [nth_cons0] at h0
    rw [nth_cons] at hp ⊢
    rw [List.find?_cons, h0]
    exact find_at (by simpa using hk) (fun q hq => by have := h (q + 1) (by omega); rwa [nth_cons] at this) hp
theorem nth_rev {α : Type} [Inhabited α] {l : List α} {i : Nat} (h : i < l.length) : nth l.reverse i = nth l (l.length - 1 - i) := by
  rw [nth_eq (by rw [List.length_reverse]; exact h), rev_at]
theorem named_ret (op : Int) (hop : 0 ≤ op ∧ op ≤ 20) : Reads kv kn 141 [] op (namedK kn) (fun r => letterB (r.headD 0) = true) := by
  intro B O j rb l r w hR hj hr hl hpre h hkn
  obtain ⟨T, hT0, hT⟩ := hR.bound
  have hjT : j < T := by rw [← h.tag]; exact hT rb
  have hrl := hr.length_le
  refine Ret.enterM Tryz.func141 Tryz.ntmps141 rfl rfl ?_
  refine WI.seq ?_
  refine WI.region (by first | exact .inl rfl | exact .inr rfl) (fun _ _ h => h) ?_
  refine WL.allocO hR T (by omega) (Tryz.zeroValue48 _) rfl ?_
  intro xb w1 O1 hx1 hU1 hR1 hE1
  have hb1 := h.upd hU1 hj (by omega)
  refine WL.nil ?_
  refine QF.dn ?_
  refine QI.seqNext ?_
  refine WI.seq ?_
  refine WI.region (by first | exact .inl rfl | exact .inr rfl) (fun _ _ h => h) ?_
  refine WL.v (RV.move rfl) rfl ?_
  refine WL.v (RV.nilPtr rfl) rfl ?_
  refine WL.v (RV.fieldAddr 0 Tryz.underlying125 rfl rfl (Tryz.sizeOf123 _) (by decide) rfl) rfl ?_
  refine WL.v (RV.fieldAddr 1 Tryz.underlying123 rfl rfl (Tryz.sizeOf3 _) (by decide) rfl) rfl ?_
  refine WL.v (RV.load (by first | exact hb1.r0 | exact hb1.r1 | exact hb1.r2 | exact hb1.r3 | exact hb1.r4 | exact hb1.r5) (Tryz.isAgg3 _) rfl) rfl ?_
  refine WL.v (RV.assign rfl) rfl ?_
  refine WL.nil ?_
  refine QF.dn ?_
  refine QI.seqNext ?_
  refine WI.seq ?_
  refine WI.region (by first | exact .inl rfl | exact .inr rfl) (fun _ _ h => h) ?_
  refine WL.v (RV.move rfl) rfl ?_
  refine WL.v (RV.nilPtr rfl) rfl ?_
  refine WL.v (RV.fieldAddr 0 Tryz.underlying125 rfl rfl (Tryz.sizeOf123 _) (by decide) rfl) rfl ?_
  refine WL.call Tryz.call146 rfl (name_ret O1 w1 j rb l r op 0 0 hj hr (by omega) hb1) rfl ?_
  rintro v w2 ⟨rfl, hb2, hU2⟩
  have hx2 := hx1.upd hU2 (by omega) (by omega)
  have hR2 := hR1.upd hU2
  have hUt := (hU1.pT hj hT0 (Nat.le_refl _)).trans (hU2.pj hT0)
  refine WL.allocO hR2 (T + 1) (by omega) (Tryz.zeroValue9 _) rfl ?_
  intro sb w3 O3 hs3 hU3 hR3 hE3
  refine WL.storeBlk (j := 0) hs3 rfl (Tryz.sizeOf9 _) rfl rfl rfl rfl ?_
  have hs4 := hs3.set 0 (.string (bs (r.takeWhile letterB)))
  have hU4 : Upd (fun k => k = T + 1) O3 w3 O3 (w3.setCell ⟨sb, 0, none⟩ (.string (bs (r.takeWhile letterB)))) := Upd.set (by omega) hs3.tag rfl
  have hU34 := hU3.trans hU4
  have hx4 := hx2.upd hU34 (by omega) (by omega)
  have hb4 := hb2.upd hU34 hj (by omega)
  have hR4 := hR2.upd hU34
  have hUt4 := hUt.trans (hU34.pT hj hT0 (Nat.le_succ _))
  generalize w3.setCell ⟨sb, 0, none⟩ (.string (bs (r.takeWhile letterB))) = w4 at *
  refine WL.nil ?_
  refine QF.dn ?_
  refine QI.seqNext ?_
  refine WI.seq ?_
  refine WI.seq ?_
  refine WI.region (by first | exact .inl rfl | exact .inr rfl) (fun _ _ h => h) ?_
  refine WL.v (RV.load (by first | exact hs4.cell 0 rfl) (Tryz.isAgg9 _) rfl) rfl ?_
  refine WL.v (RV.eqlS rfl rfl) rfl ?_
  refine WL.nil ?_
  refine QF.dn ?_
  refine QI.seqNext ?_
  by_cases ha : r.takeWhile letterB = [97, 110, 121]
  · have hM : namedK kn r = .ok (.mk 1 0 []) (r.dropWhile letterB) := by unfold namedK; rw [if_pos ha]
    refine WI.condT rfl ((by rw [ha]; rfl)) ?_
    refine WI.seq ?_
    refine WI.region (by first | exact .inl rfl | exact .inr rfl) (fun _ _ h => h) ?_
    refine WL.v (RV.buildF pl48 (Tryz.zeroValue48 _) rfl (by first | rfl | (simp only [List.all_cons, List.all_nil]; rfl)) rfl rfl) rfl ?_
    refine WL.storeAgg (us := (#[.int .i64 1, .int .i64 0, .slice none 0 0])) hx4 rfl (Tryz.sizeOf48 _) rfl rfl rfl rfl ?_
    have hx5 := BlkO.setRow (us := (#[.int .i64 1, .int .i64 0, .slice none 0 0])) hx4
    have hU5 : Upd (fun k => k = T) O3 w4 O3 (World.setRow w4 xb (#[.int .i64 1, .int .i64 0, .slice none 0 0])) := Upd.setRow (by omega) (BlkO.tag hx4) rfl
    have hb5 := BlkO.upd hb4 hU5 hj (by omega)
    refine WL.nil ?_
    refine QF.dn ?_
    refine QI.seqNext ?_
    refine WI.ret ?_
    refine QI.thenRet ?_
    refine QI.leave (Leave.doneC1 rfl rfl hx5.cellsAdd (Tryz.isAgg48 _) (Tryz.sizeOf48 _) ⟨(1, 0, .slice none 0 0), rfl, (hUt4.trans (hU5.pT hj hT0 (Nat.le_refl _))).priv hT hj, ?_⟩)
    rw [hM]
    exact ⟨hb5.fgt h.tag, Nt.leaf _ _ _ _⟩
  · skip
    obtain ⟨ms, hk4⟩ := hkn.upd hUt4
    obtain ⟨qa, qc, hkv, _⟩ := hk4.1.shape
    have hlen := hk4.1.len_le
    have hkl : kn.length = ms.length := hk4.2.2.1
    refine WI.condF rfl ((by simpa using ha)) ?_
    subst hkv
    refine WI.skip ?_
    refine QI.seqNext ?_
    refine WI.seq ?_
    refine WI.seq ?_
    refine WI.region (by first | exact .inl rfl | exact .inr rfl) (fun _ _ h => h) ?_
    refine WL.v (RV.move rfl) rfl ?_
    refine WL.v (RV.nilPtr rfl) rfl ?_
    refine WL.v (RV.fieldAddr 2 Tryz.underlying125 rfl rfl (Tryz.sizeOf54 _) (by decide) rfl) rfl ?_
    refine WL.v (RV.load (by first | exact hb4.r0 | exact hb4.r1 | exact hb4.r2 | exact hb4.r3 | exact hb4.r4 | exact hb4.r5) (Tryz.isAgg54 _) rfl) rfl ?_
    refine WL.call Tryz.call147 rfl (backward_ret qa ms.length qc w4) rfl ?_
    rintro v w5 ⟨b, rfl, hbc, hbn, hE5⟩
    have hX5 : Upd (fun _ => False) O3 w4 O3 w5 := Upd.of_ext (fun h => h) O3 hE5
    have hx5 := hx4.upd hX5 (by omega) (fun h => h)
    have hs5 := hs4.upd hX5 (by omega) (fun h => h)
    have hb5 := hb4.upd hX5 hj (fun h => h)
    have hR5 := hR4.upd hX5
    have hk5 := hk4.upd hX5
    have hUt5 := hUt4.trans (Upd.pE O3 hE5 hj hT0)
    have hf5 : Fixed O3 w5 ⟨b, 0, none⟩ (.slice qa ms.length qc) := ⟨hbc, Classical.byContradiction fun hne => by have := (hR4.rng b hne).2; omega⟩
    generalize hkv : Value.slice qa ms.length qc = kv at *
    generalize hsw : r.takeWhile letterB = sw at *
    have hpO : ∀ {S : Nat → Prop} {O' O2 : Nat → Nat} {W W' : World}, Upd S O' W O2 W' → (∀ k, S k → T ≤ k) → Upd (fun k => k = j ∨ T ≤ k) O' W O2 W' := fun h hS => h.mono (fun k hk => .inr (hS k hk)) (fun e => by rcases e with e | e; exact hj e.symm; omega)
    refine WL.nil ?_
    refine QF.dn ?_
    refine QI.seqNext ?_
    refine WI.block ?_
    refine WI.rangeFunc2 (L := T + 2) (K := T + 3) rfl Tryz.call148 (backward1_iter kv ms b) rfl rfl rfl (fun W => Tryz.zeroValue95 W) hR5 (by omega) (by omega) (by omega) (fun W O' pb y x hx ops Q' hb h => WL.storeAgg (us := (encM x).toArray) hb rfl (Tryz.sizeOf95 _) (mac_one hk5 hx) rfl rfl rfl (h _ hb.setRow (Upd.setRow (by omega) hb.tag rfl))) (fun k O' W => Upd (fun p => p = j ∨ T ≤ p) O w O' W ∧ BlkO O' W T xb #[.int .i64 0, .int .i64 0, .slice none 0 0] 48 ∧ BlkO O' W (T + 1) sb #[.string (bs sw)] 9 ∧ Rdr kv O' W j rb l ((l.length : Int) - ((r.dropWhile letterB).length : Int)) op 0 0 ∧ Fixed O' W ⟨b, 0, none⟩ kv ∧ KnownM O' W kv kn ms ∧ ∀ q, q < k → mayM sw (nth kn.reverse q) = false) (fun c O' W => c = .ret ∧ Upd (fun p => p = j ∨ T ≤ p) O w O' W ∧ Rdr kv O' W j rb l ((l.length : Int) - ((r.dropWhile letterB).length : Int)) op 0 0 ∧ ∃ m x, kn.reverse.find? (mayM sw) = some m ∧ Nt O' W m.2 x ∧ BlkO O' W T xb #[.int .i64 x.1, .int .i64 x.2.1, x.2.2] 48) (fun i O' W O2 W' ⟨h1, h2, h3, h4, h5, h6, h7⟩ hU => ⟨h1.trans (hpO hU (fun k hk => by omega)), h2.upd hU (by omega) (by omega), h3.upd hU (by omega) (by omega), h4.upd hU hj (by omega), h5.upd hU, h6.upd hU, h7⟩) (fun c O' W O2 W' ⟨h1, h2, h3, m, x, h4, h5, h6⟩ hU => ⟨h1, h2.trans (hpO hU (fun k hk => by omega)), h3.upd hU hj (by omega), m, x, h4, h5.upd hU, h6.upd hU (by omega) (by omega)⟩) (fun i O' W ⟨_, _, _, _, h5, h6, _⟩ => ⟨h5.cell, h6.1⟩) ⟨hUt5, hx5, hs5, hb5, hf5, hk5, fun q hq => absurd hq (by omega)⟩ ?_ ?_ ?_
    · rintro lp i hi pb O6 w6 hR6 ⟨hU6, hx6, hs6, hb6, hf6, hk6, hno6⟩ hpb
      rw [List.length_reverse] at hi
      have hib : ms.length - 1 - i < ms.length := by omega
      obtain ⟨m, hmd⟩ : ∃ m, m = nth ms (ms.length - 1 - i) := ⟨_, rfl⟩
      obtain ⟨g1, g2⟩ := hk6.2.2.2 _ hib
      replace hpb : BlkO O6 w6 (T + 3) pb (encM m).toArray 95 := by have := hpb; rw [rev_at, ← hmd] at this; exact this
      rw [← hmd] at g1 g2
      have hkm : nth kn.reverse i = nth kn (ms.length - 1 - i) := by rw [nth_rev (by omega), hkl]
      have hnx : mayM sw (nth kn.reverse i) = false → ∀ q, q < i + 1 → mayM sw (nth kn.reverse q) = false := fun h q hq => by
        by_cases e : q = i
        · rw [e]; exact h
        · exact hno6 q (by omega)
      have hmay : mayM sw (nth kn.reverse i) = ((m.1 == sw && rightM (nth kn (ms.length - 1 - i)).2) && ((nth kn (ms.length - 1 - i)).2.kind != 9)) := by
        unfold mayM; rw [hkm, g1]
      have hkd : m.2.1 = (nth kn (ms.length - 1 - i)).2.kind := g2.kind
      generalize nth kn (ms.length - 1 - i) = km at *
      have hc0 := hpb.cell 0 rfl
      have hz : Upd (fun p => p ≠ 0 ∧ p ≠ T + 2) O6 w6 O6 w6 := Upd.refl (by omega) _ _
      refine WI.block ?_
      refine WI.seq ?_
      refine WI.region (by first | exact .inl rfl | exact .inr rfl) (fun _ _ h => h) ?_
      refine WL.v (RV.fieldAddr 0 Tryz.underlying95 rfl rfl (Tryz.sizeOf9 _) (by decide) rfl) rfl ?_
      refine WL.v (RV.load (by first | exact hpb.cell 0 rfl | exact hs6.cell 0 rfl) (Tryz.isAgg9 _) rfl) rfl ?_
      refine WL.v (RV.load (by first | exact hpb.cell 0 rfl | exact hs6.cell 0 rfl) (Tryz.isAgg9 _) rfl) rfl ?_
      refine WL.v (RV.eqlS rfl rfl) rfl ?_
      refine WL.v (RV.move rfl) rfl ?_
      cases h1 : (m.1 == sw) with
      | false =>
        rw [h1] at hmay
        refine WL.know (d := 30) rfl (b' := false) (rfl) ?_
        refine WL.off rfl rfl rfl ?_
        refine WL.off rfl rfl rfl ?_
        refine WL.off rfl rfl rfl ?_
        refine WL.v (RV.pickF rfl rfl) rfl ?_
        refine WL.v (RV.move rfl) rfl ?_
        refine WL.off rfl rfl rfl ?_
        refine WL.off rfl rfl rfl ?_
        refine WL.off rfl rfl rfl ?_
        refine WL.off rfl rfl rfl ?_
        refine WL.v (RV.pickF rfl rfl) rfl ?_
        refine WL.nil ?_
        refine QF.dn ?_
        refine QI.seqNext ?_
        refine WI.condF rfl rfl ?_
        refine WI.skip ?_
        refine QI.blockNormal ?_
        exact QI.roundNext O6 hz ⟨hU6, hx6, hs6, hb6, hf6, hk6, hnx (by rw [hmay]; rfl)⟩
      | true =>
        rw [h1] at hmay
        refine WL.know (d := 30) rfl (b' := true) (rfl) ?_
        have hcm : ∀ W : World, (∀ (j : Nat) (u : Value), (encM m)[j]? = some u → W.cell? ((⟨pb, 0, none⟩ : Addr).add j) = some u) → ∀ (q : Nat) (u : Value), (encN m.2)[q]? = some u → W.cell? (((⟨pb, 0, none⟩ : Addr).add 1).add q) = some u := fun W h => cells_from (us := encM m) 1 h (fun q u hu => by rw [Nat.add_comm]; exact hu)
        refine WL.on rfl ?_
        refine WL.v (RV.fieldAddr 1 Tryz.underlying95 rfl rfl (Tryz.sizeOf48 _) (by decide) rfl) rfl ?_
        refine WL.on rfl ?_
        refine WL.v (RV.loadAgg (us := encN m.2) (hcm _ hpb.cellsAdd) (Tryz.isAgg48 _) (Tryz.sizeOf48 _) rfl) rfl ?_
        refine WL.on rfl ?_
        refine WL.call Tryz.call49 rfl (right_ret km.2 m.2 w6 g2.zero) rfl ?_
        rintro v w7 ⟨rfl, hE7⟩
        have hX7 : Upd (fun _ => False) O6 w6 O6 w7 := Upd.of_ext (fun h => h) O6 hE7
        have hx7 := hx6.upd hX7 (by omega) (fun h => h)
        have hs7 := hs6.upd hX7 (by omega) (fun h => h)
        have hb7 := hb6.upd hX7 hj (fun h => h)
        have hp7 := hpb.upd hX7 (by omega) (fun h => h)
        have hR7 := hR6.upd hX7
        have hk7 := hk6.upd hX7
        have hf7 := hf6.upd hX7
        have hn7 := g2.upd hX7
        have hU7 := hU6.trans (Upd.pE O6 hE7 hj hT0)
        have hz7 : Upd (fun p => p ≠ 0 ∧ p ≠ T + 2) O6 w6 O6 w7 := hX7.mono (fun _ h => h.elim) (by omega)
        refine WL.v (RV.pickT rfl rfl) rfl ?_
        refine WL.v (RV.move rfl) rfl ?_
        cases h2 : rightM km.2 with
        | false =>
          rw [h2] at hmay
          refine WL.know (d := 35) rfl (b' := false) (rfl) ?_
          refine WL.off rfl rfl rfl ?_
          refine WL.off rfl rfl rfl ?_
          refine WL.off rfl rfl rfl ?_
          refine WL.off rfl rfl rfl ?_
          refine WL.v (RV.pickF rfl rfl) rfl ?_
          refine WL.nil ?_
          refine QF.dn ?_
          refine QI.seqNext ?_
          refine WI.condF rfl rfl ?_
          refine WI.skip ?_
          refine QI.blockNormal ?_
          exact QI.roundNext O6 hz7 ⟨hU7, hx7, hs7, hb7, hf7, hk7, hnx (by rw [hmay]; rfl)⟩
        | true =>
          rw [h2] at hmay
          refine WL.know (d := 35) rfl (b' := true) (rfl) ?_
          have hc1 : w7.cell? (((⟨pb, 0, none⟩ : Addr).add 1).add 0) = some (.int .i64 m.2.1) := hcm _ hp7.cellsAdd 0 _ rfl
          refine WL.on rfl ?_
          refine WL.v (RV.fieldAddr 1 Tryz.underlying95 rfl rfl (Tryz.sizeOf48 _) (by decide) rfl) rfl ?_
          refine WL.on rfl ?_
          refine WL.v (RV.fieldAddr 0 Tryz.underlying48 rfl rfl (Tryz.sizeOf3 _) (by decide) rfl) rfl ?_
          refine WL.on rfl ?_
          refine WL.v (RV.load (by first | exact hc1) (Tryz.isAgg3 _) rfl) rfl ?_
          refine WL.on rfl ?_
          refine WL.v (RV.neq rfl rfl) rfl ?_
          refine WL.v (RV.pickT rfl rfl) rfl ?_
          refine WL.nil ?_
          refine QF.dn ?_
          refine QI.seqNext ?_
          cases h3 : (km.2.kind != 9) with
          | false =>
            rw [h3] at hmay
            refine WI.condF rfl ((by rw [hkd]; exact h3)) ?_
            refine WI.skip ?_
            refine QI.blockNormal ?_
            exact QI.roundNext O6 hz7 ⟨hU7, hx7, hs7, hb7, hf7, hk7, hnx (by rw [hmay]; rfl)⟩
          | true =>
            rw [h3] at hmay
            refine WI.condT rfl ((by rw [hkd]; exact h3)) ?_
            have hxo := hn7.one
            refine WI.seq ?_
            refine WI.region (by first | exact .inl rfl | exact .inr rfl) (fun _ _ h => h) ?_
            refine WL.v (RV.fieldAddr 1 Tryz.underlying95 rfl rfl (Tryz.sizeOf48 _) (by decide) rfl) rfl ?_
            refine WL.v (RV.loadAgg (us := encN m.2) (hcm _ hp7.cellsAdd) (Tryz.isAgg48 _) (Tryz.sizeOf48 _) rfl) rfl ?_
            refine WL.storeAgg (us := #[.int .i64 m.2.1, .int .i64 m.2.2.1, m.2.2.2]) hx7 rfl (Tryz.sizeOf48 _) (nv_ok hxo) rfl rfl rfl ?_
            have hx8 := hx7.setRow (us := #[.int .i64 m.2.1, .int .i64 m.2.2.1, m.2.2.2])
            have hU8 : Upd (fun k => k = T) O6 w7 O6 (w7.setRow xb #[.int .i64 m.2.1, .int .i64 m.2.2.1, m.2.2.2]) := Upd.setRow (by omega) hx7.tag rfl
            refine WL.nil ?_
            refine QF.dn ?_
            refine QI.seqNext ?_
            refine WI.ret ?_
            refine QI.blockRet ?_
            exact QI.roundRet O6 (hz7.trans (hU8.mono (fun _ h => by omega) (by omega))) ⟨rfl, hU7.trans (hU8.pT hj hT0 (Nat.le_refl _)), hb7.upd hU8 hj (by omega), _, m.2, by rw [find_at (by rw [List.length_reverse]; omega) hno6 (by rw [hmay]; rfl), hkm], hn7.upd hU8, hx8⟩
    · rintro D O6 w6 hR6 hD6 ⟨hU6, hx6, hs6, hb6, hf6, hk6, hno6⟩ hm
      have hM : namedK kn r = classM 0 r := by
        exact namedK_none (by rw [hsw]; exact ha) (by rw [hsw]; exact find_none (fun q hq => hno6 q (by simp at hq ⊢; omega)))
      have hUt6 := hU6
      refine QI.blockNormal ?_
      refine QI.seqNext ?_
      refine WI.seq ?_
      refine WI.region (by first | exact .inl rfl | exact .inr rfl) (fun _ _ h => h) ?_
      refine WL.v (RV.move rfl) rfl ?_
      refine WL.v (RV.move rfl) rfl ?_
      refine WL.v (RV.nilPtr rfl) rfl ?_
      refine WL.v (RV.fieldAddr 0 Tryz.underlying125 rfl rfl (Tryz.sizeOf123 _) (by decide) rfl) rfl ?_
      refine WL.v (RV.fieldAddr 1 Tryz.underlying123 rfl rfl (Tryz.sizeOf3 _) (by decide) rfl) rfl ?_
      refine WL.storeBlk (j := 1) hb6 rfl (Tryz.sizeOf3 _) rfl rfl rfl rfl ?_
      have hb7 := hb6.rAt ((l.length : Int) - (r.length : Int))
      have hU7 : Upd (fun k => k = j) O6 w6 O6 (w6.setCell ⟨rb, 1, none⟩ (.int .i64 ((l.length : Int) - (r.length : Int)))) := Upd.set (fun e => hj e.symm) hb6.tag rfl
      have hx7 := hx6.upd hU7 (by omega) (by omega)
      have hR7 := hR6.upd hU7
      have hm7 := (hU7.blk D (heap_lt hm) (by omega)).trans hm
      have hUt7 := hUt6.trans (hU7.pj hT0)
      generalize w6.setCell ⟨rb, 1, none⟩ (.int .i64 ((l.length : Int) - (r.length : Int))) = w7 at *
      refine WL.nil ?_
      refine QF.dn ?_
      refine QI.seqNext ?_
      refine WI.seq ?_
      refine WI.region (by first | exact .inl rfl | exact .inr rfl) (fun _ _ h => h) ?_
      refine WL.v (RV.move rfl) rfl ?_
      refine WL.call Tryz.call142 rfl (class_ret 0 op hop B O6 j rb l r w7 hR7 hj hr hl trivial hb7 (hk6.upd hU7).ex) rfl ?_
      rintro v w8 ⟨x, rfl, hU8, hP8⟩
      have hx8 := hx7.upd hU8 (by omega) (by omega)
      have hm8 := (hU8.blk D (heap_lt hm7) (by omega)).trans hm7
      have hxo : x.2.2.oneCell' = true := by
        cases hc : classM 0 r with
        | ok t r' => rw [hc] at hP8; exact hP8.2.one
        | bad p e => rw [hc] at hP8; exact hP8.1
      refine WL.storeAgg (us := #[.int .i64 x.1, .int .i64 x.2.1, x.2.2]) hx8 rfl (Tryz.sizeOf48 _) (nv_ok hxo) rfl rfl rfl ?_
      have hx9 := hx8.setRow (us := #[.int .i64 x.1, .int .i64 x.2.1, x.2.2])
      have hU9 : Upd (fun k => k = T) O6 w8 O6 (w8.setRow xb #[.int .i64 x.1, .int .i64 x.2.1, x.2.2]) := Upd.setRow (by omega) hx8.tag rfl
      have hm9 := (hU9.blk D (heap_lt hm8) (by omega)).trans hm8
      have hUm : Upd (fun k => k = T + 2) O6 (w8.setRow xb #[.int .i64 x.1, .int .i64 x.2.1, x.2.2]) O6 ((w8.setRow xb #[.int .i64 x.1, .int .i64 x.2.1, x.2.2]).putObj D (.deferred none)) := Upd.putObj (by omega) hD6 _
      have hUe := (hU9.pT hj hT0 (Nat.le_refl _)).trans (hUm.pT hj hT0 (by omega))
      have hx10 := hx9.upd hUm (by omega) (by omega)
      refine WL.nil ?_
      refine QF.dn ?_
      refine QI.seqNext ?_
      refine WI.ret ?_
      refine QI.leave (Leave.mark hm9 (Leave.doneC1 rfl rfl hx10.cellsAdd (Tryz.isAgg48 _) (Tryz.sizeOf48 _) ⟨x, rfl, ((hUt7.trans (hU8.pj hT0)).trans hUe).priv hT hj, ?_⟩))
      rw [hM]
      cases hc : classM 0 r with
      | ok t r' =>
        rw [hc] at hP8
        exact ⟨((hP8.1.upd hU9 hj (by omega)).upd hUm hj (by omega)).fgt h.tag, (hP8.2.upd hUe).low (hUt7.trans (hU8.pj hT0))⟩
      | bad p e =>
        rw [hc] at hP8
        obtain ⟨h1, a, op', h2, h3⟩ := hP8
        exact ⟨h1, a, op', ((h2.upd hU9 hj (by omega)).upd hUm hj (by omega)).fgt h.tag, h3⟩
    · rintro D c O6 w6 hR6 hD6 ⟨rfl, hU6, hb6, m, x, hfd, hnx, hx6⟩ hm
      have hUm : Upd (fun k => k = T + 2) O6 w6 O6 (w6.putObj D (.deferred none)) := Upd.putObj (by omega) hD6 _
      have hUe := hU6.trans (hUm.pT hj hT0 (by omega))
      have hx7 := hx6.upd hUm (by omega) (by omega)
      refine WI.ret ?_
      refine QI.blockRet ?_
      refine QI.thenRet ?_
      refine QI.leave (Leave.mark hm (Leave.doneC1 rfl rfl hx7.cellsAdd (Tryz.isAgg48 _) (Tryz.sizeOf48 _) ⟨x, rfl, hUe.priv hT hj, ?_⟩))
      rw [namedK_some (by rw [hsw]; exact ha) (by rw [hsw]; exact hfd)]
      exact ⟨(hb6.upd hUm hj (by omega)).fgt h.tag, (hnx.upd hUm).low hUe⟩
end Go.Proofs.YtmohcfjopaccdaaGreatDoor
