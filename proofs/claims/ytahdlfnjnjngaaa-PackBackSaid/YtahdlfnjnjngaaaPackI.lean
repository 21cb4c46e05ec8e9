/- Chapter 12: PackFits, walked. -/
import Derived.Test.YtahdlfnjnjngaaaPackH
import Derived.Test.YtahdlfnjnjngaaaPackP
namespace Go.Proofs.Ytahdlfnjnjngaaa
open Go.VL Go.Proofs

theorem count_le_length {α : Type} (l : List α) (p : α → Bool) : l.countP p ≤ l.length := List.countP_le_length
theorem usedOf_take (l : List Int) (k : Nat) (hk : k < l.length) : usedOf (l.take (k + 1)) = usedOf (l.take k) + (if 0 ≤ nth l k then 1 else 0) := by
  simp only [usedOf]; rw [take_nth hk, List.countP_append]
  by_cases h : 0 ≤ nth l k <;> simp [isTaken, h]
theorem diffOf_take (l : List Int) (u : Int) (k : Nat) (hk : k < l.length) : diffOf (l.take (k + 1)) u = diffOf (l.take k) u + (if nth l k = u then 0 else 1) := by
  simp only [diffOf]; rw [take_nth hk, List.countP_append]
  by_cases h : nth l k = u <;> simp [h]
theorem otherTo_le (L : List (List Int)) (us : List Int) (hw : ∀ r ∈ L, r.length ≤ 64) : ∀ k, k ≤ L.length → otherTo L us k ≤ 64 * k := by
  intro k
  induction k with
  | zero => intro _; simp [otherTo]
  | succ k ih =>
    intro hk
    have h1 := ih (by omega)
    have h2 := hw _ (nth_mem (l := L) (j := k) (by omega))
    have h3 : diffOf (nth L k) (nth us k) ≤ (nth L k).length := List.countP_le_length
    rw [otherTo_succ]; omega

theorem packBad_false {width : Int} {L : List (List Int)} (h : packBad width L = false) : 1 ≤ width ∧ width ≤ 64 ∧ L.length ≤ 1000 ∧ (∀ r ∈ L, (r.length : Int) = width) ∧ ∀ r ∈ L, r.length ≤ 64 := by
  have h2 : (!packBad width L) = true := by rw [h]; rfl
  rw [packBad_eq, Bool.and_eq_true] at h2
  simp only [wOk, Bool.and_eq_true, decide_eq_true_eq] at h2
  have h3 : ∀ r ∈ L, (r.length : Int) = width := fun r hr => by
    have := List.all_eq_true.1 h2.2 r hr
    rw [badRow_eq, Bool.and_eq_true] at this
    simpa using this.1
  exact ⟨by omega, by omega, by omega, h3, fun r hr => by have := h3 r hr; omega⟩

theorem packFits_ret (width : Int) (L : List (List Int)) (rv : Value) (w : World) (h : Rows w rv L) :
    Ret Try.prog 3 [.int .i64 width, rv] w fun v w' => v = .bool true ∧ Ext w w' := by
  refine Ret.enter Try.func3 Try.ntmps3 rfl rfl ?_
  refine WC.seq ?_
  refine WC.region ?_
  refine WL.v (RV.assign rfl) rfl ?_
  refine WL.nil ?_
  refine QF.seqNext ?_
  refine WC.seq ?_
  refine WC.seq ?_
  refine WC.region ?_
  refine WL.v (RV.move rfl) rfl ?_
  refine WL.call Try.call8 rfl (great_ret L rv w h) rfl ?_
  rintro v _ ⟨rfl, rfl⟩
  refine WL.v (RV.move rfl) rfl ?_
  cases hg : great30 L with
  | true =>
    refine WL.know (d := 14) rfl (b' := true) (rfl) ?_
    refine WL.off rfl rfl rfl ?_
    refine WL.off rfl rfl rfl ?_
    refine WL.v (RV.pickT rfl rfl) rfl ?_
    refine WL.nil ?_
    refine QF.seqNext ?_
    refine WC.condT rfl rfl ?_
    refine WC.seq ?_
    refine WC.region ?_
    refine WL.call Try.call9 rfl (awake_ret w) rfl ?_
    rintro v w1 ⟨rfl, hE1⟩
    refine WL.v (RV.assign rfl) rfl ?_
    refine WL.nil ?_
    refine QF.seqNext ?_
    refine WC.ret ?_
    refine QF.thenRet ?_
    refine QF.done1 rfl rfl (⟨rfl, hE1⟩)
  | false =>
    refine WL.know (d := 14) rfl (b' := false) (rfl) ?_
    refine WL.on rfl ?_
    refine WL.call Try.call9 rfl (awake_ret w) rfl ?_
    rintro v w1 ⟨rfl, hE1⟩
    refine WL.on rfl ?_
    refine WL.v (RV.not rfl) rfl ?_
    refine WL.v (RV.pickF rfl rfl) rfl ?_
    refine WL.nil ?_
    refine QF.seqNext ?_
    refine WC.condF rfl (rfl) ?_
    refine WC.skip ?_
    refine QF.seqNext ?_
    refine WC.seq ?_
    refine WC.region ?_
    refine WL.v (RV.move rfl) rfl ?_
    refine WL.v (RV.move rfl) rfl ?_
    refine WL.call Try.call10 rfl (pack_ret width L rv w1 (h.ext hE1)) rfl ?_
    rintro v w2 ⟨pv, er, rfl, hp, her, hE2⟩
    have hE := hE1.trans hE2
    obtain ⟨rvs, hr, hrl, hri⟩ := h.ext hE
    obtain ⟨uv, bv, kv, nv, rfl, hu, hb, hk, hn⟩ := hp
    refine WL.v (RV.move rfl) rfl ?_
    refine WL.v (RV.extract rfl rfl) rfl ?_
    refine WL.v (RV.extract rfl rfl) rfl ?_
    refine WL.allocO (Rng.start w2) 1 (by omega) (Try.zeroValue27 _) rfl ?_
    intro x3 w3 O3 hx3 hU3 hR3 hE3
    generalize hq0 : (if packBad width L then (⟨0, [], [], [], []⟩ : PSt) else packM width L) = q at *
    refine WL.storeAgg (us := #[.int .i64 q.width, uv, bv, kv, nv]) hx3 rfl (Try.sizeOf27 _) (by simp only [List.all_cons, hu.one, hb.one, hk.one, hn.one]; rfl) rfl rfl rfl ?_
    have hx4 := hx3.setRow (us := #[.int .i64 q.width, uv, bv, kv, nv])
    have hE4 : Ext w2 (w3.setRow x3 #[.int .i64 q.width, uv, bv, kv, nv]) := (hU3.trans (Upd.setRow (by decide) hx3.tag rfl)).ext
    generalize w3.setRow x3 #[.int .i64 q.width, uv, bv, kv, nv] = w4 at *
    have hE5 := hE.trans hE4
    have c1 : ∀ w', Ext w4 w' → w'.cell? ⟨x3, 1, none⟩ = some uv := fun w' e => e.cell (hx4.cell 1 rfl)
    have c2 : ∀ w', Ext w4 w' → w'.cell? ⟨x3, 2, none⟩ = some bv := fun w' e => e.cell (hx4.cell 2 rfl)
    have c3 : ∀ w', Ext w4 w' → w'.cell? ⟨x3, 3, none⟩ = some kv := fun w' e => e.cell (hx4.cell 3 rfl)
    have c4 : ∀ w', Ext w4 w' → w'.cell? ⟨x3, 4, none⟩ = some nv := fun w' e => e.cell (hx4.cell 4 rfl)
    refine WL.v (RV.assign rfl) rfl ?_
    refine WL.nil ?_
    refine QF.seqNext ?_
    refine WC.seq ?_
    refine WC.seq ?_
    refine WC.region ?_
    refine WL.v (RV.move rfl) rfl ?_
    refine WL.v (RV.neq rfl rfl) rfl ?_
    refine WL.nil ?_
    refine QF.seqNext ?_
    refine WC.cond rfl ?_ ?_
    · intro hne
      have hbad : packBad width L = true := by
        cases hb : packBad width L with
        | true => rfl
        | false => rw [her, hb] at hne; simp at hne
      refine WC.seq ?_
      refine WC.region ?_
      refine WL.v (RV.move rfl) rfl ?_
      refine WL.v (RV.move rfl) rfl ?_
      refine WL.call Try.call11 rfl (right12_ret width L rv w4 (h.ext hE5)) rfl ?_
      rintro v _ ⟨rfl, rfl⟩
      refine WL.v (RV.not rfl) rfl ?_
      refine WL.v (RV.assign rfl) rfl ?_
      refine WL.nil ?_
      refine QF.seqNext ?_
      refine WC.ret ?_
      refine QF.thenRet ?_
      refine QF.done1 rfl rfl (⟨by rw [hbad]; rfl, hE5⟩)
    · intro heq
      have hbad : packBad width L = false := by
        cases hb : packBad width L with
        | false => rfl
        | true => rw [her, hb] at heq; simp at heq
      obtain ⟨hw1, hw2, hL, hrows, hrw⟩ := packBad_false hbad
      rw [hbad, if_neg Bool.false_ne_true] at hq0
      obtain ⟨s1, s2, s3, s4, s5, s6, s7⟩ := packM_spec width L hrw
      rw [hq0] at s1 s2 s3 s4 s5 s6 s7
      have hus : q.usual.length = L.length := by rw [s1]; simp
      replace hu := hu.ext hE4
      replace hb := hb.ext hE4
      replace hk := hk.ext hE4
      replace hn := hn.ext hE4
      replace hr := hr.ext hE4
      refine WC.skip ?_
      refine QF.seqNext ?_
      refine WC.seq ?_
      refine WC.seq ?_
      refine WC.region ?_
      refine WL.v (RV.fieldAddr 1 Try.underlying27 rfl rfl (Try.sizeOf25 _) (by decide) rfl) rfl ?_
      refine WL.v (RV.load (by first | exact c1 _ (Ext.refl _) | exact c2 _ (Ext.refl _) | exact c3 _ (Ext.refl _) | exact c4 _ (Ext.refl _)) (Try.isAgg25 _) rfl) rfl ?_
      refine WL.v (RV.len (by first | exact hu | exact hb | exact hk | exact hn | exact hr) Try.underlying25 rfl) rfl ?_
      refine WL.v (RV.move rfl) rfl ?_
      refine WL.v (RV.len (by first | exact hu | exact hb | exact hk | exact hn | exact hr) Try.underlying22 rfl) rfl ?_
      refine WL.v (RV.neq rfl rfl) rfl ?_
      refine WL.v (RV.move rfl) rfl ?_
      refine WL.know (d := 37) rfl (b' := false) (by rw [hus, hrl]; simp) ?_
      refine WL.on rfl ?_
      refine WL.v (RV.fieldAddr 2 Try.underlying27 rfl rfl (Try.sizeOf25 _) (by decide) rfl) rfl ?_
      refine WL.on rfl ?_
      refine WL.v (RV.load (by first | exact c1 _ (Ext.refl _) | exact c2 _ (Ext.refl _) | exact c3 _ (Ext.refl _) | exact c4 _ (Ext.refl _)) (Try.isAgg25 _) rfl) rfl ?_
      refine WL.on rfl ?_
      refine WL.v (RV.len (by first | exact hu | exact hb | exact hk | exact hn | exact hr) Try.underlying25 rfl) rfl ?_
      refine WL.on rfl ?_
      refine WL.v (RV.move rfl) rfl ?_
      refine WL.on rfl ?_
      refine WL.v (RV.len (by first | exact hu | exact hb | exact hk | exact hn | exact hr) Try.underlying22 rfl) rfl ?_
      refine WL.on rfl ?_
      refine WL.v (RV.neq rfl rfl) rfl ?_
      refine WL.v (RV.pickF rfl rfl) rfl ?_
      refine WL.v (RV.move rfl) rfl ?_
      refine WL.know (d := 45) rfl (b' := false) (by rw [s2, hrl]; simp) ?_
      refine WL.on rfl ?_
      refine WL.v (RV.fieldAddr 3 Try.underlying27 rfl rfl (Try.sizeOf25 _) (by decide) rfl) rfl ?_
      refine WL.on rfl ?_
      refine WL.v (RV.load (by first | exact c1 _ (Ext.refl _) | exact c2 _ (Ext.refl _) | exact c3 _ (Ext.refl _) | exact c4 _ (Ext.refl _)) (Try.isAgg25 _) rfl) rfl ?_
      refine WL.on rfl ?_
      refine WL.v (RV.len (by first | exact hu | exact hb | exact hk | exact hn | exact hr) Try.underlying25 rfl) rfl ?_
      refine WL.on rfl ?_
      refine WL.v (RV.fieldAddr 4 Try.underlying27 rfl rfl (Try.sizeOf25 _) (by decide) rfl) rfl ?_
      refine WL.on rfl ?_
      refine WL.v (RV.load (by first | exact c1 _ (Ext.refl _) | exact c2 _ (Ext.refl _) | exact c3 _ (Ext.refl _) | exact c4 _ (Ext.refl _)) (Try.isAgg25 _) rfl) rfl ?_
      refine WL.on rfl ?_
      refine WL.v (RV.len (by first | exact hu | exact hb | exact hk | exact hn | exact hr) Try.underlying25 rfl) rfl ?_
      refine WL.on rfl ?_
      refine WL.v (RV.neq rfl rfl) rfl ?_
      refine WL.v (RV.pickF rfl rfl) rfl ?_
      refine WL.nil ?_
      refine QF.seqNext ?_
      refine WC.condF rfl (by rw [s3]; simp) ?_
      refine WC.skip ?_
      refine QF.seqNext ?_
      refine WC.seq ?_
      refine WC.region ?_
      refine WL.v (RV.assign rfl) rfl ?_
      refine WL.v (RV.assign rfl) rfl ?_
      refine WL.nil ?_
      refine QF.seqNext ?_
      refine WC.seq ?_
      refine WC.seq ?_
      refine WC.region ?_
      refine WL.v (RV.assign rfl) rfl ?_
      refine WL.nil ?_
      refine QF.seqNext ?_
      refine WC.block ?_
      have hkl : q.check.length ≤ 64000 := by omega
      refine WC.loop (fun k : Nat => [(0, .int .i64 width), (1, rv), (5, .pointer (some ⟨x3, 0, none⟩)), (7, .int .i64 (usedOf (q.check.take k))), (8, .int .i64 0), (9, .int .i64 k)]) (fun k : Nat => w4) (fun k : Nat => k ≤ q.check.length) (fun k : Nat => q.check.length - k) 0 (Nat.zero_le _) ⟨rfl, rfl, rfl, rfl, rfl, rfl, trivial⟩ rfl ?_
      intro k hkk
      refine WC.seq ?_
      refine WC.seq ?_
      refine WC.region ?_
      refine WL.v (RV.move rfl) rfl ?_
      refine WL.v (RV.fieldAddr 3 Try.underlying27 rfl rfl (Try.sizeOf25 _) (by decide) rfl) rfl ?_
      refine WL.v (RV.load (by first | exact c1 _ (Ext.refl _) | exact c2 _ (Ext.refl _) | exact c3 _ (Ext.refl _) | exact c4 _ (Ext.refl _)) (Try.isAgg25 _) rfl) rfl ?_
      refine WL.v (RV.len (by first | exact hu | exact hb | exact hk | exact hn | exact hr) Try.underlying25 rfl) rfl ?_
      refine WL.v (RV.lss rfl rfl) rfl ?_
      refine WL.nil ?_
      refine QF.seqNext ?_
      refine WC.cond rfl ?_ ?_
      · intro hlt
        replace hlt : k < q.check.length := by have := of_decide_eq_true hlt; omega
        have hut : usedOf (q.check.take k) ≤ k := by have := count_le_length (q.check.take k) isTaken; simp at this; unfold usedOf; omega
        have hus1 := usedOf_take q.check k hlt
        refine WC.skip ?_
        refine QF.seqNext ?_
        refine WC.seq ?_
        refine WC.block ?_
        refine WC.seq ?_
        refine WC.region ?_
        refine WL.v (RV.fieldAddr 3 Try.underlying27 rfl rfl (Try.sizeOf25 _) (by decide) rfl) rfl ?_
        refine WL.v (RV.load (by first | exact c3 _ (Ext.refl _) | exact hk.ld (by omega)) (Try.isAgg25 _) rfl) rfl ?_
        refine WL.v (RV.move rfl) rfl ?_
        refine WL.v (RV.indexAddr (by first | exact hu | exact hb | exact hk | exact hn | exact hr) Try.underlying25 (Try.sizeOf3 _) rfl rfl _ rfl (by omega)) rfl ?_
        refine WL.v (RV.load (by first | exact c3 _ (Ext.refl _) | exact hk.ld (by omega)) (Try.isAgg3 _) rfl) rfl ?_
        refine WL.v (RV.geq rfl rfl) rfl ?_
        refine WL.nil ?_
        refine QF.seqNext ?_
        refine WC.cond rfl ?_ ?_
        · intro hy
          replace hy : 0 ≤ nth q.check k := of_decide_eq_true hy
          rw [if_pos hy] at hus1
          refine WC.region ?_
          refine WL.v (RV.move rfl) rfl ?_
          refine WL.v (RV.add rfl rfl (Fit.i64 (by omega))) rfl ?_
          refine WL.v (RV.assign rfl) rfl ?_
          refine WL.nil ?_
          refine QF.blockNormal ?_
          refine QF.seqNext ?_
          refine WC.region ?_
          refine WL.v (RV.move rfl) rfl ?_
          refine WL.v (RV.add rfl rfl (Fit.i64 (by omega))) rfl ?_
          refine WL.v (RV.assign rfl) rfl ?_
          refine WL.nil ?_
          refine QF.next (k + 1) hlt (by omega) ⟨rfl, rfl, rfl, ?_, rfl, rfl, trivial⟩ rfl
          rw [hus1]; rfl
        · intro hy
          replace hy : ¬ 0 ≤ nth q.check k := of_decide_eq_false hy
          rw [if_neg hy] at hus1
          refine WC.skip ?_
          refine QF.blockNormal ?_
          refine QF.seqNext ?_
          refine WC.region ?_
          refine WL.v (RV.move rfl) rfl ?_
          refine WL.v (RV.add rfl rfl (Fit.i64 (by omega))) rfl ?_
          refine WL.v (RV.assign rfl) rfl ?_
          refine WL.nil ?_
          refine QF.next (k + 1) hlt (by omega) ⟨rfl, rfl, rfl, ?_, rfl, rfl, trivial⟩ rfl
          rw [hus1]; rfl
      · intro hge
        replace hge : q.check.length ≤ k := by have := of_decide_eq_false hge; omega
        rw [List.take_of_length_le hge, s6]
        refine WC.exit ?_
        refine QF.thenExit ?_
        refine QF.thenExit ?_
        refine QF.blockHit ?_
        refine QF.seqNext ?_
        refine WC.seq ?_
        refine WC.seq ?_
        refine WC.region ?_
        refine WL.v (RV.assign rfl) rfl ?_
        refine WL.nil ?_
        refine QF.seqNext ?_
        refine WC.block ?_
        refine WC.loop (fun x : Nat × World => [(0, .int .i64 width), (1, rv), (5, .pointer (some ⟨x3, 0, none⟩)), (7, .int .i64 (otherTo L q.usual L.length)), (8, .int .i64 (otherTo L q.usual x.1)), (10, .int .i64 x.1)]) (fun x : Nat × World => x.2) (fun x : Nat × World => x.1 ≤ L.length ∧ Ext w4 x.2) (fun x : Nat × World => L.length - x.1) (0, w4) (⟨Nat.zero_le _, Ext.refl _⟩) ⟨rfl, rfl, rfl, rfl, rfl, rfl, trivial⟩ rfl ?_
        rintro ⟨i, w5⟩ ⟨hi, hE6⟩
        dsimp only at hi hE6 ⊢
        refine WC.seq ?_
        refine WC.seq ?_
        refine WC.region ?_
        refine WL.v (RV.move rfl) rfl ?_
        refine WL.v (RV.move rfl) rfl ?_
        refine WL.v (RV.len (by first | exact hr.ext hE6) Try.underlying22 rfl) rfl ?_
        refine WL.v (RV.lss rfl rfl) rfl ?_
        refine WL.nil ?_
        refine QF.seqNext ?_
        refine WC.cond rfl ?_ ?_
        · intro hlt
          replace hlt : i < L.length := by have := of_decide_eq_true hlt; omega
          have hio := otherTo_le L q.usual hrw i hi
          have hrl2 := hrows _ (nth_mem hlt)
          have hrl3 := hrw _ (nth_mem hlt)
          refine WC.skip ?_
          refine QF.seqNext ?_
          refine WC.seq ?_
          refine WC.block ?_
          refine WC.seq ?_
          refine WC.region ?_
          refine WL.v (RV.assign rfl) rfl ?_
          refine WL.nil ?_
          refine QF.seqNext ?_
          refine WC.block ?_
          refine WC.loop (fun y : Nat × World => [(0, .int .i64 width), (1, rv), (5, .pointer (some ⟨x3, 0, none⟩)), (7, .int .i64 (otherTo L q.usual L.length)), (8, .int .i64 ((otherTo L q.usual i + diffOf ((nth L i).take y.1) (nth q.usual i) : Nat) : Int)), (10, .int .i64 i), (11, .int .i64 y.1)]) (fun y : Nat × World => y.2) (fun y : Nat × World => y.1 ≤ (nth L i).length ∧ Ext w4 y.2) (fun y : Nat × World => (nth L i).length - y.1) (0, w5) (⟨Nat.zero_le _, hE6⟩) ⟨rfl, rfl, rfl, rfl, rfl, rfl, rfl, trivial⟩ rfl ?_
          rintro ⟨c, w6⟩ ⟨hc, hE7⟩
          dsimp only at hc hE7 ⊢
          have hr6 := hr.ext hE7
          have hri6 := ((hri i hlt).ext hE4).ext hE7
          have hu6 := hu.ext hE7
          refine WC.seq ?_
          refine WC.seq ?_
          refine WC.region ?_
          refine WL.v (RV.move rfl) rfl ?_
          refine WL.v (RV.move rfl) rfl ?_
          refine WL.v (RV.lss rfl rfl) rfl ?_
          refine WL.nil ?_
          refine QF.seqNext ?_
          refine WC.cond rfl ?_ ?_
          · intro hltc
            replace hltc : c < (nth L i).length := by have := of_decide_eq_true hltc; omega
            have hd := diffOf_take (nth L i) (nth q.usual i) c hltc
            have hdl : diffOf ((nth L i).take c) (nth q.usual i) ≤ c := by have := count_le_length ((nth L i).take c) (fun n => n != nth q.usual i); simp at this; unfold diffOf; omega
            refine WC.skip ?_
            refine QF.seqNext ?_
            refine WC.seq ?_
            refine WC.block ?_
            refine WC.seq ?_
            refine WC.still (by kernel_rfl) (by kernel_rfl) ?_
            refine WS.v (RV.move rfl) rfl ?_
            refine WS.v (RV.move rfl) rfl ?_
            refine WS.v (RV.indexAddr (by first | exact (hr6).drew | exact (hri6).drew | exact (hu6).drew) Try.underlying22 (Try.sizeOf25 _) rfl rfl _ rfl (by omega)) rfl ?_
            refine WS.v (RV.load (by first | exact c1 _ hE7.drew | exact hr6.ld (by omega) | exact hri6.ld (by omega) | exact hu6.ld (by omega)) (Try.isAgg25 _) rfl) rfl ?_
            refine WS.v (RV.move rfl) rfl ?_
            refine WS.v (RV.indexAddr (by first | exact (hr6).drew | exact (hri6).drew | exact (hu6).drew) Try.underlying25 (Try.sizeOf3 _) rfl rfl _ rfl (by omega)) rfl ?_
            refine WS.v (RV.load (by first | exact c1 _ hE7.drew | exact hr6.ld (by omega) | exact hri6.ld (by omega) | exact hu6.ld (by omega)) (Try.isAgg3 _) rfl) rfl ?_
            refine WS.v (RV.fieldAddr 1 Try.underlying27 rfl rfl (Try.sizeOf25 _) (by decide) rfl) rfl ?_
            refine WS.v (RV.load (by first | exact c1 _ hE7.drew | exact hr6.ld (by omega) | exact hri6.ld (by omega) | exact hu6.ld (by omega)) (Try.isAgg25 _) rfl) rfl ?_
            refine WS.v (RV.move rfl) rfl ?_
            refine WS.v (RV.indexAddr (by first | exact (hr6).drew | exact (hri6).drew | exact (hu6).drew) Try.underlying25 (Try.sizeOf3 _) rfl rfl _ rfl (by omega)) rfl ?_
            refine WS.v (RV.load (by first | exact c1 _ hE7.drew | exact hr6.ld (by omega) | exact hri6.ld (by omega) | exact hu6.ld (by omega)) (Try.isAgg3 _) rfl) rfl ?_
            refine WS.v (RV.neq rfl rfl) rfl ?_
            refine WS.nil ?_
            refine QF.seqNext ?_
            refine WC.cond rfl ?_ ?_
            · intro hy
              replace hy : nth (nth L i) c ≠ nth q.usual i := by simpa using hy
              rw [if_neg hy] at hd
              refine WC.region ?_
              refine WL.v (RV.move rfl) rfl ?_
              refine WL.v (RV.add rfl rfl (Fit.i64 (by omega))) rfl ?_
              refine WL.v (RV.assign rfl) rfl ?_
              refine WL.nil ?_
              refine QF.blockNormal ?_
              refine QF.seqNext ?_
              refine WC.region ?_
              refine WL.v (RV.move rfl) rfl ?_
              refine WL.v (RV.add rfl rfl (Fit.i64 (by omega))) rfl ?_
              refine WL.v (RV.assign rfl) rfl ?_
              refine WL.nil ?_
              refine QF.next (c + 1, w6.drew) ⟨hltc, hE7.drew⟩ (by dsimp only; omega) ⟨rfl, rfl, rfl, rfl, ?_, rfl, rfl, trivial⟩ rfl
              dsimp only
              rw [hd]; rfl
            · intro hy
              replace hy : nth (nth L i) c = nth q.usual i := by simpa using hy
              rw [if_pos hy] at hd
              refine WC.skip ?_
              refine QF.blockNormal ?_
              refine QF.seqNext ?_
              refine WC.region ?_
              refine WL.v (RV.move rfl) rfl ?_
              refine WL.v (RV.add rfl rfl (Fit.i64 (by omega))) rfl ?_
              refine WL.v (RV.assign rfl) rfl ?_
              refine WL.nil ?_
              refine QF.next (c + 1, w6.drew) ⟨hltc, hE7.drew⟩ (by dsimp only; omega) ⟨rfl, rfl, rfl, rfl, ?_, rfl, rfl, trivial⟩ rfl
              dsimp only
              rw [hd]; rfl
          · intro hgec
            replace hgec : (nth L i).length ≤ c := by have := of_decide_eq_false hgec; omega
            rw [List.take_of_length_le hgec, ← otherTo_succ]
            refine WC.exit ?_
            refine QF.thenExit ?_
            refine QF.thenExit ?_
            refine QF.blockHit ?_
            refine QF.blockNormal ?_
            refine QF.seqNext ?_
            refine WC.region ?_
            refine WL.v (RV.move rfl) rfl ?_
            refine WL.v (RV.add rfl rfl (Fit.i64 (by omega))) rfl ?_
            refine WL.v (RV.assign rfl) rfl ?_
            refine WL.nil ?_
            refine QF.next ((i + 1, w6)) (⟨hlt, hE7⟩) (by omega) ⟨rfl, rfl, rfl, rfl, rfl, rfl, trivial⟩ rfl
        · intro hgei
          obtain rfl : i = L.length := by have := of_decide_eq_false hgei; omega
          have hk7 := hk.ext hE6
          refine WC.exit ?_
          refine QF.thenExit ?_
          refine QF.thenExit ?_
          refine QF.blockHit ?_
          refine QF.seqNext ?_
          refine WC.seq ?_
          refine WC.region ?_
          refine WL.v (RV.move rfl) rfl ?_
          refine WL.v (RV.move rfl) rfl ?_
          refine WL.v (RV.eql rfl rfl) rfl ?_
          refine WL.v (RV.move rfl) rfl ?_
          refine WL.know (d := 98) rfl (b' := true) (by simp) ?_
          refine WL.on rfl ?_
          refine WL.v (RV.fieldAddr 3 Try.underlying27 rfl rfl (Try.sizeOf25 _) (by decide) rfl) rfl ?_
          refine WL.on rfl ?_
          refine WL.v (RV.load (by first | exact c3 _ hE6) (Try.isAgg25 _) rfl) rfl ?_
          refine WL.on rfl ?_
          refine WL.v (RV.len (by first | exact hk7) Try.underlying25 rfl) rfl ?_
          refine WL.on rfl ?_
          refine WL.v (RV.eql rfl rfl) rfl ?_
          refine WL.on rfl ?_
          refine WL.v (RV.move rfl) rfl ?_
          by_cases he : q.check = []
          · skip
            refine WL.know (d := 103) rfl (b' := true) (by rw [he]; rfl) ?_
            refine WL.off rfl rfl rfl ?_
            refine WL.off rfl rfl rfl ?_
            refine WL.off rfl rfl rfl ?_
            refine WL.off rfl rfl rfl ?_
            refine WL.off rfl rfl rfl ?_
            refine WL.off rfl rfl rfl ?_
            refine WL.off rfl rfl rfl ?_
            refine WL.off rfl rfl rfl ?_
            refine WL.off rfl rfl rfl ?_
            refine WL.on rfl ?_
            refine WL.v (RV.pickT rfl rfl) rfl ?_
            refine WL.v (RV.pickT rfl rfl) rfl ?_
            refine WL.v (RV.assign rfl) rfl ?_
            refine WL.nil ?_
            refine QF.seqNext ?_
            refine WC.ret ?_
            refine QF.done1 rfl rfl (⟨rfl, hE5.trans hE6⟩)
          · have hpos : 0 < q.check.length := by rcases hq : q.check with _ | ⟨a, l⟩; exact absurd hq he; simp
            have hlast := s7.resolve_left he
            refine WL.know (d := 103) rfl (b' := false) (by simpa using he) ?_
            refine WL.on rfl ?_
            refine WL.v (RV.fieldAddr 3 Try.underlying27 rfl rfl (Try.sizeOf25 _) (by decide) rfl) rfl ?_
            refine WL.on rfl ?_
            refine WL.v (RV.load (by first | exact c3 _ hE6) (Try.isAgg25 _) rfl) rfl ?_
            refine WL.on rfl ?_
            refine WL.v (RV.fieldAddr 3 Try.underlying27 rfl rfl (Try.sizeOf25 _) (by decide) rfl) rfl ?_
            refine WL.on rfl ?_
            refine WL.v (RV.load (by first | exact c3 _ hE6) (Try.isAgg25 _) rfl) rfl ?_
            refine WL.on rfl ?_
            refine WL.v (RV.len (by first | exact hk7) Try.underlying25 rfl) rfl ?_
            refine WL.on rfl ?_
            refine WL.v (RV.sub rfl rfl (Fit.i64 (by omega))) rfl ?_
            refine WL.on rfl ?_
            refine WL.v (RV.indexAddr hk7 Try.underlying25 (Try.sizeOf3 _) rfl rfl (q.check.length - 1) (by omega) (by omega)) rfl ?_
            refine WL.on rfl ?_
            refine WL.v (RV.load (by first | exact hk7.ld (by omega)) (Try.isAgg3 _) rfl) rfl ?_
            refine WL.on rfl ?_
            refine WL.v (RV.geq rfl rfl) rfl ?_
            refine WL.on rfl ?_
            refine WL.v (RV.pickF rfl rfl) rfl ?_
            refine WL.v (RV.pickT rfl rfl) rfl ?_
            refine WL.v (RV.assign rfl) rfl ?_
            refine WL.nil ?_
            refine QF.seqNext ?_
            refine WC.ret ?_
            refine QF.done1 rfl rfl (⟨by rw [decide_eq_true hlast], hE5.trans hE6⟩)
end Go.Proofs.Ytahdlfnjnjngaaa
