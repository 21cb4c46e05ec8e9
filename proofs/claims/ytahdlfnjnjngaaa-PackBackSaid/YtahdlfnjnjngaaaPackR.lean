/- Chapter 12: what is packed is right; PackPacks, walked. -/
import Derived.Test.YtahdlfnjnjngaaaPackQ
namespace Go.Proofs.Ytahdlfnjnjngaaa
open Go.VL Go.Proofs

theorem ustep_mem (row : List Int) : ∀ (l : List Int) (b : Int), (l.foldl (ustep row) b = b) ∨ l.foldl (ustep row) b ∈ l
  | [], b => .inl rfl
  | n :: l, b => by
    simp only [List.foldl_cons]
    rcases ustep_mem row l (ustep row b n) with h | h
    · rw [h]; unfold ustep; split
      · right; simp
      · left; rfl
    · right; simp [h]
theorem usualM_mem (row : List Int) (h : 0 < row.length) : usualM row ∈ row := by
  rcases ustep_mem row row (nth row 0) with e | e
  · rw [usualM, e]; exact nth_mem h
  · exact e
theorem setAll_mem (f : Ent → Int) : ∀ (A : List Ent) (l : List Int) (n : Int), n ∈ setAll f A l → n ∈ l ∨ ∃ x ∈ A, n = f x
  | [], l, n, h => .inl h
  | x :: A, l, n, h => by
    rcases setAll_mem f A (l.set x.1 (f x)) n h with h | ⟨y, hy, he⟩
    · rcases List.mem_or_eq_of_mem_set h with h | h
      · exact .inl h
      · exact .inr ⟨x, by simp, h⟩
    · exact .inr ⟨y, by simp [hy], he⟩
theorem inB_of {lo hi : Int} {l : List Int} (h : ∀ n ∈ l, lo ≤ n ∧ n ≤ hi) : inB lo hi l = true := by
  rw [inB, List.all_eq_true]; intro n hn; have := h n hn; simp [this]
theorem of_inB {lo hi : Int} {l : List Int} (h : inB lo hi l = true) {n : Int} (hn : n ∈ l) : lo ≤ n ∧ n ≤ hi := by
  rw [inB, List.all_eq_true] at h; simpa using h n hn

theorem packM_inv (width : Int) (L : List (List Int)) (hw : ∀ r ∈ L, r.length ≤ 64) (hin : ∀ r ∈ L, inB 0 65535 r = true) : ∀ k, k ≤ L.length →
    let q := (L.take k).foldl PSt.lay ⟨width, [], [], [], []⟩
    ∃ A : List Ent, q.check = chkOf A ∧ q.next = nxtOf A ∧ q.base.length = k ∧ q.check.length ≤ 64 * k ∧ (∀ b ∈ q.base, 0 ≤ b ∧ b ≤ 64 * (k : Int)) ∧ ∀ x ∈ A, x.2.1 < k ∧ 0 ≤ x.2.2 ∧ x.2.2 ≤ 65535 := by
  intro k
  induction k with
  | zero => intro _; exact ⟨[], rfl, rfl, rfl, Nat.zero_le _, by simp, by simp⟩
  | succ k ih =>
    intro hk
    obtain ⟨A, h1, h2, h3, h4, h5, h6⟩ := ih (by omega)
    have hm := nth_mem (l := L) (j := k) (by omega)
    have hr := hin _ hm
    rw [take_nth (by omega), List.foldl_append]
    generalize (L.take k).foldl PSt.lay ⟨width, [], [], [], []⟩ = q at *
    simp only [List.foldl_cons, List.foldl_nil]
    generalize nth L k = row at *
    obtain ⟨e1, e2⟩ := lay_ents q A row h1 h2
    obtain ⟨l1, l2, l3, l4, l5⟩ := PSt.lay_spec q row (hw _ hm) (by rw [h1, h2, nxtOf_len, chkOf_len])
    obtain ⟨m1, m2, m3⟩ := lay_base q row
    have hb := (baseOf_spec q.check (colsOf row (usualM row))).2.1
    refine ⟨_, e1, e2, by omega, by omega, fun b hb2 => ?_, fun x hx => ?_⟩
    · rw [m1] at hb2
      rcases List.mem_append.1 hb2 with h | h
      · have := h5 b h; omega
      · simp only [List.mem_singleton] at h; subst h; omega
    · rcases List.mem_append.1 hx with h | h
      · have := h6 x h; omega
      · simp only [rowEnts, List.mem_map] at h
        obtain ⟨c, hc, rfl⟩ := h
        have := of_inB hr (nth_mem (colsTo_lt hc))
        exact ⟨by dsimp only; omega, this⟩

theorem rightM_pack (width : Int) (L : List (List Int)) (hbad : packBad width L = false) : rightM (packM width L) = true := by
  obtain ⟨hw1, hw2, hL, hrows, hrw⟩ := packBad_false hbad
  have hin : ∀ r ∈ L, inB 0 65535 r = true := fun r hr => by
    have h2 : (!packBad width L) = true := by rw [hbad]; rfl
    rw [packBad_eq, Bool.and_eq_true] at h2
    have := List.all_eq_true.1 h2.2 r hr
    rw [badRow_eq, Bool.and_eq_true] at this
    exact this.2
  obtain ⟨A, h1, h2, h3, h4, h5, h6⟩ := packM_inv width L hrw hin L.length (Nat.le_refl _)
  rw [List.take_length] at h1 h2 h3 h4 h5
  obtain ⟨s1, s2, s3, s4, s5, _, _⟩ := packM_spec width L hrw
  have hq : L.foldl PSt.lay ⟨width, [], [], [], []⟩ = packM width L := rfl
  rw [hq] at h1 h2 h3 h4 h5
  generalize packM width L = q at *
  have hus : q.usual.length = L.length := by rw [s1]; simp
  have b1 : inB 0 65535 q.usual = true := inB_of fun n hn => by
    rw [s1] at hn
    obtain ⟨r, hr, rfl⟩ := List.mem_map.1 hn
    exact of_inB (hin r hr) (usualM_mem r (by have := hrows r hr; omega))
  have b2 : inB 0 65535 q.base = true := inB_of fun n hn => by have := h5 n hn; omega
  have b3 : inB 0 65535 q.next = true := inB_of fun n hn => by
    rw [h2] at hn
    rcases setAll_mem _ _ _ _ hn with h | ⟨x, hx, rfl⟩
    · have := List.eq_of_mem_replicate h; omega
    · exact (h6 x hx).2
  have b4 : inB (-1) ((q.usual.length : Int) - 1) q.check = true := inB_of fun n hn => by
    rw [h1] at hn
    rcases setAll_mem _ _ _ _ hn with h | ⟨x, hx, rfl⟩
    · have := List.eq_of_mem_replicate h; omega
    · have := (h6 x hx).1; unfold rowE; omega
  simp only [rightM, b1, b2, b3, b4, Bool.and_true]
  have c1 : ¬ q.width < 1 := by omega
  have c2 : ¬ 64 < q.width := by omega
  have c3 : ¬ (1000 : Int) < q.usual.length := by omega
  have c4 : ¬ (65599 : Int) < q.check.length := by omega
  have c5 : (q.base.length : Int) = q.usual.length := by omega
  have c6 : (q.check.length : Int) = q.next.length := by omega
  simp [c1, c2, c3, c5, c6]; omega

theorem packPacks_ret (width : Int) (L : List (List Int)) (rv : Value) (w : World) (h : Rows w rv L) :
    Ret Try.prog 4 [.int .i64 width, rv] w fun v w' => v = .bool true ∧ Ext w w' := by
  refine Ret.enter Try.func4 Try.ntmps4 rfl rfl ?_
  refine WC.seq ?_
  refine WC.region ?_
  refine WL.v (RV.assign rfl) rfl ?_
  refine WL.nil ?_
  refine QF.seqNext ?_
  refine WC.seq ?_
  refine WC.seq ?_
  refine WC.region ?_
  refine WL.v (RV.move rfl) rfl ?_
  refine WL.call Try.call8 rfl (great_ret L rv w h) rfl ?_
  rintro v _ ⟨rfl, rfl⟩
  refine WL.v (RV.move rfl) rfl ?_
  cases hg : great30 L with
  | true =>
    refine WL.know (d := 9) rfl (b' := true) (rfl) ?_
    refine WL.off rfl rfl rfl ?_
    refine WL.off rfl rfl rfl ?_
    refine WL.v (RV.pickT rfl rfl) rfl ?_
    refine WL.nil ?_
    refine QF.seqNext ?_
    refine WC.condT rfl rfl ?_
    refine WC.seq ?_
    refine WC.region ?_
    refine WL.call Try.call9 rfl (awake_ret w) rfl ?_
    rintro v w1 ⟨rfl, hE1⟩
    refine WL.v (RV.assign rfl) rfl ?_
    refine WL.nil ?_
    refine QF.seqNext ?_
    refine WC.ret ?_
    refine QF.thenRet ?_
    refine QF.done1 rfl rfl (⟨rfl, hE1⟩)
  | false =>
    refine WL.know (d := 9) rfl (b' := false) (rfl) ?_
    refine WL.on rfl ?_
    refine WL.call Try.call9 rfl (awake_ret w) rfl ?_
    rintro v w1 ⟨rfl, hE1⟩
    refine WL.on rfl ?_
    refine WL.v (RV.not rfl) rfl ?_
    refine WL.v (RV.pickF rfl rfl) rfl ?_
    refine WL.nil ?_
    refine QF.seqNext ?_
    refine WC.condF rfl (rfl) ?_
    refine WC.skip ?_
    refine QF.seqNext ?_
    refine WC.seq ?_
    refine WC.region ?_
    refine WL.v (RV.move rfl) rfl ?_
    refine WL.v (RV.move rfl) rfl ?_
    refine WL.call Try.call10 rfl (pack_ret width L rv w1 (h.ext hE1)) rfl ?_
    rintro v w2 ⟨pv, er, rfl, hp, her, hE2⟩
    have hE := hE1.trans hE2
    obtain ⟨uv, bv, kv, nv, rfl, hu, hb, hk, hn⟩ := hp
    refine WL.v (RV.move rfl) rfl ?_
    refine WL.v (RV.extract rfl rfl) rfl ?_
    refine WL.v (RV.extract rfl rfl) rfl ?_
    refine WL.allocO (Rng.start w2) 1 (by omega) (Try.zeroValue27 _) rfl ?_
    intro x3 w3 O3 hx3 hU3 hR3 hE3
    generalize hq0 : (if packBad width L then (⟨0, [], [], [], []⟩ : PSt) else packM width L) = q at *
    refine WL.storeAgg (us := #[.int .i64 q.width, uv, bv, kv, nv]) hx3 rfl (Try.sizeOf27 _) (by simp only [List.all_cons, hu.one, hb.one, hk.one, hn.one]; rfl) rfl rfl rfl ?_
    have hx4 := hx3.setRow (us := #[.int .i64 q.width, uv, bv, kv, nv])
    have hE4 : Ext w2 (w3.setRow x3 #[.int .i64 q.width, uv, bv, kv, nv]) := (hU3.trans (Upd.setRow (by decide) hx3.tag rfl)).ext
    generalize w3.setRow x3 #[.int .i64 q.width, uv, bv, kv, nv] = w4 at *
    have hE5 := hE.trans hE4
    have cs : ∀ w', Ext w4 w' → ∀ (j : Nat) u, [Value.int .i64 q.width, uv, bv, kv, nv][j]? = some u → w'.cell? ((⟨x3, 0, none⟩ : Addr).add j) = some u := fun w' e j u h => e.cell (hx4.cellsAdd j u h)
    have hP : PkV w4 (.agg #[.int .i64 q.width, uv, bv, kv, nv]) q := ⟨uv, bv, kv, nv, rfl, hu.ext hE4, hb.ext hE4, hk.ext hE4, hn.ext hE4⟩
    refine WL.v (RV.assign rfl) rfl ?_
    refine WL.nil ?_
    refine QF.seqNext ?_
    refine WC.seq ?_
    refine WC.seq ?_
    refine WC.region ?_
    refine WL.v (RV.move rfl) rfl ?_
    refine WL.v (RV.move rfl) rfl ?_
    refine WL.call Try.call11 rfl (right12_ret width L rv w4 (h.ext hE5)) rfl ?_
    rintro v _ ⟨rfl, rfl⟩
    refine WL.v (RV.not rfl) rfl ?_
    refine WL.nil ?_
    refine QF.seqNext ?_
    refine WC.cond rfl ?_ ?_
    · intro hbad
      replace hbad : packBad width L = true := by simpa using hbad
      rw [hbad, if_pos rfl] at hq0
      subst hq0
      rw [hbad, if_pos rfl] at her
      subst her
      replace hu := hu.ext hE4
      replace hk := hk.ext hE4
      refine WC.seq ?_
      refine WC.region ?_
      refine WL.v (RV.fieldAddr 0 Try.underlying27 rfl rfl (Try.sizeOf3 _) (by decide) rfl) rfl ?_
      refine WL.v (RV.load (by first | exact hx4.cell 0 rfl) (Try.isAgg3 _) rfl) rfl ?_
      refine WL.v (RV.eql rfl rfl) rfl ?_
      refine WL.v (RV.move rfl) rfl ?_
      refine WL.know (d := 27) rfl (b' := true) (rfl) ?_
      refine WL.on rfl ?_
      refine WL.v (RV.fieldAddr 1 Try.underlying27 rfl rfl (Try.sizeOf25 _) (by decide) rfl) rfl ?_
      refine WL.on rfl ?_
      refine WL.v (RV.load (by first | exact hx4.cell 1 rfl) (Try.isAgg25 _) rfl) rfl ?_
      refine WL.on rfl ?_
      refine WL.v (RV.len (by first | exact hu | exact hk) Try.underlying25 rfl) rfl ?_
      refine WL.on rfl ?_
      refine WL.v (RV.eql rfl rfl) rfl ?_
      refine WL.v (RV.pickT rfl rfl) rfl ?_
      refine WL.v (RV.move rfl) rfl ?_
      refine WL.know (d := 33) rfl (b' := true) (rfl) ?_
      refine WL.on rfl ?_
      refine WL.v (RV.fieldAddr 3 Try.underlying27 rfl rfl (Try.sizeOf25 _) (by decide) rfl) rfl ?_
      refine WL.on rfl ?_
      refine WL.v (RV.load (by first | exact hx4.cell 3 rfl) (Try.isAgg25 _) rfl) rfl ?_
      refine WL.on rfl ?_
      refine WL.v (RV.len (by first | exact hu | exact hk) Try.underlying25 rfl) rfl ?_
      refine WL.on rfl ?_
      refine WL.v (RV.eql rfl rfl) rfl ?_
      refine WL.v (RV.pickT rfl rfl) rfl ?_
      refine WL.v (RV.move rfl) rfl ?_
      refine WL.know (d := 39) rfl (b' := true) (rfl) ?_
      refine WL.on rfl ?_
      refine WL.v (RV.move rfl) rfl ?_
      refine WL.on rfl ?_
      refine WL.v (RV.eql rfl rfl) rfl ?_
      refine WL.v (RV.pickT rfl rfl) rfl ?_
      refine WL.v (RV.assign rfl) rfl ?_
      refine WL.nil ?_
      refine QF.seqNext ?_
      refine WC.ret ?_
      refine QF.thenRet ?_
      refine QF.done1 rfl rfl (⟨rfl, hE5⟩)
    · intro hbad
      replace hbad : packBad width L = false := by simpa using hbad
      rw [hbad, if_neg Bool.false_ne_true] at hq0
      rw [hbad, if_neg Bool.false_ne_true] at her
      subst her
      refine WC.skip ?_
      refine QF.seqNext ?_
      refine WC.seq ?_
      refine WC.draw (Ext w4) 14 rfl (by kernel_rfl) ?_
      refine WH.take 0 rfl (by kernel_rfl) (by kernel_rfl) (by kernel_rfl) (Ext.refl w4).drew (fun w1 hw1 => RV.move rfl) rfl ?_
      refine WH.take 1 rfl (by kernel_rfl) (by kernel_rfl) (by kernel_rfl) (Ext.refl w4).drew (fun w1 hw1 => RV.eql rfl rfl) rfl ?_
      refine WH.take 2 rfl (by kernel_rfl) (by kernel_rfl) (by kernel_rfl) (Ext.refl w4).drew (fun w1 hw1 => RV.move rfl) rfl ?_
      refine WH.know (d := 45) rfl (b' := true) (rfl) ?_
      refine WH.takeOn 3 rfl rfl (by kernel_rfl) (by kernel_rfl) (by kernel_rfl) (Ext.refl w4).drew (fun w1 hw1 => RV.loadAgg (cs _ hw1) (Try.isAgg27 _) (Try.sizeOf27 _) rfl) rfl ?_
      refine WH.takeOn 4 rfl rfl (by kernel_rfl) (by kernel_rfl) (by kernel_rfl) (Ext.refl w4).drew (fun w1 hw1 => RV.move rfl) rfl ?_
      refine WH.takeOn 5 rfl rfl (by kernel_rfl) (by kernel_rfl) (by kernel_rfl) (Ext.refl w4).drew (fun w1 hw1 => RV.move rfl) rfl ?_
      refine WH.one 6 (by kernel_rfl) rfl ?_
      refine WL.on rfl ?_
      refine WL.call Try.call13 rfl (refPack_ret width L rv _ ((h.ext hE5).ext (Ext.refl w4).drew) hbad) rfl ?_
      rintro v w5 ⟨hP5, hE6⟩
      have hE7 := (Ext.refl w4).drew.trans hE6
      refine WL.nil ?_
      refine QF.after (hE7) ?_
      refine WH.one 7 (by kernel_rfl) rfl ?_
      refine WL.on rfl ?_
      refine WL.call Try.call12 rfl (is_ret q (packM width L) _ v w5 (hP.ext hE7) hP5) rfl ?_
      rintro v2 w6 ⟨rfl, hE8⟩
      have hE9 := hE7.trans hE8
      refine WL.nil ?_
      refine QF.after (hE9) ?_
      refine WH.take 8 rfl (by kernel_rfl) (by kernel_rfl) (by kernel_rfl) (hE9) (fun w1 hw1 => RV.pickT rfl rfl) rfl ?_
      refine WH.take 9 rfl (by kernel_rfl) (by kernel_rfl) (by kernel_rfl) (hE9) (fun w1 hw1 => RV.move rfl) rfl ?_
      refine WH.know (d := 52) rfl (b' := true) (by rw [← hq0]; simp [PSt.same]) ?_
      refine WH.takeOn 10 rfl rfl (by kernel_rfl) (by kernel_rfl) (by kernel_rfl) (hE9) (fun w1 hw1 => RV.loadAgg (cs _ hw1) (Try.isAgg27 _) (Try.sizeOf27 _) rfl) rfl ?_
      refine WH.one 11 (by kernel_rfl) rfl ?_
      refine WL.on rfl ?_
      refine WL.call Try.call14 rfl (right_ret q _ w6 (hP.ext hE9)) rfl ?_
      rintro v3 w7 ⟨rfl, hE10⟩
      have hE11 := hE9.trans hE10
      refine WL.nil ?_
      refine QF.after (hE11) ?_
      refine WH.take 12 rfl (by kernel_rfl) (by kernel_rfl) (by kernel_rfl) (hE11) (fun w1 hw1 => RV.pickT rfl rfl) rfl ?_
      refine WH.take 13 rfl (by kernel_rfl) (by kernel_rfl) (by kernel_rfl) (hE11) (fun w1 hw1 => RV.assign rfl) rfl ?_
      refine WH.done (by kernel_rfl) ?_
      refine QF.seqNext ?_
      refine WC.ret ?_
      refine QF.done1 rfl rfl (⟨by rw [← hq0, rightM_pack width L hbad], hE5.trans hE11⟩)
end Go.Proofs.Ytahdlfnjnjngaaa
