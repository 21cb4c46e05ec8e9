/- Package pack, walked: Pack. -/
import Derived.Test.YtahdlfnjnjngaaaPackD
import Derived.Test.YtahdlfnjnjngaaaVs
namespace Go.Proofs.Ytahdlfnjnjngaaa
open Go.VL Go.Proofs

theorem pl27 : Places Try.prog 27 #[(0, 1), (1, 1), (2, 1), (3, 1), (4, 1)] := ⟨_, Try.underlying27, fun w => by kernel_rfl⟩

/-- Rows of whole numbers, wherever they lie. -/
def Rows (w : World) (v : Value) (L : List (List Int)) : Prop :=
  ∃ rvs : List Value, Sl (fun x => [x]) 1 w v rvs ∧ rvs.length = L.length ∧ ∀ i, i < L.length → Ints w (nth rvs i) (nth L i)
theorem Rows.ext {w w' : World} {v : Value} {L : List (List Int)} (h : Rows w v L) (e : Ext w w') : Rows w' v L := by
  obtain ⟨rvs, h1, h2, h3⟩ := h
  exact ⟨rvs, h1.ext e, h2, fun i hi => (h3 i hi).ext e⟩

def badRow (width : Int) (row : List Int) : Bool := (row.length : Int) != width || !(inB 0 65535 row)

theorem bad_ret (width : Int) (row : List Int) (rv : Value) (b : Addr) (w : World) (h : Ints w rv row) (hb : w.cell? b = some (.int .i64 width)) :
    Ret Try.prog 23 [rv, .pointer (some b)] w fun v w' => v = .bool (badRow width row) ∧ Ext w w' := by
  refine Ret.enter Try.func23 Try.ntmps23 rfl rfl ?_
  refine WC.seq ?_
  refine WC.region ?_
  refine WL.v (RV.assign rfl) rfl ?_
  refine WL.nil ?_
  refine QF.seqNext ?_
  refine WC.seq ?_
  refine WC.region ?_
  refine WL.v (RV.move rfl) rfl ?_
  refine WL.v (RV.len (by first | exact h) Try.underlying25 rfl) rfl ?_
  refine WL.v (RV.load (by first | exact hb) (Try.isAgg3 _) rfl) rfl ?_
  refine WL.v (RV.neq rfl rfl) rfl ?_
  refine WL.v (RV.move rfl) rfl ?_
  by_cases hl : (row.length : Int) = width
  · skip
    refine WL.know (d := 8) rfl (b' := false) (by simpa using hl) ?_
    refine WL.on rfl ?_
    refine WL.v (RV.move rfl) rfl ?_
    refine WL.on rfl ?_
    refine WL.call Try.call24 rfl (within_ret 0 65535 row rv w h) rfl ?_
    rintro v w1 ⟨rfl, hE⟩
    refine WL.on rfl ?_
    refine WL.v (RV.not rfl) rfl ?_
    refine WL.v (RV.pickF rfl rfl) rfl ?_
    refine WL.v (RV.assign rfl) rfl ?_
    refine WL.nil ?_
    refine QF.seqNext ?_
    refine WC.ret ?_
    refine QF.done1 rfl rfl (⟨by simp [badRow, hl], hE⟩)
  · skip
    refine WL.know (d := 8) rfl (b' := true) (by simpa using hl) ?_
    refine WL.off rfl rfl rfl ?_
    refine WL.off rfl rfl rfl ?_
    refine WL.off rfl rfl rfl ?_
    refine WL.v (RV.pickT rfl rfl) rfl ?_
    refine WL.v (RV.assign rfl) rfl ?_
    refine WL.nil ?_
    refine QF.seqNext ?_
    refine WC.ret ?_
    refine QF.done1 rfl rfl (⟨by simp [badRow, hl], Ext.refl _⟩)

def packBad (width : Int) (L : List (List Int)) : Bool := decide (width < 1) || decide (64 < width) || decide (1000 < L.length) || L.any (badRow width)
def packM (width : Int) (L : List (List Int)) : PSt := L.foldl PSt.lay ⟨width, [], [], [], []⟩

/-- Packed rows as a value. -/
def PkV (w : World) (v : Value) (p : PSt) : Prop :=
  ∃ uv bv kv nv, v = .agg #[.int .i64 p.width, uv, bv, kv, nv] ∧ Ints w uv p.usual ∧ Ints w bv p.base ∧ Ints w kv p.check ∧ Ints w nv p.next
theorem PkV.ext {w w' : World} {v : Value} {p : PSt} (h : PkV w v p) (e : Ext w w') : PkV w' v p := by
  obtain ⟨uv, bv, kv, nv, h0, h1, h2, h3, h4⟩ := h
  exact ⟨uv, bv, kv, nv, h0, h1.ext e, h2.ext e, h3.ext e, h4.ext e⟩

theorem PSt.take_spec (p : PSt) (s : Nat) (r e : Int) : (p.take s r e).check.length = max p.check.length (s + 1) ∧ (p.take s r e).usual = p.usual ∧ (p.take s r e).base = p.base ∧ (p.take s r e).width = p.width := by
  simp [PSt.take, PSt.long]; omega
theorem foldTake_spec (f : Nat → Int) (b : Nat) (r : Int) : ∀ (cols : List Nat) (p : PSt), (∀ c ∈ cols, c < 64) → p.next.length = p.check.length →
    let q := cols.foldl (fun q c => q.take (b + c) r (f c)) p
    q.check.length ≤ max p.check.length (b + 64) ∧ q.usual = p.usual ∧ q.base = p.base ∧ q.width = p.width ∧ q.next.length = q.check.length
  | [], p, _, hl => ⟨by simp; omega, rfl, rfl, rfl, hl⟩
  | c :: cols, p, hc, hl => by
    have h := foldTake_spec f b r cols (p.take (b + c) r (f c)) (fun x hx => hc x (by simp [hx])) (PSt.take_len hl)
    obtain ⟨t1, t2, t3, t4⟩ := PSt.take_spec p (b + c) r (f c)
    have := hc c (by simp)
    simp only [List.foldl_cons] at h ⊢
    rw [t1, t2, t3, t4] at h
    exact ⟨by omega, h.2⟩
theorem PSt.lay_spec (p : PSt) (row : List Int) (hw : row.length ≤ 64) (hl : p.next.length = p.check.length) :
    (p.lay row).check.length ≤ p.check.length + 64 ∧ (p.lay row).usual = p.usual ++ [usualM row] ∧ (p.lay row).base.length = p.base.length + 1 ∧ (p.lay row).width = p.width ∧ (p.lay row).next.length = (p.lay row).check.length := by
  have hb := (baseOf_spec p.check (colsOf row (usualM row))).2.1
  obtain ⟨h1, h2, h3, h4, h5⟩ := foldTake_spec (fun c => nth row c) (baseOf p.check (colsOf row (usualM row))) p.base.length (colsOf row (usualM row)) p (fun c hc => by have := colsTo_lt hc; omega) hl
  refine ⟨?_, ?_, ?_, h4, h5⟩
  · simp only [PSt.lay]; omega
  · simp only [PSt.lay]; rw [h2]
  · simp only [PSt.lay]; rw [h3]; simp


theorem pack_ret (width : Int) (L : List (List Int)) (rv : Value) (w : World) (h : Rows w rv L) :
    Ret Try.prog 10 [.int .i64 width, rv] w fun v w' => ∃ pv e, v = .tuple #[pv, .int .i64 e] ∧ PkV w' pv (if packBad width L then ⟨0, [], [], [], []⟩ else packM width L) ∧ e = (if packBad width L then 1 else 0) ∧ Ext w w' := by
  obtain ⟨rvs, hr, hrl, hri⟩ := h
  have hlm := hr.len_le
  refine Ret.enter Try.func10 Try.ntmps10 rfl rfl ?_
  refine WC.seq ?_
  refine WC.region ?_
  refine WL.boxO (Rng.start w) 1 (by omega) rfl rfl ?_
  intro bw w1 O1 hbw hU1 hR1 hE1
  refine WL.allocO hR1 2 (by omega) (Try.zeroValue27 _) rfl ?_
  intro br w2 O2 hbr hU2 hR2 hE2
  have hbw2 := hbw.upd hU2 (by decide) (by decide)
  have cw : ∀ w', Ext w2 w' → w'.cell? ⟨bw, 0, none⟩ = some (.int .i64 width) := fun w' e => e.cell (hbw2.cell 0 rfl)
  have hE := hE1.trans hE2
  have hU := (hU1.mono (S' := fun j => 1 ≤ j ∧ j ≤ 16) (by omega) (by omega)).trans (hU2.mono (by omega) (by omega))
  have hr2 := hr.ext hE
  refine WL.v (RV.assign rfl) rfl ?_
  refine WL.nil ?_
  refine QF.seqNext ?_
  refine WC.seq ?_
  refine WC.region ?_
  refine WL.v (RV.mkFunc rfl rfl) rfl ?_
  refine WL.v (RV.assign rfl) rfl ?_
  refine WL.nil ?_
  refine QF.seqNext ?_
  refine WC.seq ?_
  refine WC.seq ?_
  refine WC.region ?_
  refine WL.v (RV.load (by first | exact cw _ (Ext.refl _)) (Try.isAgg3 _) rfl) rfl ?_
  refine WL.v (RV.lss rfl rfl) rfl ?_
  refine WL.v (RV.move rfl) rfl ?_
  have fin : ∀ (w3 : World), Ext w w3 → packBad width L = true →
      ∃ pv e, Value.tuple #[.agg #[.int .i64 0, .slice none 0 0, .slice none 0 0, .slice none 0 0, .slice none 0 0], .int .i64 1] = .tuple #[pv, .int .i64 e] ∧ PkV w3 pv (if packBad width L then ⟨0, [], [], [], []⟩ else packM width L) ∧ e = (if packBad width L then 1 else 0) ∧ Ext w w3 := by
    intro w3 he hb
    rw [hb]
    exact ⟨_, _, rfl, ⟨_, _, _, _, rfl, (RowT.nil _ 3 _ (fun _ => 0) w3 1).sl, (RowT.nil _ 3 _ (fun _ => 0) w3 1).sl, (RowT.nil _ 3 _ (fun _ => 0) w3 1).sl, (RowT.nil _ 3 _ (fun _ => 0) w3 1).sl⟩, rfl, he⟩
  by_cases h1 : width < 1
  · skip
    refine WL.know (d := 13) rfl (b' := true) (decide_eq_true h1) ?_
    refine WL.off rfl rfl rfl ?_
    refine WL.off rfl rfl rfl ?_
    refine WL.v (RV.pickT rfl rfl) rfl ?_
    refine WL.v (RV.move rfl) rfl ?_
    refine WL.off rfl rfl rfl ?_
    refine WL.off rfl rfl rfl ?_
    refine WL.off rfl rfl rfl ?_
    refine WL.v (RV.pickT rfl rfl) rfl ?_
    refine WL.v (RV.move rfl) rfl ?_
    refine WL.off rfl rfl rfl ?_
    refine WL.off rfl rfl rfl ?_
    refine WL.off rfl rfl rfl ?_
    refine WL.v (RV.pickT rfl rfl) rfl ?_
    refine WL.nil ?_
    refine QF.seqNext ?_
    refine WC.condT rfl rfl ?_
    refine WC.seq ?_
    refine WC.region ?_
    refine WL.v (RV.buildF pl27 (Try.zeroValue27 _) rfl (by first | rfl | (simp only [List.all_cons, List.all_nil]; rfl)) rfl rfl) rfl ?_
    refine WL.storeAgg hbr rfl (Try.sizeOf27 _) rfl rfl rfl rfl ?_
    refine WL.v (RV.assign rfl) rfl ?_
    refine WL.nil ?_
    refine QF.seqNext ?_
    refine WC.ret ?_
    refine QF.thenRet ?_
    refine QF.doneC2 rfl rfl rfl ((hbr.setRow).cellsAdd) (Try.isAgg27 _) (Try.sizeOf27 _) (fin _ (hU.trans (Upd.setRow (by omega) hbr.tag (by omega))).ext (by simp [packBad, h1]))
  · skip
    refine WL.know (d := 13) rfl (b' := false) (decide_eq_false h1) ?_
    refine WL.on rfl ?_
    refine WL.v (RV.load (by first | exact cw _ (Ext.refl _)) (Try.isAgg3 _) rfl) rfl ?_
    refine WL.on rfl ?_
    refine WL.v (RV.gtr rfl rfl) rfl ?_
    refine WL.v (RV.pickF rfl rfl) rfl ?_
    refine WL.v (RV.move rfl) rfl ?_
    by_cases h2 : 64 < width
    · skip
      refine WL.know (d := 17) rfl (b' := true) (decide_eq_true h2) ?_
      refine WL.off rfl rfl rfl ?_
      refine WL.off rfl rfl rfl ?_
      refine WL.off rfl rfl rfl ?_
      refine WL.v (RV.pickT rfl rfl) rfl ?_
      refine WL.v (RV.move rfl) rfl ?_
      refine WL.off rfl rfl rfl ?_
      refine WL.off rfl rfl rfl ?_
      refine WL.off rfl rfl rfl ?_
      refine WL.v (RV.pickT rfl rfl) rfl ?_
      refine WL.nil ?_
      refine QF.seqNext ?_
      refine WC.condT rfl rfl ?_
      refine WC.seq ?_
      refine WC.region ?_
      refine WL.v (RV.buildF pl27 (Try.zeroValue27 _) rfl (by first | rfl | (simp only [List.all_cons, List.all_nil]; rfl)) rfl rfl) rfl ?_
      refine WL.storeAgg hbr rfl (Try.sizeOf27 _) rfl rfl rfl rfl ?_
      refine WL.v (RV.assign rfl) rfl ?_
      refine WL.nil ?_
      refine QF.seqNext ?_
      refine WC.ret ?_
      refine QF.thenRet ?_
      refine QF.doneC2 rfl rfl rfl ((hbr.setRow).cellsAdd) (Try.isAgg27 _) (Try.sizeOf27 _) (fin _ (hU.trans (Upd.setRow (by omega) hbr.tag (by omega))).ext (by simp [packBad, h2]))
    · skip
      refine WL.know (d := 17) rfl (b' := false) (decide_eq_false h2) ?_
      refine WL.on rfl ?_
      refine WL.v (RV.move rfl) rfl ?_
      refine WL.on rfl ?_
      refine WL.v (RV.len (by first | exact hr2) Try.underlying22 rfl) rfl ?_
      refine WL.on rfl ?_
      refine WL.v (RV.gtr rfl rfl) rfl ?_
      refine WL.v (RV.pickF rfl rfl) rfl ?_
      refine WL.v (RV.move rfl) rfl ?_
      by_cases h3 : 1000 < L.length
      · skip
        refine WL.know (d := 22) rfl (b' := true) (by rw [hrl]; exact decide_eq_true (by omega)) ?_
        refine WL.off rfl rfl rfl ?_
        refine WL.off rfl rfl rfl ?_
        refine WL.off rfl rfl rfl ?_
        refine WL.v (RV.pickT rfl rfl) rfl ?_
        refine WL.nil ?_
        refine QF.seqNext ?_
        refine WC.condT rfl rfl ?_
        refine WC.seq ?_
        refine WC.region ?_
        refine WL.v (RV.buildF pl27 (Try.zeroValue27 _) rfl (by first | rfl | (simp only [List.all_cons, List.all_nil]; rfl)) rfl rfl) rfl ?_
        refine WL.storeAgg hbr rfl (Try.sizeOf27 _) rfl rfl rfl rfl ?_
        refine WL.v (RV.assign rfl) rfl ?_
        refine WL.nil ?_
        refine QF.seqNext ?_
        refine WC.ret ?_
        refine QF.thenRet ?_
        refine QF.doneC2 rfl rfl rfl ((hbr.setRow).cellsAdd) (Try.isAgg27 _) (Try.sizeOf27 _) (fin _ (hU.trans (Upd.setRow (by omega) hbr.tag (by omega))).ext (by simp [packBad, h3]))
      · skip
        refine WL.know (d := 22) rfl (b' := false) (by rw [hrl]; exact decide_eq_false (by omega)) ?_
        refine WL.on rfl ?_
        refine WL.v (RV.move rfl) rfl ?_
        refine WL.on rfl ?_
        refine WL.v (RV.move rfl) rfl ?_
        refine WL.on rfl ?_
        refine WL.call Try.call25 rfl (containsFuncR_ret Try.call23 _ rvs rv (fun i => badRow width (nth L i)) _ hr2 (fun i hi w' hw' => bad_ret width (nth L i) (nth rvs i) _ w' (((hri i (by omega)).ext hE).ext hw') (cw w' hw'))) rfl ?_
        rintro v w3 ⟨rfl, hE3⟩
        rw [hrl, anyN_list (p := badRow width)]
        have hbr3 := hbr.upd (Upd.of_ext (S := fun _ => False) (fun h => h) O2 hE3) (by decide) (fun h => h)
        have hbw3 := hbw2.upd (Upd.of_ext (S := fun _ => False) (fun h => h) O2 hE3) (by decide) (fun h => h)
        have hU3 := hU.trans (Upd.of_ext (by omega) O2 hE3)
        refine WL.v (RV.pickF rfl rfl) rfl ?_
        refine WL.nil ?_
        refine QF.seqNext ?_
        refine WC.cond rfl ?_ ?_
        · intro hbad
          refine WC.seq ?_
          refine WC.region ?_
          refine WL.v (RV.buildF pl27 (Try.zeroValue27 _) rfl (by first | rfl | (simp only [List.all_cons, List.all_nil]; rfl)) rfl rfl) rfl ?_
          refine WL.storeAgg hbr3 rfl (Try.sizeOf27 _) rfl rfl rfl rfl ?_
          refine WL.v (RV.assign rfl) rfl ?_
          refine WL.nil ?_
          refine QF.seqNext ?_
          refine WC.ret ?_
          refine QF.thenRet ?_
          refine QF.doneC2 rfl rfl rfl ((hbr3.setRow).cellsAdd) (Try.isAgg27 _) (Try.sizeOf27 _) (fin _ (hU3.trans (Upd.setRow (by omega) hbr3.tag (by omega))).ext (by simp only [packBad, hbad]; simp))
        · intro hgood
          have hbad : packBad width L = false := by simp only [packBad, hgood]; simp [h1, h2, h3]
          have hR3 := hR2.ext hE3
          refine WC.skip ?_
          refine QF.seqNext ?_
          refine WC.seq ?_
          refine WC.region ?_
          refine WL.v (RV.load (by first | exact hbw3.cell 0 rfl) (Try.isAgg3 _) rfl) rfl ?_
          refine WL.v (RV.buildF pl27 (Try.zeroValue27 _) rfl (by first | rfl | (simp only [List.all_cons, List.all_nil]; rfl)) rfl rfl) rfl ?_
          refine WL.allocO hR3 11 (by omega) (Try.zeroValue27 _) rfl ?_
          intro pb w4 O4 hp4 hU4 hR4 hE4
          refine WL.storeAgg (us := #[.int .i64 width, .slice none 0 0, .slice none 0 0, .slice none 0 0, .slice none 0 0]) hp4 rfl (Try.sizeOf27 _) rfl rfl rfl rfl ?_
          have hU5 : Upd (fun j => 1 ≤ j ∧ j ≤ 16) O4 w4 O4 (w4.setRow pb #[.int .i64 width, .slice none 0 0, .slice none 0 0, .slice none 0 0, .slice none 0 0]) := Upd.setRow (by omega) hp4.tag (by omega)
          have hbr5 : BlkO O4 (w4.setRow pb #[.int .i64 width, .slice none 0 0, .slice none 0 0, .slice none 0 0, .slice none 0 0]) 2 br _ 27 := (hbr3.upd hU4 (by decide) (by decide)).upd (Upd.setRow (S := fun j => j = 11) (by decide) hp4.tag rfl) (by decide) (by decide)
          have hP5 : PkO 10 O4 (w4.setRow pb #[.int .i64 width, .slice none 0 0, .slice none 0 0, .slice none 0 0, .slice none 0 0]) pb ⟨width, [], [], [], []⟩ := ⟨_, _, _, _, hp4.setRow, RowT.nil _ _ _ _ _ _, RowT.nil _ _ _ _ _ _, RowT.nil _ _ _ _ _ _, RowT.nil _ _ _ _ _ _⟩
          have hU6 := (hU3.trans (hU4.mono (S' := fun j => 1 ≤ j ∧ j ≤ 16) (by omega) (by omega))).trans hU5
          have hR6 := hR4.upd hU5
          generalize w4.setRow pb #[.int .i64 width, .slice none 0 0, .slice none 0 0, .slice none 0 0, .slice none 0 0] = w5 at *
          have hwd : 1 ≤ width ∧ width ≤ 64 ∧ L.length ≤ 1000 := by omega
          have hrows : ∀ i, i < L.length → ((nth L i).length : Int) = width := fun i hi => by
            have := List.any_eq_false.1 hgood _ (nth_mem hi)
            simp only [badRow, Bool.or_eq_true, not_or, bne_iff_ne, ne_eq, Decidable.not_not] at this
            exact this.1
          refine WL.nil ?_
          refine QF.seqNext ?_
          refine WC.seq ?_
          refine WC.seq ?_
          refine WC.region ?_
          refine WL.v (RV.move rfl) rfl ?_
          refine WL.v (RV.len (by first | exact hr.ext hU6.ext) Try.underlying22 rfl) rfl ?_
          refine WL.v (RV.move rfl) rfl ?_
          refine WL.nil ?_
          refine QF.seqNext ?_
          refine WC.block ?_
          refine WC.loop (fun x : Nat × (Nat → Nat) × World => [(1, rv), (4, .pointer (some ⟨br, 0, none⟩)), (7, .pointer (some ⟨pb, 0, none⟩)), (30, rv), (31, .int .i64 rvs.length), (32, .int .i64 x.1)]) (fun x : Nat × (Nat → Nat) × World => x.2.2) (fun x : Nat × (Nat → Nat) × World => x.1 ≤ rvs.length ∧ BlkO x.2.1 x.2.2 2 br #[.int .i64 0, .slice none 0 0, .slice none 0 0, .slice none 0 0, .slice none 0 0] 27 ∧ Rng w.heap.size x.2.1 x.2.2 ∧ Upd (fun j => 1 ≤ j ∧ j ≤ 16) (fun _ => 0) w x.2.1 x.2.2 ∧ (∃ q, q = (L.take x.1).foldl PSt.lay ⟨width, [], [], [], []⟩ ∧ PkO 10 x.2.1 x.2.2 pb q ∧ q.check.length ≤ 64 * x.1 ∧ q.usual.length = x.1 ∧ q.base.length = x.1 ∧ q.next.length = q.check.length)) (fun x : Nat × (Nat → Nat) × World => rvs.length - x.1) (0, O4, w5) (⟨Nat.zero_le _, hbr5, hR6, hU6, _, rfl, hP5, by simp, rfl, rfl, rfl⟩) ⟨rfl, rfl, rfl, rfl, rfl, rfl, trivial⟩ rfl ?_
          rintro ⟨k, O7, w7⟩ ⟨hk, hbr7, hR7, hU7, q, hq, hP7, hqc, hqu, hqb, hqn⟩
          dsimp only at hk hbr7 hR7 hU7 hq hP7 hqc hqu hqb ⊢
          have hr7 := hr.ext hU7.ext
          refine WC.seq ?_
          refine WC.region ?_
          refine WL.v (RV.lss rfl rfl) rfl ?_
          refine WL.nil ?_
          refine QF.seqNext ?_
          refine WC.seq ?_
          refine WC.cond rfl ?_ ?_
          · intro hlt
            replace hlt : k < rvs.length := by have := of_decide_eq_true hlt; omega
            have hltL : k < L.length := by omega
            have hlen := hrows k hltL
            refine WC.skip ?_
            refine QF.seqNext ?_
            refine WC.seq ?_
            refine WC.block ?_
            refine WC.seq ?_
            refine WC.region ?_
            refine WL.v (RV.indexAddr (by first | exact hr7) Try.underlying22 (Try.sizeOf25 _) rfl rfl _ rfl (by omega)) rfl ?_
            refine WL.v (RV.load (by first | exact hr7.ld (by omega)) (Try.isAgg25 _) rfl) rfl ?_
            refine WL.v (RV.assign rfl) rfl ?_
            refine WL.nil ?_
            refine QF.seqNext ?_
            refine WC.region ?_
            refine WL.v (RV.move rfl) rfl ?_
            refine WL.call Try.call26 rfl (lay_ret 10 pb q (nth L k) (nth rvs k) w.heap.size O7 w7 hP7 hR7 (fun w' hB => (hri k hltL).ext (RowKit.Below.trans hU7.ext hB)) (by omega) (by omega) hqn (by omega) (by omega) (by omega)) rfl ?_
            rintro v w8 ⟨O8, hP8, hU8, hR8⟩
            have hbr8 := hbr7.upd hU8 (by decide) (by unfold Own6; omega)
            obtain ⟨l1, l2, l3, l4, l5⟩ := PSt.lay_spec q (nth L k) (by omega) hqn
            refine WL.nil ?_
            refine QF.blockNormal ?_
            refine QF.seqNext ?_
            refine WC.region ?_
            refine WL.v (RV.add rfl rfl (Fit.i64 (by omega))) rfl ?_
            refine WL.v (RV.move rfl) rfl ?_
            refine WL.nil ?_
            refine QF.next ((k + 1, O8, w8)) (⟨hlt, hbr8, hR8, hU7.trans (hU8.mono (by unfold Own6; omega) (by omega)), _, ?_, hP8, by omega, by rw [l2]; simp [hqu], by omega, l5⟩) (by omega) ⟨rfl, rfl, rfl, rfl, rfl, rfl, trivial⟩ rfl
            rw [take_nth hltL, List.foldl_append, ← hq]; rfl
          · intro hge
            obtain rfl : k = rvs.length := by have := of_decide_eq_false hge; omega
            rw [hrl, List.take_length] at hq
            obtain ⟨uv, bv, kv, nv, h7⟩ := hP7
            refine WC.exit ?_
            refine QF.thenExit ?_
            refine QF.thenExit ?_
            refine QF.blockHit ?_
            refine QF.seqNext ?_
            refine WC.seq ?_
            refine WC.region ?_
            refine WL.v (RV.loadAgg h7.blk.cellsAdd (Try.isAgg27 _) (Try.sizeOf27 _) rfl) rfl ?_
            refine WL.storeAgg (us := #[.int .i64 q.width, uv, bv, kv, nv]) hbr7 rfl (Try.sizeOf27 _) (by simp only [List.all_cons, h7.u.one, h7.b.one, h7.k.one, h7.n.one]; rfl) rfl rfl rfl ?_
            have hU9 : Upd (fun j => j = 2) O7 w7 O7 (w7.setRow br #[.int .i64 q.width, uv, bv, kv, nv]) := Upd.setRow (by decide) hbr7.tag rfl
            have h9 := h7.upd hU9 (by unfold Own5; omega)
            have hqw : packM width L = q := hq.symm
            refine WL.v (RV.assign rfl) rfl ?_
            refine WL.nil ?_
            refine QF.seqNext ?_
            refine WC.ret ?_
            refine QF.doneC2 rfl rfl rfl ((hbr7.setRow).cellsAdd) (Try.isAgg27 _) (Try.sizeOf27 _) (⟨_, _, rfl, ⟨uv, bv, kv, nv, ?_, ?_, ?_, ?_, ?_⟩, by rw [hbad]; rfl, (hU7.trans (hU9.mono (by omega) (by omega))).ext⟩)
            all_goals rw [hbad, if_neg Bool.false_ne_true, hqw]
            · exact h9.u.sl
            · exact h9.b.sl
            · exact h9.k.sl
            · exact h9.n.sl
end Go.Proofs.Ytahdlfnjnjngaaa
