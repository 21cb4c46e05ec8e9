/- Package pack, walked: lay. -/
import Derived.Test.YtahdlfnjnjngaaaPackC
namespace Go.Proofs.Ytahdlfnjnjngaaa
open Go.VL Go.Proofs

def colsTo (row : List Int) (u : Int) (k : Nat) : List Nat := (List.range k).filter fun c => nth row c != u
def colsOf (row : List Int) (u : Int) : List Nat := colsTo row u row.length
theorem colsTo_succ (row : List Int) (u : Int) (k : Nat) : colsTo row u (k + 1) = if nth row k = u then colsTo row u k else colsTo row u k ++ [k] := by
  unfold colsTo
  rw [List.range_succ, List.filter_append]
  by_cases h : nth row k = u <;> simp [h]
theorem colsTo_lt {row : List Int} {u : Int} {k c : Nat} (h : c ∈ colsTo row u k) : c < k := by
  simp only [colsTo, List.mem_filter, List.mem_range] at h; exact h.1
theorem colsTo_len (row : List Int) (u : Int) (k : Nat) : (colsTo row u k).length ≤ k := by
  have := List.length_filter_le (fun c => nth row c != u) (List.range k); simpa [colsTo] using this

def okBase (chk : List Int) (cols : List Nat) (b : Nat) : Bool := cols.all (free1 chk b)
def baseOf (chk : List Int) (cols : List Nat) : Nat := ((List.range (chk.length + 1)).find? (okBase chk cols)).getD 0
theorem okBase_end (chk : List Int) (cols : List Nat) : okBase chk cols chk.length = true := by
  rw [okBase, List.all_eq_true]; intro c _; simp [free1]
theorem baseOf_eq {chk : List Int} {cols : List Nat} {b : Nat} (hb : okBase chk cols b = true) (hno : ∀ j, j < b → okBase chk cols j = false) : baseOf chk cols = b := by
  have hle : b ≤ chk.length := by
    refine Nat.le_of_not_lt fun h => ?_
    have := hno _ h; rw [okBase_end] at this; cases this
  have : (List.range (chk.length + 1)).find? (okBase chk cols) = some b := by
    rw [List.find?_range_eq_some]
    exact ⟨hb, List.mem_range.2 (by omega), fun j hj => by simp [hno j hj]⟩
  rw [baseOf, this]; rfl
theorem baseOf_spec (chk : List Int) (cols : List Nat) : okBase chk cols (baseOf chk cols) = true ∧ baseOf chk cols ≤ chk.length ∧ ∀ j, j < baseOf chk cols → okBase chk cols j = false := by
  have : ∃ b, (List.range (chk.length + 1)).find? (okBase chk cols) = some b := by
    cases hf : (List.range (chk.length + 1)).find? (okBase chk cols) with
    | some j => exact ⟨j, rfl⟩
    | none => rw [List.find?_eq_none] at hf; exact absurd (okBase_end chk cols) (hf _ (List.mem_range.2 (by omega)))
  obtain ⟨b, hb⟩ := this
  have h2 := hb
  rw [List.find?_range_eq_some] at h2
  have h3 := List.mem_range.1 h2.2.1
  rw [baseOf, hb]
  exact ⟨h2.1, by simpa using (by omega : b ≤ chk.length), fun j hj => by simpa using h2.2.2 j hj⟩

/-- A row is laid. -/
def PSt.lay (p : PSt) (row : List Int) : PSt :=
  let u := usualM row
  let cols := colsOf row u
  let b := baseOf p.check cols
  let q := cols.foldl (fun q c => q.take (b + c) p.base.length (nth row c)) p
  { q with usual := q.usual ++ [u], base := q.base ++ [(b : Int)] }

theorem PSt.take_len {p : PSt} {s : Nat} {r e : Int} (h : p.next.length = p.check.length) : (p.take s r e).next.length = (p.take s r e).check.length := by simp [PSt.take, PSt.long, h]

def Own6 (T : Nat) (i : Nat) : Prop := T + 1 ≤ i ∧ i ≤ T + 6
theorem own6_0 (T : Nat) : ¬ Own6 T 0 := by unfold Own6; omega
abbrev RowN (O : Nat → Nat) (w : World) (i : Nat) (v : Value) (l : List Nat) : Prop := RowT (fun (x : Nat) => [Value.int .i64 (x : Int)]) 3 1 O w i v l

theorem lay_ret (T pb : Nat) (p : PSt) (row : List Int) (rv : Value) (B : Nat) (O : Nat → Nat) (w : World) (hp : PkO T O w pb p) (hR : Rng B O w)
    (hrow : ∀ w', RowKit.Below B w w' → Ints w' rv row) (hne : 0 < row.length) (hw : row.length ≤ 64) (hl : p.next.length = p.check.length) (hck : p.check.length ≤ 100000)
    (hul : p.usual.length ≤ 100000) (hbl : p.base.length ≤ 100000) :
    Ret Try.prog 26 [.pointer (some ⟨pb, 0, none⟩), rv] w fun _ w' => ∃ O', PkO T O' w' pb (p.lay row) ∧ Upd (Own6 T) O w O' w' ∧ Rng B O' w' := by
  have hrl := (hrow w (RowKit.Below.refl _ _)).len_le
  refine Ret.enter Try.func26 Try.ntmps26 rfl rfl ?_
  refine WC.seq ?_
  refine WC.region ?_
  refine WL.v (RV.move rfl) rfl ?_
  refine WL.call Try.call35 rfl (usual_ret row rv w (hrow w (RowKit.Below.refl _ _)) hne) rfl ?_
  rintro v w1 ⟨rfl, hE1⟩
  have hU1 : Upd (Own6 T) O w O w1 := Upd.of_ext (own6_0 T) O hE1
  have hR1 := hR.upd hU1
  have hp1 : PkO T O w1 pb p := hp.upd (Upd.of_ext (S := fun _ => False) (fun h => h) O hE1) (fun _ _ h => h)
  generalize hu : usualM row = u
  refine WL.v (RV.assign rfl) rfl ?_
  refine WL.nil ?_
  refine QF.seqNext ?_
  refine WC.seq ?_
  refine WC.region ?_
  refine WL.v (RV.assign rfl) rfl ?_
  refine WL.nil ?_
  refine QF.seqNext ?_
  refine WC.seq ?_
  refine WC.seq ?_
  refine WC.region ?_
  refine WL.v (RV.move rfl) rfl ?_
  refine WL.v (RV.len (by first | exact hrow _ (hU1.below hR)) Try.underlying25 rfl) rfl ?_
  refine WL.v (RV.move rfl) rfl ?_
  refine WL.nil ?_
  refine QF.seqNext ?_
  refine WC.block ?_
  refine WC.loop (fun x : Nat × (Nat → Nat) × World × Value => [(0, .pointer (some ⟨pb, 0, none⟩)), (1, rv), (4, .int .i64 u), (5, x.2.2.2), (13, rv), (14, .int .i64 row.length), (15, .int .i64 x.1)]) (fun x : Nat × (Nat → Nat) × World × Value => x.2.2.1) (fun x : Nat × (Nat → Nat) × World × Value => x.1 ≤ row.length ∧ PkO T x.2.1 x.2.2.1 pb p ∧ RowN x.2.1 x.2.2.1 (T + 6) x.2.2.2 (colsTo row u x.1) ∧ Upd (Own6 T) O w x.2.1 x.2.2.1) (fun x : Nat × (Nat → Nat) × World × Value => row.length - x.1) (0, O, w1, .slice none 0 0) (⟨Nat.zero_le _, hp1, RowT.nil _ _ _ _ _ _, hU1⟩) ⟨rfl, rfl, rfl, rfl, rfl, rfl, rfl, trivial⟩ rfl ?_
  rintro ⟨k, O2, w2, cv⟩ ⟨hk, hp2, hcv, hU2⟩
  dsimp only at hk hp2 hcv hU2 ⊢
  have hR2 := hR.upd hU2
  have hr2 := hrow w2 (hU2.below hR)
  refine WC.seq ?_
  refine WC.region ?_
  refine WL.v (RV.lss rfl rfl) rfl ?_
  refine WL.nil ?_
  refine QF.seqNext ?_
  refine WC.seq ?_
  refine WC.cond rfl ?_ ?_
  · intro hlt
    replace hlt : k < row.length := by have := of_decide_eq_true hlt; omega
    have hcl := colsTo_len row u k
    refine WC.skip ?_
    refine QF.seqNext ?_
    refine WC.seq ?_
    refine WC.block ?_
    refine WC.seq ?_
    refine WC.region ?_
    refine WL.v (RV.move rfl) rfl ?_
    refine WL.v (RV.indexAddr (by first | exact hr2) Try.underlying25 (Try.sizeOf3 _) rfl rfl _ rfl (by omega)) rfl ?_
    refine WL.v (RV.load (by first | exact hr2.ld (by omega)) (Try.isAgg3 _) rfl) rfl ?_
    refine WL.v (RV.assign rfl) rfl ?_
    refine WL.v (RV.assign rfl) rfl ?_
    refine WL.nil ?_
    refine QF.seqNext ?_
    refine WC.seq ?_
    refine WC.region ?_
    refine WL.v (RV.move rfl) rfl ?_
    refine WL.v (RV.move rfl) rfl ?_
    refine WL.v (RV.neq rfl rfl) rfl ?_
    refine WL.nil ?_
    refine QF.seqNext ?_
    refine WC.cond rfl ?_ ?_
    · intro hne2
      replace hne2 : nth row k ≠ u := by simpa using hne2
      refine WC.region ?_
      refine WL.v (RV.move rfl) rfl ?_
      refine WL.v (RV.move rfl) rfl ?_
      refine WL.push elInt hcv hR2 (k) (fun _ => rfl) rfl rfl rfl (by simp [Value.oneCell']) (by omega) (by omega) (by omega) (by decide) rfl rfl ?_
      intro cv3 w3 O3 hcv3 hU3 hR3
      refine WL.v (RV.assign rfl) rfl ?_
      refine WL.nil ?_
      refine QF.blockNormal ?_
      refine QF.seqNext ?_
      refine WC.region ?_
      refine WL.v (RV.add rfl rfl (Fit.i64 (by omega))) rfl ?_
      refine WL.v (RV.move rfl) rfl ?_
      refine WL.nil ?_
      refine QF.next ((k + 1, O3, w3, cv3)) (⟨hlt, hp2.upd hU3 (by unfold Own5; omega), by dsimp only; rw [colsTo_succ, if_neg hne2]; exact hcv3, hU2.trans (hU3.mono (by unfold Own6; omega) (own6_0 T))⟩) (by omega) ⟨rfl, rfl, rfl, rfl, rfl, rfl, rfl, trivial⟩ rfl
    · intro heq
      replace heq : nth row k = u := by simpa using heq
      refine WC.skip ?_
      refine QF.blockNormal ?_
      refine QF.seqNext ?_
      refine WC.region ?_
      refine WL.v (RV.add rfl rfl (Fit.i64 (by omega))) rfl ?_
      refine WL.v (RV.move rfl) rfl ?_
      refine WL.nil ?_
      refine QF.next ((k + 1, O2, w2, cv)) (⟨hlt, hp2, by dsimp only; rw [colsTo_succ, if_pos heq]; exact hcv, hU2⟩) (by omega) ⟨rfl, rfl, rfl, rfl, rfl, rfl, rfl, trivial⟩ rfl
  · intro hge
    obtain rfl : k = row.length := by have := of_decide_eq_false hge; omega
    obtain ⟨uv, bv, kv, nv, h⟩ := hp2
    have hcols : ∀ c ∈ colsOf row u, c ≤ 64 := fun c hc => by have := colsTo_lt hc; omega
    replace hcv : RowN O2 w2 (T + 6) cv (colsOf row u) := hcv
    refine WC.exit ?_
    refine QF.thenExit ?_
    refine QF.thenExit ?_
    refine QF.blockHit ?_
    refine QF.seqNext ?_
    refine WC.seq ?_
    refine WC.region ?_
    refine WL.v (RV.assign rfl) rfl ?_
    refine WL.nil ?_
    refine QF.seqNext ?_
    refine WC.seq ?_
    refine WC.block ?_
    refine WC.loop (fun b : Nat => [(0, .pointer (some ⟨pb, 0, none⟩)), (1, rv), (4, .int .i64 u), (5, cv), (8, .int .i64 b)]) (fun b : Nat => w2) (fun b : Nat => b ≤ p.check.length ∧ ∀ j, j < b → okBase p.check (colsOf row u) j = false) (fun b : Nat => p.check.length - b) 0 (⟨Nat.zero_le _, fun j hj => absurd hj (Nat.not_lt_zero j)⟩) ⟨rfl, rfl, rfl, rfl, rfl, trivial⟩ rfl ?_
    intro b ⟨hb, hno⟩
    refine WC.seq ?_
    refine WC.seq ?_
    refine WC.region ?_
    refine WL.v (RV.move rfl) rfl ?_
    refine WL.v (RV.move rfl) rfl ?_
    refine WL.v (RV.move rfl) rfl ?_
    refine WL.call Try.call36 rfl (fits_ret pb cv kv (colsOf row u) p.check b w2 h.c3 h.k.sl hcv.sl hcols (by omega)) rfl ?_
    rintro v _ ⟨rfl, rfl⟩
    refine WL.v (RV.not rfl) rfl ?_
    refine WL.nil ?_
    refine QF.seqNext ?_
    refine WC.cond rfl ?_ ?_
    · intro hbad
      replace hbad : okBase p.check (colsOf row u) b = false := by rw [Bool.not_eq_true'] at hbad; exact hbad
      have hlt : b < p.check.length := by
        refine Nat.lt_of_le_of_ne hb fun e => ?_
        rw [e, okBase_end] at hbad; cases hbad
      refine WC.skip ?_
      refine QF.seqNext ?_
      refine WC.block ?_
      refine WC.region ?_
      refine WL.v (RV.move rfl) rfl ?_
      refine WL.v (RV.add rfl rfl (Fit.i64 (by omega))) rfl ?_
      refine WL.v (RV.assign rfl) rfl ?_
      refine WL.nil ?_
      refine QF.blockNormal ?_
      refine QF.next (b + 1) (⟨hlt, fun j hj => (Nat.lt_succ_iff_lt_or_eq.1 hj).elim (hno j) (fun e => by rw [e]; exact hbad)⟩) (by omega) ⟨rfl, rfl, rfl, rfl, rfl, trivial⟩ rfl
    · intro hgood
      replace hgood : okBase p.check (colsOf row u) b = true := by rw [Bool.not_eq_false'] at hgood; exact hgood
      have hbase := baseOf_eq hgood hno
      have hcs := hcv.sl
      refine WC.exit ?_
      refine QF.thenExit ?_
      refine QF.thenExit ?_
      refine QF.blockHit ?_
      refine QF.seqNext ?_
      refine WC.seq ?_
      refine WC.seq ?_
      refine WC.region ?_
      refine WL.v (RV.move rfl) rfl ?_
      refine WL.v (RV.len (by first | exact hcs) Try.underlying25 rfl) rfl ?_
      refine WL.v (RV.move rfl) rfl ?_
      refine WL.nil ?_
      refine QF.seqNext ?_
      refine WC.block ?_
      refine WC.loop (fun x : Nat × (Nat → Nat) × World => [(0, .pointer (some ⟨pb, 0, none⟩)), (1, rv), (4, .int .i64 u), (5, cv), (8, .int .i64 b), (35, cv), (36, .int .i64 (colsOf row u).length), (37, .int .i64 x.1)]) (fun x : Nat × (Nat → Nat) × World => x.2.2) (fun x : Nat × (Nat → Nat) × World => x.1 ≤ (colsOf row u).length ∧ RowN x.2.1 x.2.2 (T + 6) cv (colsOf row u) ∧ Upd (Own6 T) O w x.2.1 x.2.2 ∧ (∃ q : PSt, q = ((colsOf row u).take x.1).foldl (fun q c => q.take (b + c) p.base.length (nth row c)) p ∧ PkO T x.2.1 x.2.2 pb q ∧ q.base = p.base ∧ q.usual = p.usual ∧ q.next.length = q.check.length)) (fun x : Nat × (Nat → Nat) × World => (colsOf row u).length - x.1) (0, O2, w2) (⟨Nat.zero_le _, hcv, hU2, p, rfl, ⟨uv, bv, kv, nv, h⟩, rfl, rfl, hl⟩) ⟨rfl, rfl, rfl, rfl, rfl, rfl, rfl, rfl, trivial⟩ rfl ?_
      rintro ⟨k, O4, w4⟩ ⟨hk4, hcv4, hU4, q, hq, ⟨uv4, bv4, kv4, nv4, h4⟩, hqb, hqu, hql⟩
      dsimp only at hk4 hcv4 hU4 hq h4 ⊢
      have hR4 := hR.upd hU4
      have hr4 := hrow w4 (hU4.below hR)
      have hcs4 := hcv4.sl
      have hb4 := h4.b.sl
      have hcm := hcs4.len_le
      refine WC.seq ?_
      refine WC.region ?_
      refine WL.v (RV.lss rfl rfl) rfl ?_
      refine WL.nil ?_
      refine QF.seqNext ?_
      refine WC.seq ?_
      refine WC.cond rfl ?_ ?_
      · intro hlt
        replace hlt : k < (colsOf row u).length := by have := of_decide_eq_true hlt; omega
        have hc64 := hcols _ (nth_mem hlt)
        have hcr := colsTo_lt (nth_mem hlt)
        refine WC.skip ?_
        refine QF.seqNext ?_
        refine WC.seq ?_
        refine WC.block ?_
        refine WC.seq ?_
        refine WC.region ?_
        refine WL.v (RV.indexAddr (by first | exact hcs4) Try.underlying25 (Try.sizeOf3 _) rfl rfl _ rfl (by omega)) rfl ?_
        refine WL.v (RV.load (by first | exact hcs4.ld (by omega)) (Try.isAgg3 _) rfl) rfl ?_
        refine WL.v (RV.assign rfl) rfl ?_
        refine WL.nil ?_
        refine QF.seqNext ?_
        refine WC.tail 13 rfl rfl (by kernel_rfl) (by kernel_rfl) ?_
        refine WS.v (RV.move rfl) rfl ?_
        refine WS.v (RV.move rfl) rfl ?_
        refine WS.v (RV.move rfl) rfl ?_
        refine WS.v (RV.add rfl rfl (Fit.i64 (by omega))) rfl ?_
        refine WS.v (RV.move rfl) rfl ?_
        refine WS.v (RV.nilPtr rfl) rfl ?_
        refine WS.v (RV.fieldAddr 2 Try.underlying27 rfl rfl (Try.sizeOf25 _) (by decide) rfl) rfl ?_
        refine WS.v (RV.load (by first | exact h4.c2 | exact hr4.ld hcr) (Try.isAgg25 _) rfl) rfl ?_
        refine WS.v (RV.len (by first | exact (hb4).drew | exact (hr4).drew) Try.underlying25 rfl) rfl ?_
        refine WS.v (RV.move rfl) rfl ?_
        refine WS.v (RV.move rfl) rfl ?_
        refine WS.v (RV.indexAddr hr4.drew Try.underlying25 (Try.sizeOf3 _) rfl rfl (nth (colsOf row u) k) rfl hcr) rfl ?_
        refine WS.v (RV.load (by first | exact h4.c2 | exact hr4.ld hcr) (Try.isAgg3 _) rfl) rfl ?_
        refine WS.go ?_
        have hp5 : PkO T O4 w4.drew pb q := ⟨uv4, bv4, kv4, nv4, h4.blk.drew, h4.u.drew, h4.b.drew, h4.k.drew, h4.n.drew⟩
        rw [show (q.base.length : Int) = (p.base.length : Int) from by rw [hqb]]
        refine WL.call Try.call37 rfl (take_ret T pb q (b + nth (colsOf row u) k) p.base.length (nth row (nth (colsOf row u) k)) B O4 w4.drew hp5 hR4.drew (by omega) hql) rfl ?_
        rintro v w5 ⟨O5, hp6, hU5, hR5⟩
        have hU6 : Upd (Own6 T) O4 w4 O5 w5 := (hU5.mono (fun i hi => by unfold Own5 at hi; unfold Own6; omega) (own6_0 T)).ofDrew
        refine WL.nil ?_
        refine QF.blockNormal ?_
        refine QF.seqNext ?_
        refine WC.region ?_
        refine WL.v (RV.add rfl rfl (Fit.i64 (by omega))) rfl ?_
        refine WL.v (RV.move rfl) rfl ?_
        refine WL.nil ?_
        refine QF.next ((k + 1, O5, w5)) (⟨hlt, hcv4.drew.upd hU5 (by omega) (by unfold Own5; omega), hU4.trans hU6, _, ?_, hp6, hqb, hqu, PSt.take_len hql⟩) (by omega) ⟨rfl, rfl, rfl, rfl, rfl, rfl, rfl, rfl, trivial⟩ rfl
        rw [take_nth hlt, List.foldl_append, ← hq]; rfl
      · intro hge
        obtain rfl : k = (colsOf row u).length := by have := of_decide_eq_false hge; omega
        rw [List.take_length] at hq
        refine WC.exit ?_
        refine QF.thenExit ?_
        refine QF.thenExit ?_
        refine QF.blockHit ?_
        refine QF.seqNext ?_
        refine WC.seq ?_
        refine WC.region ?_
        refine WL.v (RV.move rfl) rfl ?_
        refine WL.v (RV.move rfl) rfl ?_
        refine WL.v (RV.nilPtr rfl) rfl ?_
        refine WL.v (RV.fieldAddr 1 Try.underlying27 rfl rfl (Try.sizeOf25 _) (by decide) rfl) rfl ?_
        refine WL.v (RV.load (by first | exact h4.c1) (Try.isAgg25 _) rfl) rfl ?_
        refine WL.v (RV.move rfl) rfl ?_
        have hub : q.usual.length ≤ 100000 := by rw [hqu]; exact hul
        refine WL.push elInt h4.u hR4 (u) (fun _ => rfl) rfl rfl rfl (by simp [Value.oneCell']) (by omega) (by omega) (by omega) (by decide) rfl rfl ?_
        intro uv5 w5 O5 hu5 hU5 hR5
        obtain ⟨h5, hU6⟩ := h4.setU hU5 hu5
        have hb5 := h4.blk.upd hU5 (by omega) (by omega)
        have hR6 : Rng B O5 (w5.setCell ⟨pb, 1, none⟩ uv5) := hR4.upd hU6
        refine WL.v (RV.nilPtr rfl) rfl ?_
        refine WL.v (RV.fieldAddr 1 Try.underlying27 rfl rfl (Try.sizeOf25 _) (by decide) rfl) rfl ?_
        refine WL.storeBlk (j := 1) hb5 rfl (Try.sizeOf25 _) hu5.one rfl rfl rfl ?_
        refine WL.nil ?_
        refine QF.seqNext ?_
        refine WC.region ?_
        refine WL.v (RV.move rfl) rfl ?_
        refine WL.v (RV.move rfl) rfl ?_
        refine WL.v (RV.nilPtr rfl) rfl ?_
        refine WL.v (RV.fieldAddr 2 Try.underlying27 rfl rfl (Try.sizeOf25 _) (by decide) rfl) rfl ?_
        refine WL.v (RV.load (by first | exact h5.c2) (Try.isAgg25 _) rfl) rfl ?_
        refine WL.v (RV.move rfl) rfl ?_
        have h5b : RowI O5 (w5.setCell ⟨pb, 1, none⟩ uv5) (T + 3) bv4 q.base := h5.b
        have hbb : q.base.length ≤ 100000 := by rw [hqb]; exact hbl
        refine WL.push elInt h5b hR6 (b) (fun _ => rfl) rfl rfl rfl (by simp [Value.oneCell']) (by omega) (by omega) (by omega) (by decide) rfl rfl ?_
        intro bv6 w6 O6 hb6 hU7 hR7
        obtain ⟨h6, hU8⟩ := h5.setB hU7 hb6
        have hb7 := h5.blk.upd hU7 (by omega) (by omega)
        refine WL.v (RV.nilPtr rfl) rfl ?_
        refine WL.v (RV.fieldAddr 2 Try.underlying27 rfl rfl (Try.sizeOf25 _) (by decide) rfl) rfl ?_
        refine WL.storeBlk (j := 2) hb7 rfl (Try.sizeOf25 _) hb6.one rfl rfl rfl ?_
        refine WL.nil ?_
        have hU9 : Upd (Own6 T) O w O6 (w6.setCell ⟨pb, 2, none⟩ bv6) := (hU4.trans (hU6.mono (fun i hi => by unfold Own5 at hi; unfold Own6; omega) (own6_0 T))).trans (hU8.mono (fun i hi => by unfold Own5 at hi; unfold Own6; omega) (own6_0 T))
        refine QF.end0 rfl (⟨O6, ?_, hU9, hR.upd hU9⟩)
        have e : p.lay row = { q with usual := q.usual ++ [u], base := q.base ++ [(b : Int)] } := by simp only [PSt.lay, hu]; rw [hbase, ← hq]
        rw [e]; exact ⟨_, _, _, _, h6⟩
end Go.Proofs.Ytahdlfnjnjngaaa
