/- Package pack, walked: fits, usual, take. -/
import Derived.Test.YtahdlfnjnjngaaaProg
import Derived.Test.YtahdlfnjnjngaaaGen
namespace Go.Proofs.Ytahdlfnjnjngaaa
open Go.VL Go.Proofs

def free1 (chk : List Int) (base c : Nat) : Bool := !(decide (base + c < chk.length) && nth chk (base + c) != -1)

theorem fits_ret (pb : Nat) (cv kv : Value) (cols : List Nat) (chk : List Int) (base : Nat) (w : World)
    (hp : w.cell? ⟨pb, 3, none⟩ = some kv) (hk : Ints w kv chk) (hc : Nats w cv cols) (hcol : ∀ c ∈ cols, c ≤ 64) (hb : base ≤ 200000) :
    Ret Try.prog 36 [.pointer (some ⟨pb, 0, none⟩), cv, .int .i64 base] w fun v w' => v = .bool (cols.all (free1 chk base)) ∧ w = w' := by
  have hkl := hk.len_le
  have hcl := hc.len_le
  refine Ret.enter Try.func36 Try.ntmps36 rfl rfl ?_
  refine WC.seq ?_
  refine WC.region ?_
  refine WL.v (RV.assign rfl) rfl ?_
  refine WL.nil ?_
  refine QF.seqNext ?_
  refine WC.seq ?_
  refine WC.seq ?_
  refine WC.region ?_
  refine WL.v (RV.move rfl) rfl ?_
  refine WL.v (RV.len (by first | exact hc | exact hk) Try.underlying25 rfl) rfl ?_
  refine WL.v (RV.move rfl) rfl ?_
  refine WL.nil ?_
  refine QF.seqNext ?_
  refine WC.block ?_
  refine WC.loop (fun k : Nat => [(0, .pointer (some ⟨pb, 0, none⟩)), (1, cv), (2, .int .i64 base), (9, cv), (10, .int .i64 cols.length), (11, .int .i64 k)]) (fun k : Nat => w) (fun k : Nat => k ≤ cols.length ∧ ∀ j, j < k → free1 chk base (nth cols j) = true) (fun k : Nat => cols.length - k) 0 (⟨Nat.zero_le _, fun j hj => absurd hj (Nat.not_lt_zero j)⟩) ⟨rfl, rfl, rfl, rfl, rfl, rfl, trivial⟩ rfl ?_
  intro k ⟨hk1, hk2⟩
  refine WC.seq ?_
  refine WC.region ?_
  refine WL.v (RV.lss rfl rfl) rfl ?_
  refine WL.nil ?_
  refine QF.seqNext ?_
  refine WC.seq ?_
  refine WC.cond rfl ?_ ?_
  · intro hlt
    replace hlt : k < cols.length := by simpa using hlt
    have hb1 := hcol _ (nth_mem hlt)
    refine WC.skip ?_
    refine QF.seqNext ?_
    refine WC.seq ?_
    refine WC.block ?_
    refine WC.seq ?_
    refine WC.region ?_
    refine WL.v (RV.indexAddr (by first | exact hc | exact hk) Try.underlying25 (Try.sizeOf3 _) rfl rfl _ rfl (by omega)) rfl ?_
    refine WL.v (RV.load (by first | exact hp | exact hc.ld (by omega) | exact hk.ld (by omega)) (Try.isAgg3 _) rfl) rfl ?_
    refine WL.v (RV.assign rfl) rfl ?_
    refine WL.nil ?_
    refine QF.seqNext ?_
    refine WC.seq ?_
    refine WC.region ?_
    refine WL.v (RV.move rfl) rfl ?_
    refine WL.v (RV.move rfl) rfl ?_
    refine WL.v (RV.add rfl rfl (Fit.i64 (by omega))) rfl ?_
    refine WL.v (RV.move rfl) rfl ?_
    refine WL.v (RV.nilPtr rfl) rfl ?_
    refine WL.v (RV.fieldAddr 3 Try.underlying27 rfl rfl (Try.sizeOf25 _) (by decide) rfl) rfl ?_
    refine WL.v (RV.load (by first | exact hp | exact hc.ld (by omega) | exact hk.ld (by omega)) (Try.isAgg25 _) rfl) rfl ?_
    refine WL.v (RV.len (by first | exact hc | exact hk) Try.underlying25 rfl) rfl ?_
    refine WL.v (RV.lss rfl rfl) rfl ?_
    refine WL.v (RV.move rfl) rfl ?_
    by_cases hin : base + nth cols k < chk.length
    · skip
      refine WL.know (d := 24) rfl (b' := true) (by simpa using (by omega : (base : Int) + ((nth cols k : Nat) : Int) < (chk.length : Int))) ?_
      refine WL.on rfl ?_
      refine WL.v (RV.move rfl) rfl ?_
      refine WL.on rfl ?_
      refine WL.v (RV.nilPtr rfl) rfl ?_
      refine WL.on rfl ?_
      refine WL.v (RV.fieldAddr 3 Try.underlying27 rfl rfl (Try.sizeOf25 _) (by decide) rfl) rfl ?_
      refine WL.on rfl ?_
      refine WL.v (RV.load (by first | exact hp | exact hc.ld (by omega) | exact hk.ld (by omega)) (Try.isAgg25 _) rfl) rfl ?_
      refine WL.on rfl ?_
      refine WL.v (RV.move rfl) rfl ?_
      refine WL.on rfl ?_
      refine WL.v (RV.move rfl) rfl ?_
      refine WL.on rfl ?_
      refine WL.v (RV.add rfl rfl (Fit.i64 (by omega))) rfl ?_
      refine WL.on rfl ?_
      refine WL.v (RV.indexAddr hk Try.underlying25 (Try.sizeOf3 _) rfl rfl (base + nth cols k) (by omega) hin) rfl ?_
      refine WL.on rfl ?_
      refine WL.v (RV.load (by first | exact hp | exact hc.ld (by omega) | exact hk.ld (by omega)) (Try.isAgg3 _) rfl) rfl ?_
      refine WL.on rfl ?_
      refine WL.v (RV.neq rfl rfl) rfl ?_
      refine WL.v (RV.pickT rfl rfl) rfl ?_
      refine WL.nil ?_
      refine QF.seqNext ?_
      refine WC.cond rfl ?_ ?_
      · intro hne
        refine WC.seq ?_
        refine WC.region ?_
        refine WL.v (RV.assign rfl) rfl ?_
        refine WL.nil ?_
        refine QF.seqNext ?_
        refine WC.ret ?_
        refine QF.blockRet ?_
        refine QF.thenRet ?_
        refine QF.thenRet ?_
        refine QF.blockRet ?_
        refine QF.thenRet ?_
        refine QF.done1 rfl rfl (⟨?_, rfl⟩)
        rw [not_all_nth hlt]
        simp only [free1, hin, hne]; rfl
      · intro hne
        refine WC.skip ?_
        refine QF.blockNormal ?_
        refine QF.seqNext ?_
        refine WC.region ?_
        refine WL.v (RV.add rfl rfl (Fit.i64 (by omega))) rfl ?_
        refine WL.v (RV.move rfl) rfl ?_
        refine WL.nil ?_
        refine QF.next (k + 1) (⟨hlt, fun j hj => ?_⟩) (by omega) ⟨rfl, rfl, rfl, rfl, rfl, rfl, trivial⟩ rfl
        rcases Nat.lt_succ_iff_lt_or_eq.1 hj with h | rfl
        · exact hk2 j h
        · simp only [free1, hin, hne]; rfl
    · skip
      refine WL.know (d := 24) rfl (b' := false) (by simpa using (by omega : ¬ (base : Int) + ((nth cols k : Nat) : Int) < (chk.length : Int))) ?_
      refine WL.off rfl rfl rfl ?_
      refine WL.off rfl rfl rfl ?_
      refine WL.off rfl rfl rfl ?_
      refine WL.off rfl rfl rfl ?_
      refine WL.off rfl rfl rfl ?_
      refine WL.off rfl rfl rfl ?_
      refine WL.off rfl rfl rfl ?_
      refine WL.off rfl rfl rfl ?_
      refine WL.off rfl rfl rfl ?_
      refine WL.off rfl rfl rfl ?_
      refine WL.v (RV.pickF rfl rfl) rfl ?_
      refine WL.nil ?_
      refine QF.seqNext ?_
      refine WC.condF rfl rfl ?_
      refine WC.skip ?_
      refine QF.blockNormal ?_
      refine QF.seqNext ?_
      refine WC.region ?_
      refine WL.v (RV.add rfl rfl (Fit.i64 (by omega))) rfl ?_
      refine WL.v (RV.move rfl) rfl ?_
      refine WL.nil ?_
      refine QF.next (k + 1) (⟨hlt, fun j hj => ?_⟩) (by omega) ⟨rfl, rfl, rfl, rfl, rfl, rfl, trivial⟩ rfl
      rcases Nat.lt_succ_iff_lt_or_eq.1 hj with h | rfl
      · exact hk2 j h
      · simp only [free1, hin]; rfl
  · intro hge
    replace hge : cols.length ≤ k := by simpa using hge
    refine WC.exit ?_
    refine QF.thenExit ?_
    refine QF.thenExit ?_
    refine QF.blockHit ?_
    refine QF.seqNext ?_
    refine WC.seq ?_
    refine WC.region ?_
    refine WL.v (RV.assign rfl) rfl ?_
    refine WL.nil ?_
    refine QF.seqNext ?_
    refine WC.ret ?_
    refine QF.done1 rfl rfl (⟨?_, rfl⟩)
    rw [all_nth fun j hj => hk2 j (by omega)]

/-! usual -/
def cnt (row : List Int) (n : Int) : Int := (row.count n : Int)
def ustep (row : List Int) (b n : Int) : Int := if cnt row b < cnt row n ∨ (cnt row n = cnt row b ∧ n < b) then n else b
def usualM (row : List Int) : Int := row.foldl (ustep row) (nth row 0)

abbrev iv : Int → Value := Value.int .i64
theorem keyInt : KeyL Try.prog 3 iv := KeyL.int Try.underlying3

theorem usual_ret (row : List Int) (rv : Value) (w : World) (h : Ints w rv row) (hne : 0 < row.length) :
    Ret Try.prog 35 [rv] w fun u w' => u = .int .i64 (usualM row) ∧ Ext w w' := by
  have hl := h.len_le
  have hcge : ∀ r z, 0 ≤ cnt r z := fun r z => by simp only [cnt]; omega
  have hcle : ∀ k z, cnt (row.take k) z ≤ k := fun k z => by
    have h1 := List.count_le_length (a := z) (l := row.take k)
    have h2 := List.length_take_le k row
    simp only [cnt]; omega
  refine Ret.enter Try.func35 Try.ntmps35 rfl rfl ?_
  refine WC.seq ?_
  refine WC.region ?_
  refine WL.v (RV.assign rfl) rfl ?_
  refine WL.nil ?_
  refine QF.seqNext ?_
  refine WC.seq ?_
  refine WC.region ?_
  refine WL.makeMap rfl ?_
  refine WL.v (RV.assign rfl) rfl ?_
  refine WL.nil ?_
  refine QF.seqNext ?_
  refine WC.seq ?_
  refine WC.seq ?_
  refine WC.region ?_
  refine WL.v (RV.move rfl) rfl ?_
  refine WL.v (RV.len (by first | exact h.ext (Ext.alloc _ _)) Try.underlying25 rfl) rfl ?_
  refine WL.v (RV.move rfl) rfl ?_
  refine WL.nil ?_
  refine QF.seqNext ?_
  refine WC.block ?_
  refine WC.loop (fun x : Nat × World × List (Int × Int) => [(0, rv), (3, .map (some w.heap.size)), (10, rv), (11, .int .i64 row.length), (12, .int .i64 x.1)]) (fun x : Nat × World × List (Int × Int) => x.2.1) (fun x : Nat × World × List (Int × Int) => x.1 ≤ row.length ∧ MapO iv iv (own1 (fun _ => 0) w.heap.size 1) x.2.1 1 w.heap.size x.2.2 ∧ Upd (fun j => j = 1) (fun _ => 0) w (own1 (fun _ => 0) w.heap.size 1) x.2.1 ∧ ∀ z, (alook x.2.2 z).getD 0 = cnt (row.take x.1) z) (fun x : Nat × World × List (Int × Int) => row.length - x.1) (0, _, []) (⟨Nat.zero_le _, MapO.new _ _ _, Upd.alloc (by decide) (Rng.start _) _ _, fun z => by simp [alook, cnt]⟩) ⟨rfl, rfl, rfl, rfl, rfl, trivial⟩ rfl ?_
  rintro ⟨k, w1, m⟩ ⟨hk, hm, hU, hcnt⟩
  dsimp only at hk hm hU hcnt ⊢
  have h1 := h.ext hU.ext
  refine WC.seq ?_
  refine WC.region ?_
  refine WL.v (RV.lss rfl rfl) rfl ?_
  refine WL.nil ?_
  refine QF.seqNext ?_
  refine WC.seq ?_
  refine WC.cond rfl ?_ ?_
  · intro hlt
    replace hlt : k < row.length := by simpa using hlt
    have hc := hcle k (nth row k)
    have hc0 := hcge (row.take k) (nth row k)
    refine WC.skip ?_
    refine QF.seqNext ?_
    refine WC.seq ?_
    refine WC.block ?_
    refine WC.seq ?_
    refine WC.region ?_
    refine WL.v (RV.indexAddr (by first | exact h1) Try.underlying25 (Try.sizeOf3 _) rfl rfl _ rfl (by omega)) rfl ?_
    refine WL.v (RV.load (by first | exact h1.ld (by omega)) (Try.isAgg3 _) rfl) rfl ?_
    refine WL.v (RV.assign rfl) rfl ?_
    refine WL.nil ?_
    refine QF.seqNext ?_
    refine WC.region ?_
    refine WL.v (RV.move rfl) rfl ?_
    refine WL.v (RV.move rfl) rfl ?_
    refine WL.v (RV.lookup hm Try.underlying65 keyInt (Try.zeroValue3 _) (nth row k) rfl rfl rfl (u := iv (cnt (row.take k) (nth row k))) (by rw [← hcnt]; cases alook m (nth row k) <;> rfl)) rfl ?_
    refine WL.v (RV.add rfl rfl (Fit.i64 (by omega))) rfl ?_
    refine WL.mapUpdate hm Try.underlying65 keyInt (by decide) (nth row k) (cnt (row.take k) (nth row k) + 1) rfl rfl rfl rfl rfl ?_
    intro w2 hm2 hU2
    refine WL.nil ?_
    refine QF.blockNormal ?_
    refine QF.seqNext ?_
    refine WC.region ?_
    refine WL.v (RV.add rfl rfl (Fit.i64 (by omega))) rfl ?_
    refine WL.v (RV.move rfl) rfl ?_
    refine WL.nil ?_
    refine QF.next ((k + 1, w2, _)) (⟨hlt, hm2, hU.trans hU2, fun z => ?_⟩) (by omega) ⟨rfl, rfl, rfl, rfl, rfl, trivial⟩ rfl
    dsimp only
    rw [alook_aput, take_nth hlt]
    by_cases hz : nth row k = z
    · subst hz; simp [cnt]
    · rw [if_neg hz, hcnt]; simp [cnt, List.count_append, hz]
  · intro hge
    replace hge : row.length ≤ k := by simpa using hge
    have hcnt' : ∀ z, (alook m z).getD 0 = cnt row z := fun z => by rw [hcnt, List.take_of_length_le hge]
    refine WC.exit ?_
    refine QF.thenExit ?_
    refine QF.thenExit ?_
    refine QF.blockHit ?_
    refine QF.seqNext ?_
    refine WC.seq ?_
    refine WC.region ?_
    refine WL.v (RV.move rfl) rfl ?_
    refine WL.v (RV.indexAddr (by first | exact h1) Try.underlying25 (Try.sizeOf3 _) rfl rfl _ rfl (by omega)) rfl ?_
    refine WL.v (RV.load (by first | exact h1.ld (by omega)) (Try.isAgg3 _) rfl) rfl ?_
    refine WL.v (RV.assign rfl) rfl ?_
    refine WL.nil ?_
    refine QF.seqNext ?_
    refine WC.seq ?_
    refine WC.seq ?_
    refine WC.region ?_
    refine WL.v (RV.move rfl) rfl ?_
    refine WL.v (RV.len (by first | exact h1) Try.underlying25 rfl) rfl ?_
    refine WL.v (RV.move rfl) rfl ?_
    refine WL.nil ?_
    refine QF.seqNext ?_
    refine WC.block ?_
    refine WC.loop (fun x : Nat × Int => [(3, .map (some w.heap.size)), (24, rv), (25, .int .i64 row.length), (26, .int .i64 x.1), (6, .int .i64 x.2)]) (fun x : Nat × Int => w1) (fun x : Nat × Int => x.1 ≤ row.length ∧ (row.take x.1).foldl (ustep row) (nth row 0) = x.2) (fun x : Nat × Int => row.length - x.1) (0, nth row 0) (⟨Nat.zero_le _, rfl⟩) ⟨rfl, rfl, rfl, rfl, rfl, trivial⟩ rfl ?_
    rintro ⟨k, b⟩ ⟨hk, hb⟩
    dsimp only at hk hb ⊢
    refine WC.seq ?_
    refine WC.region ?_
    refine WL.v (RV.lss rfl rfl) rfl ?_
    refine WL.nil ?_
    refine QF.seqNext ?_
    refine WC.seq ?_
    refine WC.cond rfl ?_ ?_
    · intro hlt
      replace hlt : k < row.length := by simpa using hlt
      have hnext : (row.take (k + 1)).foldl (ustep row) (nth row 0) = ustep row b (nth row k) := by rw [take_nth hlt, List.foldl_append, hb]; rfl
      have L : ∀ z, agot iv (.int .i64 0) (alook m z) = iv (cnt row z) := fun z => by rw [← hcnt']; cases alook m z <;> rfl
      refine WC.skip ?_
      refine QF.seqNext ?_
      refine WC.seq ?_
      refine WC.block ?_
      refine WC.seq ?_
      refine WC.region ?_
      refine WL.v (RV.indexAddr (by first | exact h1) Try.underlying25 (Try.sizeOf3 _) rfl rfl _ rfl (by omega)) rfl ?_
      refine WL.v (RV.load (by first | exact h1.ld (by omega)) (Try.isAgg3 _) rfl) rfl ?_
      refine WL.v (RV.assign rfl) rfl ?_
      refine WL.nil ?_
      refine QF.seqNext ?_
      refine WC.seq ?_
      refine WC.region ?_
      refine WL.v (RV.move rfl) rfl ?_
      refine WL.v (RV.move rfl) rfl ?_
      refine WL.v (RV.lookup hm Try.underlying65 keyInt (Try.zeroValue3 _) (nth row k) rfl rfl rfl (L _)) rfl ?_
      refine WL.v (RV.move rfl) rfl ?_
      refine WL.v (RV.move rfl) rfl ?_
      refine WL.v (RV.lookup hm Try.underlying65 keyInt (Try.zeroValue3 _) b rfl rfl rfl (L _)) rfl ?_
      refine WL.v (RV.gtr rfl rfl) rfl ?_
      refine WL.v (RV.move rfl) rfl ?_
      by_cases h1 : cnt row b < cnt row (nth row k)
      · skip
        refine WL.know (d := 37) rfl (b' := true) (decide_eq_true h1) ?_
        refine WL.off rfl rfl rfl ?_
        refine WL.off rfl rfl rfl ?_
        refine WL.off rfl rfl rfl ?_
        refine WL.off rfl rfl rfl ?_
        refine WL.off rfl rfl rfl ?_
        refine WL.off rfl rfl rfl ?_
        refine WL.off rfl rfl rfl ?_
        refine WL.off rfl rfl rfl ?_
        refine WL.offU rfl rfl ?_
        refine WL.offU rfl rfl ?_
        refine WL.offU rfl rfl ?_
        refine WL.off rfl rfl rfl ?_
        refine WL.v (RV.pickT rfl rfl) rfl ?_
        refine WL.nil ?_
        refine QF.seqNext ?_
        refine WC.condT rfl rfl ?_
        refine WC.region ?_
        refine WL.v (RV.move rfl) rfl ?_
        refine WL.v (RV.assign rfl) rfl ?_
        refine WL.nil ?_
        refine QF.blockNormal ?_
        refine QF.seqNext ?_
        refine WC.region ?_
        refine WL.v (RV.add rfl rfl (Fit.i64 (by omega))) rfl ?_
        refine WL.v (RV.move rfl) rfl ?_
        refine WL.nil ?_
        refine QF.next ((k + 1, _)) (⟨hlt, by rw [hnext, ustep, if_pos (.inl h1)]⟩) (by omega) ⟨rfl, rfl, rfl, rfl, rfl, trivial⟩ rfl
      · skip
        refine WL.know (d := 37) rfl (b' := false) (decide_eq_false h1) ?_
        refine WL.on rfl ?_
        refine WL.v (RV.move rfl) rfl ?_
        refine WL.on rfl ?_
        refine WL.v (RV.move rfl) rfl ?_
        refine WL.on rfl ?_
        refine WL.v (RV.lookup hm Try.underlying65 keyInt (Try.zeroValue3 _) (nth row k) rfl rfl rfl (L _)) rfl ?_
        refine WL.on rfl ?_
        refine WL.v (RV.move rfl) rfl ?_
        refine WL.on rfl ?_
        refine WL.v (RV.move rfl) rfl ?_
        refine WL.on rfl ?_
        refine WL.v (RV.lookup hm Try.underlying65 keyInt (Try.zeroValue3 _) b rfl rfl rfl (L _)) rfl ?_
        refine WL.on rfl ?_
        refine WL.v (RV.eql rfl rfl) rfl ?_
        refine WL.on rfl ?_
        refine WL.v (RV.move rfl) rfl ?_
        by_cases h2 : cnt row (nth row k) = cnt row b
        · skip
          refine WL.know (d := 45) rfl (b' := true) (by simpa using h2) ?_
          refine WL.on rfl ?_
          refine WL.v (RV.move rfl) rfl ?_
          refine WL.on rfl ?_
          refine WL.v (RV.move rfl) rfl ?_
          refine WL.on rfl ?_
          refine WL.v (RV.lss rfl rfl) rfl ?_
          refine WL.on rfl ?_
          refine WL.v (RV.pickT rfl rfl) rfl ?_
          refine WL.v (RV.pickF rfl rfl) rfl ?_
          refine WL.nil ?_
          refine QF.seqNext ?_
          refine WC.cond rfl ?_ ?_
          · intro h3
            replace h3 : nth row k < b := by simpa using h3
            refine WC.region ?_
            refine WL.v (RV.move rfl) rfl ?_
            refine WL.v (RV.assign rfl) rfl ?_
            refine WL.nil ?_
            refine QF.blockNormal ?_
            refine QF.seqNext ?_
            refine WC.region ?_
            refine WL.v (RV.add rfl rfl (Fit.i64 (by omega))) rfl ?_
            refine WL.v (RV.move rfl) rfl ?_
            refine WL.nil ?_
            refine QF.next ((k + 1, _)) (⟨hlt, by rw [hnext, ustep, if_pos (.inr ⟨h2, h3⟩)]⟩) (by omega) ⟨rfl, rfl, rfl, rfl, rfl, trivial⟩ rfl
          · intro h3
            replace h3 : ¬ nth row k < b := by simpa using h3
            refine WC.skip ?_
            refine QF.blockNormal ?_
            refine QF.seqNext ?_
            refine WC.region ?_
            refine WL.v (RV.add rfl rfl (Fit.i64 (by omega))) rfl ?_
            refine WL.v (RV.move rfl) rfl ?_
            refine WL.nil ?_
            refine QF.next ((k + 1, _)) (⟨hlt, by rw [hnext, ustep, if_neg (fun h => h.elim h1 fun h => h3 h.2)]⟩) (by omega) ⟨rfl, rfl, rfl, rfl, rfl, trivial⟩ rfl
        · skip
          refine WL.know (d := 45) rfl (b' := false) (by simpa using h2) ?_
          refine WL.off rfl rfl rfl ?_
          refine WL.off rfl rfl rfl ?_
          refine WL.off rfl rfl rfl ?_
          refine WL.on rfl ?_
          refine WL.v (RV.pickF rfl rfl) rfl ?_
          refine WL.v (RV.pickF rfl rfl) rfl ?_
          refine WL.nil ?_
          refine QF.seqNext ?_
          refine WC.condF rfl rfl ?_
          refine WC.skip ?_
          refine QF.blockNormal ?_
          refine QF.seqNext ?_
          refine WC.region ?_
          refine WL.v (RV.add rfl rfl (Fit.i64 (by omega))) rfl ?_
          refine WL.v (RV.move rfl) rfl ?_
          refine WL.nil ?_
          refine QF.next ((k + 1, _)) (⟨hlt, by rw [hnext, ustep, if_neg (fun h => h.elim h1 fun h => h2 h.1)]⟩) (by omega) ⟨rfl, rfl, rfl, rfl, rfl, trivial⟩ rfl
    · intro hge
      replace hge : row.length ≤ k := by simpa using hge
      refine WC.exit ?_
      refine QF.thenExit ?_
      refine QF.thenExit ?_
      refine QF.blockHit ?_
      refine QF.seqNext ?_
      refine WC.seq ?_
      refine WC.region ?_
      refine WL.v (RV.move rfl) rfl ?_
      refine WL.v (RV.assign rfl) rfl ?_
      refine WL.nil ?_
      refine QF.seqNext ?_
      refine WC.ret ?_
      refine QF.done1 rfl rfl (⟨?_, hU.ext⟩)
      rw [usualM, ← hb, List.take_of_length_le hge]
end Go.Proofs.Ytahdlfnjnjngaaa
