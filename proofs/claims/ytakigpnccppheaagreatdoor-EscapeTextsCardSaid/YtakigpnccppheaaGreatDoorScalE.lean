/- Chapter 1 by the document, walked: At, All. -/
import Derived.Test.YtakigpnccppheaaGreatDoorScalD
namespace Go.Proofs.YtakigpnccppheaaGreatDoor
open Go.VL Go.Proofs
set_option maxRecDepth 4000
theorem pl47 : Places Tryz.prog 47 #[(0, 1), (1, 1), (2, 1)] := ⟨_, Tryz.underlying47, fun w => by kernel_rfl⟩

/-- A piece: a scalar, its bytes, whether it is whole. -/
abbrev Pce := Int × Nat × Bool
@[simp] def encP (x : Pce) : List Value := [.int .i32 x.1, .int .i64 x.2.1, .bool x.2.2]

theorem decM_dead {L : List UInt8} (h : L ≠ []) (h0 : needN (by8 L 0) = 0) : decM L = (65533, 1, false) := by unfold decM; rw [if_neg h, if_pos h0]
theorem decM_part {L : List UInt8} {k : Nat} (h : L ≠ []) (hn : k < needN (by8 L 0)) (h1 : 1 ≤ k) (hj : ∀ j, 1 ≤ j → j < k → j < needN (by8 L 0) ∧ okB L (needLo (by8 L 0)) (needHi (by8 L 0)) j) (hk : ¬ okB L (needLo (by8 L 0)) (needHi (by8 L 0)) k) : decM L = (65533, k, false) := by
  have e := there_unique (needN_le _) h1 hj (fun h => hk h.2)
  unfold decM; rw [if_neg h, if_neg (by omega), ← e, if_pos hn]
theorem decM_whole {L : List UInt8} (h : L ≠ []) (h1 : 1 ≤ needN (by8 L 0)) (hj : ∀ j, 1 ≤ j → j < needN (by8 L 0) → okB L (needLo (by8 L 0)) (needHi (by8 L 0)) j) : decM L = (((valM L (needN (by8 L 0)) : Nat) : Int), needN (by8 L 0), true) := by
  have e := there_unique (needN_le _) h1 (fun j a b => ⟨b, hj j a b⟩) (fun h => Nat.lt_irrefl _ h.1)
  unfold decM; rw [if_neg h, if_neg (by omega), ← e, if_neg (Nat.lt_irrefl _)]

theorem at_ret (l : List UInt8) (bv : Value) (at' : Nat) (w : World) (h : Bytes w bv l) (ha : at' < l.length) :
    Ret Tryz.prog 33 [bv, .int .i64 at'] w fun v w' => v = .agg #[.int .i32 (decM (l.drop at')).1, .int .i64 (decM (l.drop at')).2.1, .bool (decM (l.drop at')).2.2] ∧ Ext w w' := by
  have hm := h.len_le
  generalize hL : l.drop at' = L
  have hLl : L.length = l.length - at' := by rw [← hL]; simp
  have hne : L ≠ [] := fun e => by rw [e] at hLl; simp at hLl; omega
  have hn4 := needN_le (by8 L 0)
  refine Ret.enter Tryz.func33 Tryz.ntmps33 rfl rfl ?_
  refine WC.seq ?_
  refine WC.region ?_
  refine WL.allocO (Rng.start w) 1 (by omega) (Tryz.zeroValue47 _) rfl ?_
  intro rb w1 O1 hrb hU1 hR1 hE1
  replace h := h.ext hE1
  refine WL.nil ?_
  refine QF.seqNext ?_
  refine WC.seq ?_
  refine WC.region ?_
  refine WL.v (RV.assign rfl) rfl ?_
  refine WL.nil ?_
  refine QF.seqNext ?_
  refine WC.seq ?_
  refine WC.seq ?_
  refine WC.region ?_
  refine WL.v (RV.assign rfl) rfl ?_
  refine WL.nil ?_
  refine QF.seqNext ?_
  refine WC.block ?_
  refine WC.loop (fun x : Nat × Nat => [(0, bv), (1, .int .i64 at'), (4, .pointer (some ⟨rb, 0, none⟩)), (5, .int .i64 x.2), (6, .int .i64 x.1)]) (fun x : Nat × Nat => w1) (fun x : Nat × Nat => 1 ≤ x.1 ∧ x.1 ≤ L.length + 1 ∧ (x.1 = 1 ∧ x.2 = 1 ∨ x.1 ≤ needN (by8 L 0) ∧ x.2 + 1 = x.1 ∧ 1 ≤ x.2) ∧ (∀ j, 1 ≤ j → j + 1 < x.1 → okB L (needLo (by8 L 0)) (needHi (by8 L 0)) j)) (fun x : Nat × Nat => L.length + 1 - x.1) (1, 1) (⟨Nat.le_refl _, by omega, .inl ⟨rfl, rfl⟩, fun j a b => by dsimp only at b; omega⟩) ⟨rfl, rfl, rfl, rfl, rfl, trivial⟩ rfl ?_
  rintro ⟨k, s⟩ ⟨hk1, hkl, hks, hA⟩
  dsimp only at hk1 hkl hks hA ⊢
  have hLpos : 1 ≤ L.length := by omega
  refine WC.seq ?_
  refine WC.seq ?_
  refine WC.region ?_
  refine WL.v (RV.move rfl) rfl ?_
  refine WL.v (RV.leq rfl rfl) rfl ?_
  refine WL.v (RV.move rfl) rfl ?_
  have hk4 : k ≤ 4 := by omega
  refine WL.know (d := 11) rfl (b' := true) (decide_eq_true (by omega)) ?_
  refine WL.on rfl ?_
  refine WL.v (RV.move rfl) rfl ?_
  refine WL.on rfl ?_
  refine WL.v (RV.move rfl) rfl ?_
  refine WL.on rfl ?_
  refine WL.v (RV.len (by first | exact h) Tryz.underlying31 rfl) rfl ?_
  refine WL.on rfl ?_
  refine WL.v (RV.move rfl) rfl ?_
  refine WL.on rfl ?_
  refine WL.v (RV.sub rfl rfl (Fit.i64 (by omega))) rfl ?_
  refine WL.on rfl ?_
  refine WL.v (RV.leq rfl rfl) rfl ?_
  refine WL.v (RV.pickT rfl rfl) rfl ?_
  refine WL.nil ?_
  refine QF.seqNext ?_
  refine WC.cond rfl ?_ ?_
  · intro hlt
    replace hlt : k ≤ L.length := by have := of_decide_eq_true hlt; omega
    refine WC.skip ?_
    refine QF.seqNext ?_
    refine WC.seq ?_
    refine WC.block ?_
    refine WC.seq ?_
    refine WC.region ?_
    refine WL.v (RV.move rfl) rfl ?_
    refine WL.v (RV.move rfl) rfl ?_
    refine WL.v (RV.move rfl) rfl ?_
    refine WL.v (RV.move rfl) rfl ?_
    refine WL.v (RV.add rfl rfl (Fit.i64 (by omega))) rfl ?_
    refine WL.v (RV.slice h Tryz.underlying31 (Tryz.sizeOf5 _) rfl rfl rfl at' (at' + k) rfl rfl (by omega) (by omega)) rfl ?_
    have hs : Bytes w1 (sliceV bv 1 at' (at' + k)) ((l.take (at' + k)).drop at') := h.slice (by omega) (by omega)
    rw [List.drop_take, Nat.add_sub_cancel_left, hL] at hs
    have hsl : (L.take k).length = k := by simp; omega
    refine WL.call Tryz.call50 rfl (begins_ret (L.take k) _ w1 hs (by omega) (by omega)) rfl ?_
    rintro v _ ⟨r, rfl, hB, rfl⟩
    obtain ⟨z1, z2⟩ := beg_at L k hk1 hlt (by omega) hA r hB
    refine WL.v (RV.move rfl) rfl ?_
    refine WL.v (RV.extract rfl rfl) rfl ?_
    refine WL.v (RV.extract rfl rfl) rfl ?_
    refine WL.v (RV.assign rfl) rfl ?_
    refine WL.v (RV.assign rfl) rfl ?_
    refine WL.nil ?_
    refine QF.seqNext ?_
    refine WC.seq ?_
    refine WC.seq ?_
    refine WC.region ?_
    refine WL.v (RV.move rfl) rfl ?_
    refine WL.v (RV.eql rfl rfl) rfl ?_
    refine WL.nil ?_
    refine QF.seqNext ?_
    refine WC.cond rfl ?_ ?_
    · intro hz
      replace hz : r.2 = 0 := by have : (r.2 : Int) = 0 := by simpa using hz
                                 omega
      have hd : decM L = (65533, s, false) := by
        by_cases hn0 : needN (by8 L 0) = 0
        · rw [decM_dead hne hn0, show s = 1 from by omega]
        · have hno : ¬ (k = 1 ∨ okB L (needLo (by8 L 0)) (needHi (by8 L 0)) (k - 1)) := fun hy => by have := (z1 hy hn0).1; omega
          simp only [not_or] at hno
          exact decM_part hne (by omega) (by omega) (fun j a b => ⟨by omega, hA j a (by omega)⟩) (by rw [show s = k - 1 from by omega]; exact hno.2)
      refine WC.exit ?_
      refine QF.thenExit ?_
      refine QF.blockMiss rfl ?_
      refine QF.thenExit ?_
      refine QF.thenExit ?_
      refine QF.blockHit ?_
      refine QF.seqNext ?_
      refine WC.seq ?_
      refine WC.region ?_
      refine WL.v (RV.move rfl) rfl ?_
      refine WL.v (RV.buildF pl47 (Tryz.zeroValue47 _) rfl (by first | rfl | (simp only [List.all_cons, List.all_nil]; rfl)) rfl rfl) rfl ?_
      refine WL.storeAgg (us := #[.int .i32 65533, .int .i64 s, .bool false]) hrb rfl (Tryz.sizeOf47 _) rfl rfl rfl rfl ?_
      refine WL.nil ?_
      refine QF.seqNext ?_
      refine WC.ret ?_
      refine QF.doneC1 rfl rfl ((hrb.setRow).cellsAdd) (Tryz.isAgg47 _) (Tryz.sizeOf47 _) (⟨by rw [hd], (hU1.trans (Upd.setRow (by decide) hrb.tag rfl)).ext⟩)
    · intro hz
      replace hz : r.2 ≠ 0 := by have : ¬ (r.2 : Int) = 0 := by simpa using hz
                                 omega
      have hyes : (k = 1 ∨ okB L (needLo (by8 L 0)) (needHi (by8 L 0)) (k - 1)) ∧ needN (by8 L 0) ≠ 0 := by
        refine ⟨Classical.byContradiction fun hno => hz (z2 (.inl hno)), fun h0 => hz (z2 (.inr h0))⟩
      obtain ⟨y1, y2⟩ := z1 hyes.1 hyes.2
      have hokj : ∀ j, 1 ≤ j → j < k → okB L (needLo (by8 L 0)) (needHi (by8 L 0)) j := fun j a b => by
        by_cases hj : j + 1 < k
        · exact hA j a hj
        · rcases hyes.1 with h2 | h2
          · omega
          · rw [show j = k - 1 from by omega]; exact h2
      refine WC.skip ?_
      refine QF.seqNext ?_
      refine WC.seq ?_
      refine WC.seq ?_
      refine WC.region ?_
      refine WL.v (RV.move rfl) rfl ?_
      refine WL.v (RV.move rfl) rfl ?_
      refine WL.v (RV.eql rfl rfl) rfl ?_
      refine WL.nil ?_
      refine QF.seqNext ?_
      refine WC.cond rfl ?_ ?_
      · intro hq
        replace hq : r.2 = k := by have : (r.2 : Int) = k := by simpa using hq
                                   omega
        have hkn : k = needN (by8 L 0) := by omega
        have hd := decM_whole hne (by omega) (by rw [← hkn]; exact hokj)
        rw [← y2 hkn, ← y1] at hd
        refine WC.seq ?_
        refine WC.region ?_
        refine WL.v (RV.move rfl) rfl ?_
        refine WL.v (RV.move rfl) rfl ?_
        refine WL.v (RV.buildF pl47 (Tryz.zeroValue47 _) rfl (by first | rfl | (simp only [List.all_cons, List.all_nil]; rfl)) rfl rfl) rfl ?_
        refine WL.storeAgg (us := #[.int .i32 r.1, .int .i64 r.2, .bool true]) hrb rfl (Tryz.sizeOf47 _) rfl rfl rfl rfl ?_
        refine WL.nil ?_
        refine QF.seqNext ?_
        refine WC.ret ?_
        refine QF.thenRet ?_
        refine QF.blockRet ?_
        refine QF.thenRet ?_
        refine QF.thenRet ?_
        refine QF.blockRet ?_
        refine QF.thenRet ?_
        refine QF.doneC1 rfl rfl ((hrb.setRow).cellsAdd) (Tryz.isAgg47 _) (Tryz.sizeOf47 _) (⟨by rw [hd], (hU1.trans (Upd.setRow (by decide) hrb.tag rfl)).ext⟩)
      · intro hq
        replace hq : r.2 ≠ k := by have : ¬ (r.2 : Int) = k := by simpa using hq
                                   omega
        refine WC.skip ?_
        refine QF.seqNext ?_
        refine WC.region ?_
        refine WL.v (RV.move rfl) rfl ?_
        refine WL.v (RV.assign rfl) rfl ?_
        refine WL.nil ?_
        refine QF.blockNormal ?_
        refine QF.seqNext ?_
        refine WC.region ?_
        refine WL.v (RV.move rfl) rfl ?_
        refine WL.v (RV.add rfl rfl (Fit.i64 (by omega))) rfl ?_
        refine WL.v (RV.assign rfl) rfl ?_
        refine WL.nil ?_
        refine QF.next ((k + 1, k)) (⟨by dsimp only; omega, by dsimp only; omega, .inr ⟨by dsimp only; omega, rfl, hk1⟩, fun j a b => hokj j a (by dsimp only at b; omega)⟩) (by dsimp only; omega) ⟨rfl, rfl, rfl, rfl, rfl, trivial⟩ rfl
  · intro hge
    replace hge : L.length < k := by have := of_decide_eq_false hge; omega
    have hd : decM L = (65533, s, false) := decM_part hne (by omega) (by omega) (fun j a b => ⟨by omega, hA j a (by omega)⟩) (fun hy => by have := hy.1; omega)
    refine WC.exit ?_
    refine QF.thenExit ?_
    refine QF.thenExit ?_
    refine QF.blockHit ?_
    refine QF.seqNext ?_
    refine WC.seq ?_
    refine WC.region ?_
    refine WL.v (RV.move rfl) rfl ?_
    refine WL.v (RV.buildF pl47 (Tryz.zeroValue47 _) rfl (by first | rfl | (simp only [List.all_cons, List.all_nil]; rfl)) rfl rfl) rfl ?_
    refine WL.storeAgg (us := #[.int .i32 65533, .int .i64 s, .bool false]) hrb rfl (Tryz.sizeOf47 _) rfl rfl rfl rfl ?_
    refine WL.nil ?_
    refine QF.seqNext ?_
    refine WC.ret ?_
    refine QF.doneC1 rfl rfl ((hrb.setRow).cellsAdd) (Tryz.isAgg47 _) (Tryz.sizeOf47 _) (⟨by rw [hd], (hU1.trans (Upd.setRow (by decide) hrb.tag rfl)).ext⟩)
end Go.Proofs.YtakigpnccppheaaGreatDoor
