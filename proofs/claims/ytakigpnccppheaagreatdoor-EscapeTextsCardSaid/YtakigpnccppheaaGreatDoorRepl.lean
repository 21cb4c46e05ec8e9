/- Package strings, walked: a Replacer of single bytes, made, built once, used. -/
import Derived.Test.YtakigpnccppheaaGreatDoorOnce
import Derived.Test.YtakigpnccppheaaGreatDoorEscC0
namespace Go.Proofs.YtakigpnccppheaaGreatDoor
open Go.VL Go.Proofs
set_option maxRecDepth 10000

theorem elStr : Elem Tryz.prog 40 9 1 16 := ⟨Tryz.underlying40, by kernel_rfl, by decide⟩
theorem own1_zero (b i : Nat) (k : Nat) (h : k ≠ b) : own1 (fun _ => 0) b i k = 0 := if_neg h
/-- What a new Replacer is. -/
structure NewRep (w0 w : World) (b : Nat) (ov : Value) (us : List (List UInt8)) : Prop where
  blk : BlkO (own1 (fun _ => 0) b 1) w 1 b #[.int .u32 0, .int .i32 0, .int .u32 0, .nilIface, ov] 86
  rng : Rng w0.heap.size (own1 (fun _ => 0) b 1) w
  sl : Sl encS 1 w ov us
  free : Free (own1 (fun _ => 0) b 1) w ov
  ext : Ext w0 w
theorem pl86 : Places Tryz.prog 86 #[(0, 3), (3, 1), (4, 1)] := ⟨_, Tryz.underlying86, fun w => by kernel_rfl⟩
theorem newReplacer_ret (us : List (List UInt8)) (uv : Value) (w : World) (h : Sl encS 1 w uv us) (h0 : us.length ≠ 0) (hn : us.length ≤ 1000) (h2 : ¬ us.length % 2 = 1) :
    Ret Tryz.prog 14 [uv] w fun v w' => ∃ b ov, v = .pointer (some ⟨b, 0, none⟩) ∧ NewRep w w' b ov us := by
  refine Ret.enter Tryz.func14 Tryz.ntmps14 rfl rfl ?_
  refine WC.seq ?_
  refine WC.region ?_
  refine WL.v (RV.assign rfl) rfl ?_
  refine WL.nil ?_
  refine QF.seqNext ?_
  refine WC.seq ?_
  refine WC.seq ?_
  refine WC.region ?_
  refine WL.v (RV.move rfl) rfl ?_
  refine WL.v (RV.len (by first | exact h) Tryz.underlying40 rfl) rfl ?_
  refine WL.v (RV.rem (m := (us.length : Int)) (n := 2) rfl rfl (by decide)) rfl ?_
  refine WL.v (RV.eql rfl rfl) rfl ?_
  refine WL.nil ?_
  refine QF.seqNext ?_
  refine WC.condF rfl (decide_eq_false (by rw [show (us.length : Int).tmod 2 = ((us.length % 2 : Nat) : Int) from (Int.ofNat_tmod us.length 2).symm]; omega)) ?_
  refine WC.skip ?_
  refine QF.seqNext ?_
  refine WC.seq ?_
  refine WC.region ?_
  refine WL.v (RV.move rfl) rfl ?_
  refine WL.appendSl elStr (RowT.nil _ _ _ (fun _ => 0) w 2) (Rng.start w) h h0 rfl rfl (by simp) (by simp [Value.oneCell']) (by simp; omega) (by simp; omega) (by decide) rfl ?_
  intro ov w1 O1 hr1 hU1 hR1
  rw [List.nil_append] at hr1
  have hE1 := hU1.ext
  have hfr : Free (fun _ => 0) w1 ov := hr1.free (by decide) hR1 (Rng.start w)
  refine WL.v (RV.buildF pl86 (Tryz.zeroValue86 _) rfl (by first | rfl | (simp only [List.all_cons, hr1.one, List.all_nil]; rfl)) rfl rfl) rfl ?_
  refine WL.boxO (Rng.start w1) 1 (by omega) rfl rfl ?_
  intro b w2 O2 hb2 hU2 hR2 hE2
  have hbr := hR2.rng b (by rw [hb2.tag]; decide)
  have hs2 := hr1.sl.ext hE2
  refine WL.v (RV.assign rfl) rfl ?_
  refine WL.nil ?_
  refine QF.seqNext ?_
  refine WC.ret ?_
  refine QF.done1 rfl rfl (⟨b, ov, rfl, ⟨hb2.blk, own1_at _ _ _⟩, ⟨Nat.le_trans hE1.size hE2.size, fun k hk => ?_⟩, hs2, fun a n c e => ?_, hE1.trans hE2⟩)
  · have : k = b := Classical.byContradiction fun hne => hk (own1_zero b 1 k hne)
    subst this
    exact ⟨Nat.le_trans hE1.size hbr.1, hbr.2⟩
  · have hf := (hfr a n c e).2
    exact ⟨own1_zero _ _ _ (by omega), Nat.lt_of_lt_of_le hf hE2.size⟩

def oldM : List (List UInt8) := [[38], [38, 97, 109, 112, 59], [60], [38, 108, 116, 59], [62], [38, 103, 116, 59]]
/-- What stands for a byte, when so many pairs have been laid. -/
def repAt (m k : Nat) : Option (List UInt8) :=
  if 1 ≤ m ∧ k = 62 then some [38, 103, 116, 59] else if 2 ≤ m ∧ k = 60 then some [38, 108, 116, 59] else if 3 ≤ m ∧ k = 38 then some [38, 97, 109, 112, 59] else none
theorem repAt_escB (b : UInt8) : escB b = (repAt 3 b.toNat).getD [b] := by
  have h : ∀ c : UInt8, (b = c) ↔ (b.toNat = c.toNat) := fun c => ⟨fun e => by rw [e], fun e => UInt8.toNat_inj.1 e⟩
  unfold escB repAt
  simp only [h]
  have e1 : (38 : UInt8).toNat = 38 := rfl
  have e2 : (60 : UInt8).toNat = 60 := rfl
  have e3 : (62 : UInt8).toNat = 62 := rfl
  rw [e1, e2, e3]
  by_cases h1 : b.toNat = 38
  · simp [h1]
  · by_cases h2 : b.toNat = 60
    · simp [h2]
    · by_cases h3 : b.toNat = 62
      · simp [h3]
      · simp [h1, h2, h3]
/-- The bytes that are replaced, as a Replacer keeps them. -/
def toM (m : Nat) : List (List UInt8) := [[62], [60], [38]].take m
def RepOk (O : Nat → Nat) (w : World) (sv : Value) : Option (List UInt8) → Prop
  | none => sv = .slice none 0 0
  | some l => Sl encB 1 w sv l ∧ Free O w sv ∧ ∃ q c, sv = .slice (some q) l.length c
theorem RepOk.upd {S : Nat → Prop} {O O' : Nat → Nat} {w w' : World} {sv : Value} {o : Option (List UInt8)} (h : RepOk O w sv o) (u : Upd S O w O' w') : RepOk O' w' sv o := by
  cases o with
  | none => exact h
  | some l => exact ⟨h.1.upd h.2.1 u, h.2.1.upd u, h.2.2⟩
def RepsOk (O : Nat → Nat) (w : World) (m : Nat) (cs : Array Value) : Prop := ∀ k, k < 256 → ∃ sv, cs[k]? = some sv ∧ RepOk O w sv (repAt m k)
theorem RepsOk.upd {S : Nat → Prop} {O O' : Nat → Nat} {w w' : World} {m : Nat} {cs : Array Value} (h : RepsOk O w m cs) (u : Upd S O w O' w') : RepsOk O' w' m cs := fun k hk => by
  obtain ⟨sv, h1, h2⟩ := h k hk
  exact ⟨sv, h1, h2.upd u⟩
def zs257 (v : Value) : Array Value := (Array.replicate 256 (.slice none 0 0)).push v
theorem zero257 (w : World) : (zeroValue 150).run Tryz.prog w = .ok (.agg (zs257 (.slice none 0 0))) w := Tryz.zeroValue150 w
theorem zs257_size (v : Value) : (zs257 v).size = 257 := by simp [zs257]
theorem zs257_last (v : Value) : (zs257 v)[256]? = some v := by
  rw [zs257, Array.getElem?_push, if_pos (by simp)]
theorem zs257_set (u v : Value) : (zs257 u).setIfInBounds 256 v = zs257 v := by
  apply Array.ext'
  simp [zs257]
theorem zs257_one (v : Value) (h : v.oneCell' = true) : (zs257 v).toList.all Value.oneCell' = true := by
  rw [List.all_eq_true]
  intro x hx
  simp only [zs257, Array.toList_push, Array.toList_replicate, List.mem_append, List.mem_replicate, List.mem_singleton] at hx
  rcases hx with ⟨_, rfl⟩ | rfl
  · rfl
  · exact h
theorem zs257_reps (O : Nat → Nat) (w : World) (v : Value) : RepsOk O w 0 (zs257 v) := fun k hk => by
  refine ⟨.slice none 0 0, ?_, ?_⟩
  · rw [zs257, Array.getElem?_push, if_neg (by simp; omega)]
    simp [hk]
  · simp [repAt, RepOk]
theorem old_cell {W : World} {ov : Value} (h : Sl encS 1 W ov oldM) (n : Nat) {s : List UInt8} (hn : oldM[n]? = some s) : W.cell? (adr ov 1 n) = some (.string (bs s)) := by
  obtain ⟨h1, h2⟩ := List.getElem?_eq_some_iff.1 hn
  have := h.cells n h1 0 _ rfl
  rw [h2] at this
  exact this
theorem repAt_other (m k k' : Nat) (h : (m = 0 ∧ k = 62) ∨ (m = 1 ∧ k = 60) ∨ (m = 2 ∧ k = 38)) (hne : k' ≠ k) : repAt (m + 1) k' = repAt m k' := by
  unfold repAt; (repeat' split) <;> first | rfl | omega
theorem repAt_now (m k : Nat) (h : (m = 0 ∧ k = 62) ∨ (m = 1 ∧ k = 60) ∨ (m = 2 ∧ k = 38)) : repAt m k = none := by
  unfold repAt; (repeat' split) <;> first | rfl | omega

theorem pl150 : Places Tryz.prog 150 #[(0, 256), (256, 1)] := ⟨_, Tryz.underlying150, fun w => by kernel_rfl⟩

/-- What a Replacer is when it is built. -/
structure Built (O : Nat → Nat) (w : World) (rb : Nat) (cs : Array Value) : Prop where
  blk : BlkO O w 3 rb cs 150
  reps : RepsOk O w 3 cs
  size : cs.size = 257
  to : ∃ tv, cs[256]? = some tv ∧ RowT encS 9 1 O w 4 tv (toM 3)
theorem build_ret (B : Nat) (O : Nat → Nat) (b : Nat) (cs : Array Value) (ov : Value) (w : World) (hR : Rng B O w) (hb : BlkO O w 1 b cs 86) (h4 : cs[4]? = some ov) (hs : Sl encS 1 w ov oldM) (hf : Free O w ov) :
    Ret Tryz.prog 46 [.pointer (some ⟨b, 0, none⟩)] w fun v w' => ∃ rb O' cs', v = .iface 151 (.pointer (some ⟨rb, 0, none⟩)) ∧ Built O' w' rb cs' ∧ Upd (fun k => k = 3 ∨ k = 4) O w O' w' ∧ Rng B O' w' := by
  have hlen : oldM.length = 6 := rfl
  refine Ret.enter Tryz.func46 Tryz.ntmps46 rfl rfl ?_
  refine WC.seq ?_
  refine WC.region ?_
  refine WL.v (RV.assign rfl) rfl ?_
  refine WL.nil ?_
  refine QF.seqNext ?_
  refine WC.seq ?_
  refine WC.region ?_
  refine WL.v (RV.move rfl) rfl ?_
  refine WL.v (RV.nilPtr rfl) rfl ?_
  refine WL.v (RV.fieldAddr 4 Tryz.underlying86 rfl rfl (Tryz.sizeOf40 _) (by decide) rfl) rfl ?_
  refine WL.v (RV.load (by first | exact hb.cell 4 h4) (Tryz.isAgg40 _) rfl) rfl ?_
  refine WL.v (RV.assign rfl) rfl ?_
  refine WL.nil ?_
  refine QF.seqNext ?_
  refine WC.seq ?_
  refine WC.seq ?_
  refine WC.region ?_
  refine WL.v (RV.move rfl) rfl ?_
  refine WL.v (RV.len (by first | exact hs) Tryz.underlying40 rfl) rfl ?_
  refine WL.v (RV.eql rfl rfl) rfl ?_
  refine WL.v (RV.move rfl) rfl ?_
  refine WL.know (d := 22) rfl (b' := false) (rfl) ?_
  refine WL.off rfl rfl rfl ?_
  refine WL.off rfl rfl rfl ?_
  refine WL.off rfl rfl rfl ?_
  refine WL.off rfl rfl rfl ?_
  refine WL.off rfl rfl rfl ?_
  refine WL.v (RV.pickF rfl rfl) rfl ?_
  refine WL.nil ?_
  refine QF.seqNext ?_
  refine WC.condF rfl rfl ?_
  refine WC.skip ?_
  refine QF.seqNext ?_
  refine WC.seq ?_
  refine WC.region ?_
  refine WL.v (RV.assign rfl) rfl ?_
  refine WL.nil ?_
  refine QF.seqNext ?_
  refine WC.seq ?_
  refine WC.seq ?_
  refine WC.region ?_
  refine WL.v (RV.assign rfl) rfl ?_
  refine WL.nil ?_
  refine QF.seqNext ?_
  refine WC.block ?_
  refine WC.loop (fun x : Nat × Bool × Int => [(3, ov), (4, .bool x.2.1), (5, .int .i64 x.2.2)]) (fun x : Nat × Bool × Int => w) (fun x : Nat × Bool × Int => x.1 ≤ 3 ∧ x.2.2 = 2 * x.1 ∧ x.2.1 = decide (x.1 = 0)) (fun x : Nat × Bool × Int => 3 - x.1) (0, true, 0) (⟨by decide, rfl, rfl⟩) ⟨rfl, rfl, rfl, trivial⟩ rfl ?_
  rintro ⟨m, fl, ii⟩ ⟨hm, hii, hfl⟩
  dsimp only at hm hii hfl ⊢
  refine WC.seq ?_
  refine WC.seq ?_
  refine WC.region ?_
  refine WL.v (RV.move rfl) rfl ?_
  refine WL.v (RV.move rfl) rfl ?_
  refine WL.v (RV.len (by first | exact hs) Tryz.underlying40 rfl) rfl ?_
  refine WL.v (RV.lss rfl rfl) rfl ?_
  refine WL.nil ?_
  refine QF.seqNext ?_
  refine WC.cond rfl ?_ ?_
  · intro hlt
    replace hlt : m < 3 := by have := of_decide_eq_true hlt; omega
    refine WC.skip ?_
    refine QF.seqNext ?_
    refine WC.seq ?_
    refine WC.block ?_
    refine WC.seq ?_
    refine WC.seq ?_
    refine WC.region ?_
    refine WL.v (RV.move rfl) rfl ?_
    refine WL.v (RV.move rfl) rfl ?_
    obtain rfl | rfl | rfl : m = 0 ∨ m = 1 ∨ m = 2 := by omega
    · obtain rfl : ii = 0 := hii
      refine WL.v (RV.indexAddr hs Tryz.underlying40 (Tryz.sizeOf9 _) rfl rfl 0 rfl (by omega)) rfl ?_
      refine WL.v (RV.load (by first | exact old_cell hs 0 rfl) (Tryz.isAgg9 _) rfl) rfl ?_
      refine WL.v (RV.lenS Tryz.underlying9 rfl) rfl ?_
      refine WL.v (RV.neq rfl rfl) rfl ?_
      refine WL.nil ?_
      refine QF.seqNext ?_
      refine WC.condF rfl (rfl) ?_
      refine WC.skip ?_
      refine QF.seqNext ?_
      refine WC.seq ?_
      refine WC.region ?_
      refine WL.v (RV.move rfl) rfl ?_
      refine WL.v (RV.move rfl) rfl ?_
      refine WL.v (RV.add rfl rfl (Fit.i64 (by omega))) rfl ?_
      refine WL.v (RV.indexAddr hs Tryz.underlying40 (Tryz.sizeOf9 _) rfl rfl 1 rfl (by omega)) rfl ?_
      refine WL.v (RV.load (by first | exact old_cell hs 1 rfl) (Tryz.isAgg9 _) rfl) rfl ?_
      refine WL.v (RV.lenS Tryz.underlying9 rfl) rfl ?_
      refine WL.v (RV.neq rfl rfl) rfl ?_
      refine WL.nil ?_
      refine QF.seqNext ?_
      refine WC.condT rfl (rfl) ?_
      refine WC.region ?_
      refine WL.v (RV.assign rfl) rfl ?_
      refine WL.nil ?_
      refine QF.blockNormal ?_
      refine QF.seqNext ?_
      refine WC.region ?_
      refine WL.v (RV.move rfl) rfl ?_
      refine WL.v (RV.add rfl rfl (Fit.i64 (by omega))) rfl ?_
      refine WL.v (RV.assign rfl) rfl ?_
      refine WL.nil ?_
      refine QF.next ((0 + 1, false, 0 + 2)) (⟨by dsimp only; omega, by dsimp only; omega, rfl⟩) (by dsimp only; omega) ⟨rfl, rfl, rfl, trivial⟩ rfl
    · obtain rfl : ii = 2 := hii
      refine WL.v (RV.indexAddr hs Tryz.underlying40 (Tryz.sizeOf9 _) rfl rfl 2 rfl (by omega)) rfl ?_
      refine WL.v (RV.load (by first | exact old_cell hs 2 rfl) (Tryz.isAgg9 _) rfl) rfl ?_
      refine WL.v (RV.lenS Tryz.underlying9 rfl) rfl ?_
      refine WL.v (RV.neq rfl rfl) rfl ?_
      refine WL.nil ?_
      refine QF.seqNext ?_
      refine WC.condF rfl (rfl) ?_
      refine WC.skip ?_
      refine QF.seqNext ?_
      refine WC.seq ?_
      refine WC.region ?_
      refine WL.v (RV.move rfl) rfl ?_
      refine WL.v (RV.move rfl) rfl ?_
      refine WL.v (RV.add rfl rfl (Fit.i64 (by omega))) rfl ?_
      refine WL.v (RV.indexAddr hs Tryz.underlying40 (Tryz.sizeOf9 _) rfl rfl 3 rfl (by omega)) rfl ?_
      refine WL.v (RV.load (by first | exact old_cell hs 3 rfl) (Tryz.isAgg9 _) rfl) rfl ?_
      refine WL.v (RV.lenS Tryz.underlying9 rfl) rfl ?_
      refine WL.v (RV.neq rfl rfl) rfl ?_
      refine WL.nil ?_
      refine QF.seqNext ?_
      refine WC.condT rfl (rfl) ?_
      refine WC.region ?_
      refine WL.v (RV.assign rfl) rfl ?_
      refine WL.nil ?_
      refine QF.blockNormal ?_
      refine QF.seqNext ?_
      refine WC.region ?_
      refine WL.v (RV.move rfl) rfl ?_
      refine WL.v (RV.add rfl rfl (Fit.i64 (by omega))) rfl ?_
      refine WL.v (RV.assign rfl) rfl ?_
      refine WL.nil ?_
      refine QF.next ((1 + 1, false, 2 + 2)) (⟨by dsimp only; omega, by dsimp only; omega, rfl⟩) (by dsimp only; omega) ⟨rfl, rfl, rfl, trivial⟩ rfl
    · obtain rfl : ii = 4 := hii
      refine WL.v (RV.indexAddr hs Tryz.underlying40 (Tryz.sizeOf9 _) rfl rfl 4 rfl (by omega)) rfl ?_
      refine WL.v (RV.load (by first | exact old_cell hs 4 rfl) (Tryz.isAgg9 _) rfl) rfl ?_
      refine WL.v (RV.lenS Tryz.underlying9 rfl) rfl ?_
      refine WL.v (RV.neq rfl rfl) rfl ?_
      refine WL.nil ?_
      refine QF.seqNext ?_
      refine WC.condF rfl (rfl) ?_
      refine WC.skip ?_
      refine QF.seqNext ?_
      refine WC.seq ?_
      refine WC.region ?_
      refine WL.v (RV.move rfl) rfl ?_
      refine WL.v (RV.move rfl) rfl ?_
      refine WL.v (RV.add rfl rfl (Fit.i64 (by omega))) rfl ?_
      refine WL.v (RV.indexAddr hs Tryz.underlying40 (Tryz.sizeOf9 _) rfl rfl 5 rfl (by omega)) rfl ?_
      refine WL.v (RV.load (by first | exact old_cell hs 5 rfl) (Tryz.isAgg9 _) rfl) rfl ?_
      refine WL.v (RV.lenS Tryz.underlying9 rfl) rfl ?_
      refine WL.v (RV.neq rfl rfl) rfl ?_
      refine WL.nil ?_
      refine QF.seqNext ?_
      refine WC.condT rfl (rfl) ?_
      refine WC.region ?_
      refine WL.v (RV.assign rfl) rfl ?_
      refine WL.nil ?_
      refine QF.blockNormal ?_
      refine QF.seqNext ?_
      refine WC.region ?_
      refine WL.v (RV.move rfl) rfl ?_
      refine WL.v (RV.add rfl rfl (Fit.i64 (by omega))) rfl ?_
      refine WL.v (RV.assign rfl) rfl ?_
      refine WL.nil ?_
      refine QF.next ((2 + 1, false, 4 + 2)) (⟨by dsimp only; omega, by dsimp only; omega, rfl⟩) (by dsimp only; omega) ⟨rfl, rfl, rfl, trivial⟩ rfl
  · intro hge
    obtain rfl : m = 3 := by have := of_decide_eq_false hge; omega
    obtain rfl : fl = false := hfl
    refine WC.exit ?_
    refine QF.thenExit ?_
    refine QF.thenExit ?_
    refine QF.blockHit ?_
    refine QF.seqNext ?_
    refine WC.seq ?_
    refine WC.seq ?_
    refine WC.region ?_
    refine WL.v (RV.move rfl) rfl ?_
    refine WL.nil ?_
    refine QF.seqNext ?_
    refine WC.condF rfl (rfl) ?_
    refine WC.skip ?_
    refine QF.seqNext ?_
    refine WC.seq ?_
    refine WC.region ?_
    refine WL.v (RV.move rfl) rfl ?_
    refine WL.v (RV.len (by first | exact hs) Tryz.underlying40 rfl) rfl ?_
    refine WL.v (RV.quo (m := 6) (n := 2) rfl rfl (by decide) (Fit.i64 (by decide))) rfl ?_
    refine WL.makeCap elStr encS (.string (bs [])) (by kernel_rfl) rfl hR 4 (by decide) 3 rfl rfl rfl (by decide) (by decide) rfl ?_
    intro w1 O1 tv ht1 hU1 hR1 hE1
    refine WL.v (RV.buildF pl150 (zero257 _) rfl (by simp only [List.all_cons, ht1.one]; rfl) rfl (zs257_set _ _)) rfl ?_
    refine WL.allocO hR1 3 (by decide) (zero257 _) rfl ?_
    intro rb w2 O2 hb2 hU2 hR2 hE2
    have ht2 := ht1.upd hU2 (by decide) (by decide)
    refine WL.storeAgg (us := zs257 tv) hb2 (by rw [zs257_size]; exact (zs257_size _).symm) (by rw [zs257_size]; exact Tryz.sizeOf150 _) (zs257_one _ ht1.one) rfl rfl rfl ?_
    have hb3 := hb2.setRow (us := zs257 tv)
    have hU3 : Upd (fun k => k = 3) O2 w2 O2 (w2.setRow rb (zs257 tv)) := Upd.setRow (by decide) hb2.tag rfl
    have ht3 := ht2.upd hU3 (by decide) (by decide)
    have hR3 := hR2.upd hU3
    have hz34 : ¬ (fun k : Nat => k = 3 ∨ k = 4) 0 := by decide
    have hU03 : Upd (fun k => k = 3 ∨ k = 4) O w O2 (w2.setRow rb (zs257 tv)) := ((hU1.mono (fun _ h => .inr h) hz34).trans (hU2.mono (fun _ h => .inl h) hz34)).trans (hU3.mono (fun _ h => .inl h) hz34)
    generalize w2.setRow rb (zs257 tv) = w3 at *
    have hs3 := hs.upd hf hU03
    refine WL.nil ?_
    refine QF.seqNext ?_
    refine WC.seq ?_
    refine WC.seq ?_
    refine WC.region ?_
    refine WL.v (RV.move rfl) rfl ?_
    refine WL.v (RV.len (by first | exact hs3) Tryz.underlying40 rfl) rfl ?_
    refine WL.v (RV.sub rfl rfl (Fit.i64 (by omega))) rfl ?_
    refine WL.v (RV.assign rfl) rfl ?_
    refine WL.nil ?_
    refine QF.seqNext ?_
    refine WC.block ?_
    refine WC.loop (fun x : Nat × (Nat → Nat) × World × Array Value × Value × List (List UInt8) × Int => [(3, ov), (11, .pointer (some ⟨rb, 0, none⟩)), (12, .int .i64 x.2.2.2.2.2.2)]) (fun x : Nat × (Nat → Nat) × World × Array Value × Value × List (List UInt8) × Int => x.2.2.1) (fun x : Nat × (Nat → Nat) × World × Array Value × Value × List (List UInt8) × Int => x.1 ≤ 3 ∧ x.2.2.2.2.2.2 = 4 - 2 * x.1 ∧ BlkO x.2.1 x.2.2.1 3 rb x.2.2.2.1 150 ∧ x.2.2.2.1.size = 257 ∧ x.2.2.2.1[256]? = some x.2.2.2.2.1 ∧ RowT encS 9 1 x.2.1 x.2.2.1 4 x.2.2.2.2.1 x.2.2.2.2.2.1 ∧ x.2.2.2.2.2.1 = toM x.1 ∧ RepsOk x.2.1 x.2.2.1 x.1 x.2.2.2.1 ∧ Upd (fun k => k = 3 ∨ k = 4) O w x.2.1 x.2.2.1) (fun x : Nat × (Nat → Nat) × World × Array Value × Value × List (List UInt8) × Int => 3 - x.1) (0, O2, w3, zs257 tv, tv, [], 4) (⟨Nat.zero_le _, rfl, hb3, zs257_size _, zs257_last _, ht3, rfl, zs257_reps _ _ _, hU03⟩) ⟨rfl, rfl, rfl, trivial⟩ rfl ?_
    rintro ⟨m, O1, w1, cs1, tv1, tl1, ii⟩ ⟨hm, hii, hb1, hsz, htv, ht1, htl, hrp, hU1⟩
    dsimp only at hm hii hb1 hsz htv ht1 htl hrp hU1 ⊢
    have hs1 := hs.upd hf hU1
    have hR1 := hR.upd hU1
    have htl3 : tl1.length ≤ 3 := by rw [htl]; simp [toM]; omega
    refine WC.seq ?_
    refine WC.seq ?_
    refine WC.region ?_
    refine WL.v (RV.move rfl) rfl ?_
    refine WL.v (RV.geq rfl rfl) rfl ?_
    refine WL.nil ?_
    refine QF.seqNext ?_
    refine WC.cond rfl ?_ ?_
    · intro hlt
      replace hlt : m < 3 := by have := of_decide_eq_true hlt; omega
      obtain rfl | rfl | rfl : m = 0 ∨ m = 1 ∨ m = 2 := by omega
      · obtain rfl : ii = 4 := hii
        have hm0 : (0 = 0 ∧ 62 = 62) ∨ (0 = 1 ∧ 62 = 60) ∨ (0 = 2 ∧ 62 = 38) := by decide
        obtain ⟨sv0, hsv, hsv0⟩ := hrp 62 (by decide)
        rw [repAt_now 0 62 hm0] at hsv0
        obtain rfl : sv0 = .slice none 0 0 := hsv0
        refine WC.skip ?_
        refine QF.seqNext ?_
        refine WC.seq ?_
        refine WC.block ?_
        refine WC.seq ?_
        refine WC.region ?_
        refine WL.v (RV.move rfl) rfl ?_
        refine WL.v (RV.move rfl) rfl ?_
        refine WL.v (RV.indexAddr hs1 Tryz.underlying40 (Tryz.sizeOf9 _) rfl rfl 4 rfl (by omega)) rfl ?_
        refine WL.v (RV.load (by first | exact old_cell hs1 4 rfl) (Tryz.isAgg9 _) rfl) rfl ?_
        refine WL.v (RV.indexS1 (a := [62]) Tryz.underlying9 rfl rfl 0 rfl rfl) rfl ?_
        refine WL.v (RV.assign rfl) rfl ?_
        refine WL.nil ?_
        refine QF.seqNext ?_
        refine WC.seq ?_
        refine WC.region ?_
        refine WL.v (RV.move rfl) rfl ?_
        refine WL.v (RV.move rfl) rfl ?_
        refine WL.v (RV.add rfl rfl (Fit.i64 (by omega))) rfl ?_
        refine WL.v (RV.indexAddr hs1 Tryz.underlying40 (Tryz.sizeOf9 _) rfl rfl 5 rfl (by omega)) rfl ?_
        refine WL.v (RV.load (by first | exact old_cell hs1 5 rfl) (Tryz.isAgg9 _) rfl) rfl ?_
        refine WL.v (RV.assign rfl) rfl ?_
        refine WL.nil ?_
        refine QF.seqNext ?_
        refine WC.seq ?_
        refine WC.seq ?_
        refine WC.region ?_
        refine WL.v (RV.move rfl) rfl ?_
        refine WL.v (RV.fieldAddr 0 Tryz.underlying150 rfl rfl (Tryz.sizeOf148 _) (by decide) rfl) rfl ?_
        refine WL.v (RV.indexAddrA1 Tryz.underlying148 (Tryz.sizeOf31 _) rfl rfl 62 rfl (by decide)) rfl ?_
        refine WL.v (RV.load (by first | exact hb1.cell 62 hsv) (Tryz.isAgg31 _) rfl) rfl ?_
        refine WL.v (RV.eqlNilSl Tryz.underlying31 rfl rfl) rfl ?_
        refine WL.nil ?_
        refine QF.seqNext ?_
        refine WC.condT rfl (rfl) ?_
        refine WC.region ?_
        refine WL.v (RV.fieldAddr 256 Tryz.underlying150 rfl rfl (Tryz.sizeOf40 _) (by decide) rfl) rfl ?_
        refine WL.v (RV.load (by first | exact hb1.cell 256 htv) (Tryz.isAgg40 _) rfl) rfl ?_
        refine WL.v (RV.move rfl) rfl ?_
        refine WL.buildOne elU8 (enc := encB) (62 : UInt8) rfl rfl rfl (by decide) rfl ?_
        intro bv w2 hbv hE2
        refine WL.v (RV.strOf hbv Tryz.underlying31 Tryz.underlying5 Tryz.underlying9 rfl) rfl ?_
        have hX2 : Upd (fun _ => False) O1 w1 O1 w2 := Upd.of_ext (fun h => h) O1 hE2
        have hb2 := hb1.upd hX2 (by decide) (fun h => h)
        refine WL.push elStr (ht1.upd hX2 (by decide) (fun h => h)) (hR1.upd hX2) ([(62 : UInt8)]) (fun _ => rfl) rfl rfl rfl (by simp [Value.oneCell']) (by omega) (by omega) (by omega) (by decide) rfl rfl ?_
        intro tv3 w3 O3 ht3 hU3 hR3
        have hb3 := hb2.upd hU3 (by decide) (by decide)
        refine WL.v (RV.fieldAddr 256 Tryz.underlying150 rfl rfl (Tryz.sizeOf40 _) (by decide) rfl) rfl ?_
        refine WL.storeBlk (j := 256) hb3 htv (Tryz.sizeOf40 _) ht3.one rfl rfl rfl ?_
        have hU4 : Upd (fun k => k = 3) O3 w3 O3 (w3.setCell ⟨rb, 256, none⟩ tv3) := Upd.set (by decide) hb3.tag rfl
        have hb4 := hb3.set 256 tv3
        have ht4 := ht3.upd hU4 (by decide) (by decide)
        have hR4 := hR3.upd hU4
        generalize w3.setCell ⟨rb, 256, none⟩ tv3 = w4 at *
        refine WL.nil ?_
        refine QF.seqNext ?_
        refine WC.region ?_
        refine WL.v (RV.move rfl) rfl ?_
        refine WL.v (RV.move rfl) rfl ?_
        refine WL.bytesOf2 Tryz.underlying9 Tryz.underlying31 Tryz.underlying5 rfl (by decide) rfl ?_
        intro c5 w5 hv5 hE5 hlt5
        have hX5 : Upd (fun _ => False) O3 w4 O3 w5 := Upd.of_ext (fun h => h) O3 hE5
        have hb5 := hb4.upd hX5 (by decide) (fun h => h)
        have hR5 := hR4.upd hX5
        refine WL.v (RV.fieldAddr 0 Tryz.underlying150 rfl rfl (Tryz.sizeOf148 _) (by decide) rfl) rfl ?_
        refine WL.v (RV.indexAddrA1 Tryz.underlying148 (Tryz.sizeOf31 _) rfl rfl 62 rfl (by decide)) rfl ?_
        refine WL.storeBlk (j := 62) hb5 (by rw [Array.getElem?_setIfInBounds_ne (by decide)]; exact hsv) (Tryz.sizeOf31 _) rfl rfl rfl rfl ?_
        generalize hsv5 : Value.slice (some ⟨w4.heap.size, 0, none⟩) ([38, 103, 116, 59] : List UInt8).length c5 = sv5 at *
        have hf5 : Free O3 w5 sv5 := by
          intro a n c e
          rw [← hsv5] at e; cases e
          exact ⟨Classical.byContradiction fun hne => by have := (hR4.rng _ hne).2; simp at this, hlt5⟩
        have hU6 : Upd (fun k => k = 3) O3 w5 O3 (w5.setCell ⟨rb, 62, none⟩ sv5) := Upd.set (by decide) hb5.tag rfl
        have hb6 := hb5.set 62 sv5
        have ht6 := (ht4.upd hX5 (by decide) (fun h => h)).upd hU6 (by decide) (by decide)
        have hz34 : ¬ (fun k : Nat => k = 3 ∨ k = 4) 0 := by decide
        have hU16 : Upd (fun k => k = 3 ∨ k = 4) O1 w1 O3 (w5.setCell ⟨rb, 62, none⟩ sv5) := ((((hX2.mono (fun _ h => h.elim) hz34).trans (hU3.mono (fun _ h => .inr h) hz34)).trans (hU4.mono (fun _ h => .inl h) hz34)).trans (hX5.mono (fun _ h => h.elim) hz34)).trans (hU6.mono (fun _ h => .inl h) hz34)
        refine WL.nil ?_
        refine QF.blockNormal ?_
        refine QF.seqNext ?_
        refine WC.region ?_
        refine WL.v (RV.move rfl) rfl ?_
        refine WL.v (RV.sub rfl rfl (Fit.i64 (by omega))) rfl ?_
        refine WL.v (RV.assign rfl) rfl ?_
        refine WL.nil ?_
        refine QF.next ((0 + 1, O3, w5.setCell ⟨rb, 62, none⟩ sv5, (cs1.setIfInBounds 256 tv3).setIfInBounds 62 sv5, tv3, tl1 ++ [[(62 : UInt8)]], 4 - 2)) (⟨by dsimp only; omega, by dsimp only; omega, hb6, by dsimp only; rw [Array.size_setIfInBounds, Array.size_setIfInBounds]; exact hsz, by dsimp only; rw [Array.getElem?_setIfInBounds_ne (by decide), Array.getElem?_setIfInBounds_self_of_lt (by omega)], ht6, by dsimp only; rw [htl]; rfl, ?_, hU1.trans hU16⟩) (by dsimp only; omega) ⟨rfl, rfl, rfl, trivial⟩ rfl
        intro k' hk'
        by_cases hkk : k' = 62
        · subst hkk
          refine ⟨sv5, by rw [Array.getElem?_setIfInBounds_self_of_lt (by rw [Array.size_setIfInBounds]; omega)], ?_⟩
          exact ⟨hv5.upd hf5 hU6, hf5.upd hU6, _, c5, hsv5.symm⟩
        · obtain ⟨sv', h1', h2'⟩ := hrp k' hk'
          refine ⟨sv', by rw [Array.getElem?_setIfInBounds_ne (Ne.symm hkk), Array.getElem?_setIfInBounds_ne (by omega)]; exact h1', ?_⟩
          rw [repAt_other 0 62 k' hm0 hkk]
          exact h2'.upd hU16
      · obtain rfl : ii = 2 := hii
        have hm0 : (1 = 0 ∧ 60 = 62) ∨ (1 = 1 ∧ 60 = 60) ∨ (1 = 2 ∧ 60 = 38) := by decide
        obtain ⟨sv0, hsv, hsv0⟩ := hrp 60 (by decide)
        rw [repAt_now 1 60 hm0] at hsv0
        obtain rfl : sv0 = .slice none 0 0 := hsv0
        refine WC.skip ?_
        refine QF.seqNext ?_
        refine WC.seq ?_
        refine WC.block ?_
        refine WC.seq ?_
        refine WC.region ?_
        refine WL.v (RV.move rfl) rfl ?_
        refine WL.v (RV.move rfl) rfl ?_
        refine WL.v (RV.indexAddr hs1 Tryz.underlying40 (Tryz.sizeOf9 _) rfl rfl 2 rfl (by omega)) rfl ?_
        refine WL.v (RV.load (by first | exact old_cell hs1 2 rfl) (Tryz.isAgg9 _) rfl) rfl ?_
        refine WL.v (RV.indexS1 (a := [60]) Tryz.underlying9 rfl rfl 0 rfl rfl) rfl ?_
        refine WL.v (RV.assign rfl) rfl ?_
        refine WL.nil ?_
        refine QF.seqNext ?_
        refine WC.seq ?_
        refine WC.region ?_
        refine WL.v (RV.move rfl) rfl ?_
        refine WL.v (RV.move rfl) rfl ?_
        refine WL.v (RV.add rfl rfl (Fit.i64 (by omega))) rfl ?_
        refine WL.v (RV.indexAddr hs1 Tryz.underlying40 (Tryz.sizeOf9 _) rfl rfl 3 rfl (by omega)) rfl ?_
        refine WL.v (RV.load (by first | exact old_cell hs1 3 rfl) (Tryz.isAgg9 _) rfl) rfl ?_
        refine WL.v (RV.assign rfl) rfl ?_
        refine WL.nil ?_
        refine QF.seqNext ?_
        refine WC.seq ?_
        refine WC.seq ?_
        refine WC.region ?_
        refine WL.v (RV.move rfl) rfl ?_
        refine WL.v (RV.fieldAddr 0 Tryz.underlying150 rfl rfl (Tryz.sizeOf148 _) (by decide) rfl) rfl ?_
        refine WL.v (RV.indexAddrA1 Tryz.underlying148 (Tryz.sizeOf31 _) rfl rfl 60 rfl (by decide)) rfl ?_
        refine WL.v (RV.load (by first | exact hb1.cell 60 hsv) (Tryz.isAgg31 _) rfl) rfl ?_
        refine WL.v (RV.eqlNilSl Tryz.underlying31 rfl rfl) rfl ?_
        refine WL.nil ?_
        refine QF.seqNext ?_
        refine WC.condT rfl (rfl) ?_
        refine WC.region ?_
        refine WL.v (RV.fieldAddr 256 Tryz.underlying150 rfl rfl (Tryz.sizeOf40 _) (by decide) rfl) rfl ?_
        refine WL.v (RV.load (by first | exact hb1.cell 256 htv) (Tryz.isAgg40 _) rfl) rfl ?_
        refine WL.v (RV.move rfl) rfl ?_
        refine WL.buildOne elU8 (enc := encB) (60 : UInt8) rfl rfl rfl (by decide) rfl ?_
        intro bv w2 hbv hE2
        refine WL.v (RV.strOf hbv Tryz.underlying31 Tryz.underlying5 Tryz.underlying9 rfl) rfl ?_
        have hX2 : Upd (fun _ => False) O1 w1 O1 w2 := Upd.of_ext (fun h => h) O1 hE2
        have hb2 := hb1.upd hX2 (by decide) (fun h => h)
        refine WL.push elStr (ht1.upd hX2 (by decide) (fun h => h)) (hR1.upd hX2) ([(60 : UInt8)]) (fun _ => rfl) rfl rfl rfl (by simp [Value.oneCell']) (by omega) (by omega) (by omega) (by decide) rfl rfl ?_
        intro tv3 w3 O3 ht3 hU3 hR3
        have hb3 := hb2.upd hU3 (by decide) (by decide)
        refine WL.v (RV.fieldAddr 256 Tryz.underlying150 rfl rfl (Tryz.sizeOf40 _) (by decide) rfl) rfl ?_
        refine WL.storeBlk (j := 256) hb3 htv (Tryz.sizeOf40 _) ht3.one rfl rfl rfl ?_
        have hU4 : Upd (fun k => k = 3) O3 w3 O3 (w3.setCell ⟨rb, 256, none⟩ tv3) := Upd.set (by decide) hb3.tag rfl
        have hb4 := hb3.set 256 tv3
        have ht4 := ht3.upd hU4 (by decide) (by decide)
        have hR4 := hR3.upd hU4
        generalize w3.setCell ⟨rb, 256, none⟩ tv3 = w4 at *
        refine WL.nil ?_
        refine QF.seqNext ?_
        refine WC.region ?_
        refine WL.v (RV.move rfl) rfl ?_
        refine WL.v (RV.move rfl) rfl ?_
        refine WL.bytesOf2 Tryz.underlying9 Tryz.underlying31 Tryz.underlying5 rfl (by decide) rfl ?_
        intro c5 w5 hv5 hE5 hlt5
        have hX5 : Upd (fun _ => False) O3 w4 O3 w5 := Upd.of_ext (fun h => h) O3 hE5
        have hb5 := hb4.upd hX5 (by decide) (fun h => h)
        have hR5 := hR4.upd hX5
        refine WL.v (RV.fieldAddr 0 Tryz.underlying150 rfl rfl (Tryz.sizeOf148 _) (by decide) rfl) rfl ?_
        refine WL.v (RV.indexAddrA1 Tryz.underlying148 (Tryz.sizeOf31 _) rfl rfl 60 rfl (by decide)) rfl ?_
        refine WL.storeBlk (j := 60) hb5 (by rw [Array.getElem?_setIfInBounds_ne (by decide)]; exact hsv) (Tryz.sizeOf31 _) rfl rfl rfl rfl ?_
        generalize hsv5 : Value.slice (some ⟨w4.heap.size, 0, none⟩) ([38, 108, 116, 59] : List UInt8).length c5 = sv5 at *
        have hf5 : Free O3 w5 sv5 := by
          intro a n c e
          rw [← hsv5] at e; cases e
          exact ⟨Classical.byContradiction fun hne => by have := (hR4.rng _ hne).2; simp at this, hlt5⟩
        have hU6 : Upd (fun k => k = 3) O3 w5 O3 (w5.setCell ⟨rb, 60, none⟩ sv5) := Upd.set (by decide) hb5.tag rfl
        have hb6 := hb5.set 60 sv5
        have ht6 := (ht4.upd hX5 (by decide) (fun h => h)).upd hU6 (by decide) (by decide)
        have hz34 : ¬ (fun k : Nat => k = 3 ∨ k = 4) 0 := by decide
        have hU16 : Upd (fun k => k = 3 ∨ k = 4) O1 w1 O3 (w5.setCell ⟨rb, 60, none⟩ sv5) := ((((hX2.mono (fun _ h => h.elim) hz34).trans (hU3.mono (fun _ h => .inr h) hz34)).trans (hU4.mono (fun _ h => .inl h) hz34)).trans (hX5.mono (fun _ h => h.elim) hz34)).trans (hU6.mono (fun _ h => .inl h) hz34)
        refine WL.nil ?_
        refine QF.blockNormal ?_
        refine QF.seqNext ?_
        refine WC.region ?_
        refine WL.v (RV.move rfl) rfl ?_
        refine WL.v (RV.sub rfl rfl (Fit.i64 (by omega))) rfl ?_
        refine WL.v (RV.assign rfl) rfl ?_
        refine WL.nil ?_
        refine QF.next ((1 + 1, O3, w5.setCell ⟨rb, 60, none⟩ sv5, (cs1.setIfInBounds 256 tv3).setIfInBounds 60 sv5, tv3, tl1 ++ [[(60 : UInt8)]], 2 - 2)) (⟨by dsimp only; omega, by dsimp only; omega, hb6, by dsimp only; rw [Array.size_setIfInBounds, Array.size_setIfInBounds]; exact hsz, by dsimp only; rw [Array.getElem?_setIfInBounds_ne (by decide), Array.getElem?_setIfInBounds_self_of_lt (by omega)], ht6, by dsimp only; rw [htl]; rfl, ?_, hU1.trans hU16⟩) (by dsimp only; omega) ⟨rfl, rfl, rfl, trivial⟩ rfl
        intro k' hk'
        by_cases hkk : k' = 60
        · subst hkk
          refine ⟨sv5, by rw [Array.getElem?_setIfInBounds_self_of_lt (by rw [Array.size_setIfInBounds]; omega)], ?_⟩
          exact ⟨hv5.upd hf5 hU6, hf5.upd hU6, _, c5, hsv5.symm⟩
        · obtain ⟨sv', h1', h2'⟩ := hrp k' hk'
          refine ⟨sv', by rw [Array.getElem?_setIfInBounds_ne (Ne.symm hkk), Array.getElem?_setIfInBounds_ne (by omega)]; exact h1', ?_⟩
          rw [repAt_other 1 60 k' hm0 hkk]
          exact h2'.upd hU16
      · obtain rfl : ii = 0 := hii
        have hm0 : (2 = 0 ∧ 38 = 62) ∨ (2 = 1 ∧ 38 = 60) ∨ (2 = 2 ∧ 38 = 38) := by decide
        obtain ⟨sv0, hsv, hsv0⟩ := hrp 38 (by decide)
        rw [repAt_now 2 38 hm0] at hsv0
        obtain rfl : sv0 = .slice none 0 0 := hsv0
        refine WC.skip ?_
        refine QF.seqNext ?_
        refine WC.seq ?_
        refine WC.block ?_
        refine WC.seq ?_
        refine WC.region ?_
        refine WL.v (RV.move rfl) rfl ?_
        refine WL.v (RV.move rfl) rfl ?_
        refine WL.v (RV.indexAddr hs1 Tryz.underlying40 (Tryz.sizeOf9 _) rfl rfl 0 rfl (by omega)) rfl ?_
        refine WL.v (RV.load (by first | exact old_cell hs1 0 rfl) (Tryz.isAgg9 _) rfl) rfl ?_
        refine WL.v (RV.indexS1 (a := [38]) Tryz.underlying9 rfl rfl 0 rfl rfl) rfl ?_
        refine WL.v (RV.assign rfl) rfl ?_
        refine WL.nil ?_
        refine QF.seqNext ?_
        refine WC.seq ?_
        refine WC.region ?_
        refine WL.v (RV.move rfl) rfl ?_
        refine WL.v (RV.move rfl) rfl ?_
        refine WL.v (RV.add rfl rfl (Fit.i64 (by omega))) rfl ?_
        refine WL.v (RV.indexAddr hs1 Tryz.underlying40 (Tryz.sizeOf9 _) rfl rfl 1 rfl (by omega)) rfl ?_
        refine WL.v (RV.load (by first | exact old_cell hs1 1 rfl) (Tryz.isAgg9 _) rfl) rfl ?_
        refine WL.v (RV.assign rfl) rfl ?_
        refine WL.nil ?_
        refine QF.seqNext ?_
        refine WC.seq ?_
        refine WC.seq ?_
        refine WC.region ?_
        refine WL.v (RV.move rfl) rfl ?_
        refine WL.v (RV.fieldAddr 0 Tryz.underlying150 rfl rfl (Tryz.sizeOf148 _) (by decide) rfl) rfl ?_
        refine WL.v (RV.indexAddrA1 Tryz.underlying148 (Tryz.sizeOf31 _) rfl rfl 38 rfl (by decide)) rfl ?_
        refine WL.v (RV.load (by first | exact hb1.cell 38 hsv) (Tryz.isAgg31 _) rfl) rfl ?_
        refine WL.v (RV.eqlNilSl Tryz.underlying31 rfl rfl) rfl ?_
        refine WL.nil ?_
        refine QF.seqNext ?_
        refine WC.condT rfl (rfl) ?_
        refine WC.region ?_
        refine WL.v (RV.fieldAddr 256 Tryz.underlying150 rfl rfl (Tryz.sizeOf40 _) (by decide) rfl) rfl ?_
        refine WL.v (RV.load (by first | exact hb1.cell 256 htv) (Tryz.isAgg40 _) rfl) rfl ?_
        refine WL.v (RV.move rfl) rfl ?_
        refine WL.buildOne elU8 (enc := encB) (38 : UInt8) rfl rfl rfl (by decide) rfl ?_
        intro bv w2 hbv hE2
        refine WL.v (RV.strOf hbv Tryz.underlying31 Tryz.underlying5 Tryz.underlying9 rfl) rfl ?_
        have hX2 : Upd (fun _ => False) O1 w1 O1 w2 := Upd.of_ext (fun h => h) O1 hE2
        have hb2 := hb1.upd hX2 (by decide) (fun h => h)
        refine WL.push elStr (ht1.upd hX2 (by decide) (fun h => h)) (hR1.upd hX2) ([(38 : UInt8)]) (fun _ => rfl) rfl rfl rfl (by simp [Value.oneCell']) (by omega) (by omega) (by omega) (by decide) rfl rfl ?_
        intro tv3 w3 O3 ht3 hU3 hR3
        have hb3 := hb2.upd hU3 (by decide) (by decide)
        refine WL.v (RV.fieldAddr 256 Tryz.underlying150 rfl rfl (Tryz.sizeOf40 _) (by decide) rfl) rfl ?_
        refine WL.storeBlk (j := 256) hb3 htv (Tryz.sizeOf40 _) ht3.one rfl rfl rfl ?_
        have hU4 : Upd (fun k => k = 3) O3 w3 O3 (w3.setCell ⟨rb, 256, none⟩ tv3) := Upd.set (by decide) hb3.tag rfl
        have hb4 := hb3.set 256 tv3
        have ht4 := ht3.upd hU4 (by decide) (by decide)
        have hR4 := hR3.upd hU4
        generalize w3.setCell ⟨rb, 256, none⟩ tv3 = w4 at *
        refine WL.nil ?_
        refine QF.seqNext ?_
        refine WC.region ?_
        refine WL.v (RV.move rfl) rfl ?_
        refine WL.v (RV.move rfl) rfl ?_
        refine WL.bytesOf2 Tryz.underlying9 Tryz.underlying31 Tryz.underlying5 rfl (by decide) rfl ?_
        intro c5 w5 hv5 hE5 hlt5
        have hX5 : Upd (fun _ => False) O3 w4 O3 w5 := Upd.of_ext (fun h => h) O3 hE5
        have hb5 := hb4.upd hX5 (by decide) (fun h => h)
        have hR5 := hR4.upd hX5
        refine WL.v (RV.fieldAddr 0 Tryz.underlying150 rfl rfl (Tryz.sizeOf148 _) (by decide) rfl) rfl ?_
        refine WL.v (RV.indexAddrA1 Tryz.underlying148 (Tryz.sizeOf31 _) rfl rfl 38 rfl (by decide)) rfl ?_
        refine WL.storeBlk (j := 38) hb5 (by rw [Array.getElem?_setIfInBounds_ne (by decide)]; exact hsv) (Tryz.sizeOf31 _) rfl rfl rfl rfl ?_
        generalize hsv5 : Value.slice (some ⟨w4.heap.size, 0, none⟩) ([38, 97, 109, 112, 59] : List UInt8).length c5 = sv5 at *
        have hf5 : Free O3 w5 sv5 := by
          intro a n c e
          rw [← hsv5] at e; cases e
          exact ⟨Classical.byContradiction fun hne => by have := (hR4.rng _ hne).2; simp at this, hlt5⟩
        have hU6 : Upd (fun k => k = 3) O3 w5 O3 (w5.setCell ⟨rb, 38, none⟩ sv5) := Upd.set (by decide) hb5.tag rfl
        have hb6 := hb5.set 38 sv5
        have ht6 := (ht4.upd hX5 (by decide) (fun h => h)).upd hU6 (by decide) (by decide)
        have hz34 : ¬ (fun k : Nat => k = 3 ∨ k = 4) 0 := by decide
        have hU16 : Upd (fun k => k = 3 ∨ k = 4) O1 w1 O3 (w5.setCell ⟨rb, 38, none⟩ sv5) := ((((hX2.mono (fun _ h => h.elim) hz34).trans (hU3.mono (fun _ h => .inr h) hz34)).trans (hU4.mono (fun _ h => .inl h) hz34)).trans (hX5.mono (fun _ h => h.elim) hz34)).trans (hU6.mono (fun _ h => .inl h) hz34)
        refine WL.nil ?_
        refine QF.blockNormal ?_
        refine QF.seqNext ?_
        refine WC.region ?_
        refine WL.v (RV.move rfl) rfl ?_
        refine WL.v (RV.sub rfl rfl (Fit.i64 (by omega))) rfl ?_
        refine WL.v (RV.assign rfl) rfl ?_
        refine WL.nil ?_
        refine QF.next ((2 + 1, O3, w5.setCell ⟨rb, 38, none⟩ sv5, (cs1.setIfInBounds 256 tv3).setIfInBounds 38 sv5, tv3, tl1 ++ [[(38 : UInt8)]], 0 - 2)) (⟨by dsimp only; omega, by dsimp only; omega, hb6, by dsimp only; rw [Array.size_setIfInBounds, Array.size_setIfInBounds]; exact hsz, by dsimp only; rw [Array.getElem?_setIfInBounds_ne (by decide), Array.getElem?_setIfInBounds_self_of_lt (by omega)], ht6, by dsimp only; rw [htl]; rfl, ?_, hU1.trans hU16⟩) (by dsimp only; omega) ⟨rfl, rfl, rfl, trivial⟩ rfl
        intro k' hk'
        by_cases hkk : k' = 38
        · subst hkk
          refine ⟨sv5, by rw [Array.getElem?_setIfInBounds_self_of_lt (by rw [Array.size_setIfInBounds]; omega)], ?_⟩
          exact ⟨hv5.upd hf5 hU6, hf5.upd hU6, _, c5, hsv5.symm⟩
        · obtain ⟨sv', h1', h2'⟩ := hrp k' hk'
          refine ⟨sv', by rw [Array.getElem?_setIfInBounds_ne (Ne.symm hkk), Array.getElem?_setIfInBounds_ne (by omega)]; exact h1', ?_⟩
          rw [repAt_other 2 38 k' hm0 hkk]
          exact h2'.upd hU16
    · intro hge
      obtain rfl : m = 3 := by have := of_decide_eq_false hge; omega
      refine WC.exit ?_
      refine QF.thenExit ?_
      refine QF.thenExit ?_
      refine QF.blockHit ?_
      refine QF.seqNext ?_
      refine WC.seq ?_
      refine WC.region ?_
      refine WL.v (RV.makeIface Tryz.underlying151 rfl) rfl ?_
      refine WL.v (RV.assign rfl) rfl ?_
      refine WL.nil ?_
      refine QF.seqNext ?_
      refine WC.ret ?_
      refine QF.done1 rfl rfl (⟨rb, O1, cs1, rfl, ⟨hb1, hrp, hsz, tv1, htv, htl ▸ ht1⟩, hU1, hR1⟩)
end Go.Proofs.YtakigpnccppheaaGreatDoor
