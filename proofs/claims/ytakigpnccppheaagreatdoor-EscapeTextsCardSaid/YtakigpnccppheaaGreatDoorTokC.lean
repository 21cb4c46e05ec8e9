/- Package entity, walked: the reference that stands for a sign that is escaped is read. -/
import Derived.Test.YtakigpnccppheaaGreatDoorTokB
namespace Go.Proofs.YtakigpnccppheaaGreatDoor
open Go.VL Go.Proofs
set_option maxRecDepth 20000

abbrev Row := List UInt8 × Int
@[simp] def encRow (x : Row) : List Value := [.string (bs x.1), .int .i32 x.2]
def rowsL : List Row := [([97, 109, 112], 38), ([97, 112, 111, 115], 39), ([99, 111, 112, 121], 169), ([101, 109, 115, 112], 8195), ([101, 110, 115, 112], 8194), ([103, 116], 62), ([104, 101, 108, 108, 105, 112], 8230), ([108, 97, 113, 117, 111], 171),
  ([108, 100, 113, 117, 111], 8220), ([108, 114, 109], 8206), ([108, 115, 113, 117, 111], 8216), ([108, 116], 60), ([109, 100, 97, 115, 104], 8212), ([109, 105, 100, 100, 111, 116], 183), ([110, 98, 115, 112], 160),
  ([110, 100, 97, 115, 104], 8211), ([113, 117, 111, 116], 34), ([114, 97, 113, 117, 111], 187), ([114, 100, 113, 117, 111], 8221), ([114, 101, 103], 174), ([114, 108, 109], 8207), ([114, 115, 113, 117, 111], 8217), ([115, 104, 121], 173),
  ([116, 104, 105, 110, 115, 112], 8201), ([122, 119, 106], 8205), ([122, 119, 110, 106], 8204)]
def rowsC : Array Value := (rowsL.flatMap encRow).toArray
theorem pl226 : Places Tryz.prog 226 #[(0, 1), (1, 1)] := ⟨_, Tryz.underlying226, fun w => by kernel_rfl⟩
theorem rows_ret (w : World) : Ret Tryz.prog 128 [] w fun v w' => v = .agg rowsC ∧ Ext w w' := by
  refine Ret.enter Tryz.func128 Tryz.ntmps128 rfl rfl ?_
  refine WC.seq ?_
  refine WC.region ?_
  refine WL.allocO (Rng.start w) 1 (by omega) (Tryz.zeroValue227 _) rfl ?_
  intro xb w1 O1 hx hU1 hR1 hE1
  refine WL.nil ?_
  refine QF.seqNext ?_
  refine WC.seq ?_
  refine WC.region ?_
  refine WL.v (RV.buildF pl226 (Tryz.zeroValue226 _) rfl (by first | rfl | (simp only [List.all_cons, List.all_nil]; rfl)) rfl rfl) rfl ?_
  refine WL.v (RV.buildF pl226 (Tryz.zeroValue226 _) rfl (by first | rfl | (simp only [List.all_cons, List.all_nil]; rfl)) rfl rfl) rfl ?_
  refine WL.v (RV.buildF pl226 (Tryz.zeroValue226 _) rfl (by first | rfl | (simp only [List.all_cons, List.all_nil]; rfl)) rfl rfl) rfl ?_
  refine WL.v (RV.buildF pl226 (Tryz.zeroValue226 _) rfl (by first | rfl | (simp only [List.all_cons, List.all_nil]; rfl)) rfl rfl) rfl ?_
  refine WL.v (RV.buildF pl226 (Tryz.zeroValue226 _) rfl (by first | rfl | (simp only [List.all_cons, List.all_nil]; rfl)) rfl rfl) rfl ?_
  refine WL.v (RV.buildF pl226 (Tryz.zeroValue226 _) rfl (by first | rfl | (simp only [List.all_cons, List.all_nil]; rfl)) rfl rfl) rfl ?_
  refine WL.v (RV.buildF pl226 (Tryz.zeroValue226 _) rfl (by first | rfl | (simp only [List.all_cons, List.all_nil]; rfl)) rfl rfl) rfl ?_
  refine WL.v (RV.buildF pl226 (Tryz.zeroValue226 _) rfl (by first | rfl | (simp only [List.all_cons, List.all_nil]; rfl)) rfl rfl) rfl ?_
  refine WL.v (RV.buildF pl226 (Tryz.zeroValue226 _) rfl (by first | rfl | (simp only [List.all_cons, List.all_nil]; rfl)) rfl rfl) rfl ?_
  refine WL.v (RV.buildF pl226 (Tryz.zeroValue226 _) rfl (by first | rfl | (simp only [List.all_cons, List.all_nil]; rfl)) rfl rfl) rfl ?_
  refine WL.v (RV.buildF pl226 (Tryz.zeroValue226 _) rfl (by first | rfl | (simp only [List.all_cons, List.all_nil]; rfl)) rfl rfl) rfl ?_
  refine WL.v (RV.buildF pl226 (Tryz.zeroValue226 _) rfl (by first | rfl | (simp only [List.all_cons, List.all_nil]; rfl)) rfl rfl) rfl ?_
  refine WL.v (RV.buildF pl226 (Tryz.zeroValue226 _) rfl (by first | rfl | (simp only [List.all_cons, List.all_nil]; rfl)) rfl rfl) rfl ?_
  refine WL.v (RV.buildF pl226 (Tryz.zeroValue226 _) rfl (by first | rfl | (simp only [List.all_cons, List.all_nil]; rfl)) rfl rfl) rfl ?_
  refine WL.v (RV.buildF pl226 (Tryz.zeroValue226 _) rfl (by first | rfl | (simp only [List.all_cons, List.all_nil]; rfl)) rfl rfl) rfl ?_
  refine WL.v (RV.buildF pl226 (Tryz.zeroValue226 _) rfl (by first | rfl | (simp only [List.all_cons, List.all_nil]; rfl)) rfl rfl) rfl ?_
  refine WL.v (RV.buildF pl226 (Tryz.zeroValue226 _) rfl (by first | rfl | (simp only [List.all_cons, List.all_nil]; rfl)) rfl rfl) rfl ?_
  refine WL.v (RV.buildF pl226 (Tryz.zeroValue226 _) rfl (by first | rfl | (simp only [List.all_cons, List.all_nil]; rfl)) rfl rfl) rfl ?_
  refine WL.v (RV.buildF pl226 (Tryz.zeroValue226 _) rfl (by first | rfl | (simp only [List.all_cons, List.all_nil]; rfl)) rfl rfl) rfl ?_
  refine WL.v (RV.buildF pl226 (Tryz.zeroValue226 _) rfl (by first | rfl | (simp only [List.all_cons, List.all_nil]; rfl)) rfl rfl) rfl ?_
  refine WL.v (RV.buildF pl226 (Tryz.zeroValue226 _) rfl (by first | rfl | (simp only [List.all_cons, List.all_nil]; rfl)) rfl rfl) rfl ?_
  refine WL.v (RV.buildF pl226 (Tryz.zeroValue226 _) rfl (by first | rfl | (simp only [List.all_cons, List.all_nil]; rfl)) rfl rfl) rfl ?_
  refine WL.v (RV.buildF pl226 (Tryz.zeroValue226 _) rfl (by first | rfl | (simp only [List.all_cons, List.all_nil]; rfl)) rfl rfl) rfl ?_
  refine WL.v (RV.buildF pl226 (Tryz.zeroValue226 _) rfl (by first | rfl | (simp only [List.all_cons, List.all_nil]; rfl)) rfl rfl) rfl ?_
  refine WL.v (RV.buildF pl226 (Tryz.zeroValue226 _) rfl (by first | rfl | (simp only [List.all_cons, List.all_nil]; rfl)) rfl rfl) rfl ?_
  refine WL.v (RV.buildF pl226 (Tryz.zeroValue226 _) rfl (by first | rfl | (simp only [List.all_cons, List.all_nil]; rfl)) rfl rfl) rfl ?_
  refine WL.v (RV.buildArr (cells := rowsC) Tryz.underlying227 (Tryz.sizeOf226 _) (Tryz.zeroValue227 _) rfl (by kernel_rfl)) rfl ?_
  refine WL.storeAgg (us := rowsC) hx (by kernel_rfl) (Tryz.sizeOf227 _) (by kernel_rfl) rfl rfl rfl ?_
  refine WL.nil ?_
  refine QF.seqNext ?_
  refine WC.ret ?_
  refine QF.doneC1 rfl rfl ((hx.setRow (us := rowsC)).cellsAdd) (Tryz.isAgg227 _) (Tryz.sizeOf227 _) (⟨by rw [Array.toArray_toList], (hU1.trans (Upd.setRow (by decide) hx.tag rfl)).ext⟩)
theorem find1_ret (x : Row) (name : List UInt8) (nb : Nat) (w : World) (hn : w.cell? ⟨nb, 0, none⟩ = some (.string (bs name))) : Ret Tryz.prog 130 [.agg #[.string (bs x.1), .int .i32 x.2], .pointer (some ⟨nb, 0, none⟩)] w fun v w' => v = .bool (x.1 == name) ∧ Ext w w' := by
  refine Ret.enter Tryz.func130 Tryz.ntmps130 rfl rfl ?_
  refine WC.seq ?_
  refine WC.region ?_
  refine WL.boxO (Rng.start w) 1 (by omega) rfl rfl ?_
  intro xb w1 O1 hx hU1 hR1 hE1
  have hn1 := hE1.cell hn
  refine WL.v (RV.assign rfl) rfl ?_
  refine WL.nil ?_
  refine QF.seqNext ?_
  refine WC.seq ?_
  refine WC.region ?_
  refine WL.v (RV.fieldAddr 0 Tryz.underlying226 rfl rfl (Tryz.sizeOf9 _) (by decide) rfl) rfl ?_
  refine WL.v (RV.load (by first | exact hx.cell 0 rfl) (Tryz.isAgg9 _) rfl) rfl ?_
  refine WL.v (RV.load (by first | exact hn1) (Tryz.isAgg9 _) rfl) rfl ?_
  refine WL.v (RV.eqlS rfl rfl) rfl ?_
  refine WL.v (RV.assign rfl) rfl ?_
  refine WL.nil ?_
  refine QF.seqNext ?_
  refine WC.ret ?_
  refine QF.done1 rfl rfl (⟨rfl, hE1⟩)
/-- 'slices.IndexFunc[[]virgule/entity.row,virgule/entity.row]': the first place at which a function says yes; the function may make memory. -/
theorem rowIndexN_ret {F : FuncId} (hF : ∀ (args : Array Value) (w : World), (callFunc F args).run Tryz.prog w = .ok (.enter F args) w) (cs : Array Value) (l : List (Row)) (sv : Value) (q : Nat → Bool) (w : World) (h : Sl encRow 2 w sv l)
    (hq : ∀ i, i < l.length → ∀ w', Ext w w' → Ret Tryz.prog F ([(fun x : Row => Value.agg #[.string (bs x.1), .int .i32 x.2]) (nth l i)] ++ cs.toList) w' fun v w'' => v = .bool (q i) ∧ Ext w' w'') :
    Ret Tryz.prog 129 [sv, .func (.func F) #[] cs] w fun v w' => v = .int .i64 (firstN q l.length) ∧ Ext w w' := by
  have hl := h.len_le
  refine Ret.enter Tryz.func129 Tryz.ntmps129 rfl rfl ?_
  refine WC.seq ?_
  refine WC.region ?_
  refine WL.v (RV.assign rfl) rfl ?_
  refine WL.nil ?_
  refine QF.seqNext ?_
  refine WC.seq ?_
  refine WC.seq ?_
  refine WC.region ?_
  refine WL.v (RV.move rfl) rfl ?_
  refine WL.v (RV.len (by first | exact h) Tryz.underlying230 rfl) rfl ?_
  refine WL.v (RV.move rfl) rfl ?_
  refine WL.nil ?_
  refine QF.seqNext ?_
  refine WC.block ?_
  refine WC.loop (fun x : Nat × World => [(0, sv), (1, .func (.func F) #[] cs), (7, .int .i64 l.length), (8, .int .i64 x.1)]) (fun x : Nat × World => x.2) (fun x : Nat × World => x.1 ≤ l.length ∧ Ext w x.2 ∧ ∀ i, i < x.1 → q i = false) (fun x : Nat × World => l.length - x.1) (0, w) (⟨Nat.zero_le _, Ext.refl _, fun i hi => absurd hi (Nat.not_lt_zero i)⟩) ⟨rfl, rfl, rfl, rfl, trivial⟩ rfl ?_
  rintro ⟨k, w1⟩ ⟨hk, hE, hno⟩
  dsimp only at hk hE hno ⊢
  have h1 := h.ext hE
  refine WC.seq ?_
  refine WC.region ?_
  refine WL.v (RV.lss rfl rfl) rfl ?_
  refine WL.nil ?_
  refine QF.seqNext ?_
  refine WC.seq ?_
  refine WC.cond rfl ?_ ?_
  · intro hlt
    replace hlt : k < l.length := by have := of_decide_eq_true hlt; omega
    refine WC.skip ?_
    refine QF.seqNext ?_
    refine WC.seq ?_
    refine WC.block ?_
    refine WC.seq ?_
    refine WC.region ?_
    refine WL.v (RV.move rfl) rfl ?_
    refine WL.v (RV.assign rfl) rfl ?_
    refine WL.nil ?_
    refine QF.seqNext ?_
    refine WC.seq ?_
    refine WC.region ?_
    refine WL.v (RV.move rfl) rfl ?_
    refine WL.v (RV.move rfl) rfl ?_
    refine WL.v (RV.move rfl) rfl ?_
    refine WL.v (RV.indexAddr (by first | exact h1) Tryz.underlying230 (Tryz.sizeOf226 _) rfl rfl _ rfl (by omega)) rfl ?_
    refine WL.v (RV.loadAgg (us := encRow (nth l k)) (fun j u hu => h1.cell hlt hu) (Tryz.isAgg226 _) (Tryz.sizeOf226 _) rfl) rfl ?_
    refine WL.callV rfl hF rfl (hq k hlt w1 hE) rfl ?_
    rintro v w2 ⟨rfl, hE2⟩
    refine WL.nil ?_
    refine QF.seqNext ?_
    refine WC.cond rfl ?_ ?_
    · intro hy
      refine WC.seq ?_
      refine WC.region ?_
      refine WL.v (RV.move rfl) rfl ?_
      refine WL.v (RV.assign rfl) rfl ?_
      refine WL.nil ?_
      refine QF.seqNext ?_
      refine WC.ret ?_
      refine QF.blockRet ?_
      refine QF.thenRet ?_
      refine QF.thenRet ?_
      refine QF.blockRet ?_
      refine QF.thenRet ?_
      refine QF.done1 rfl rfl (⟨by rw [firstN_yes hlt hy hno], hE.trans hE2⟩)
    · intro hy
      refine WC.skip ?_
      refine QF.blockNormal ?_
      refine QF.seqNext ?_
      refine WC.region ?_
      refine WL.v (RV.add rfl rfl (Fit.i64 (by omega))) rfl ?_
      refine WL.v (RV.move rfl) rfl ?_
      refine WL.nil ?_
      refine QF.next ((k + 1, w2)) (⟨hlt, hE.trans hE2, fun i hi => (Nat.lt_succ_iff_lt_or_eq.1 hi).elim (hno i) (fun e => by rw [e]; exact hy)⟩) (by omega) ⟨rfl, rfl, rfl, rfl, trivial⟩ rfl
  · intro hge
    replace hge : l.length ≤ k := by have := of_decide_eq_false hge; omega
    refine WC.exit ?_
    refine QF.thenExit ?_
    refine QF.thenExit ?_
    refine QF.blockHit ?_
    refine QF.seqNext ?_
    refine WC.seq ?_
    refine WC.region ?_
    refine WL.v (RV.assign rfl) rfl ?_
    refine WL.nil ?_
    refine QF.seqNext ?_
    refine WC.ret ?_
    refine QF.done1 rfl rfl (⟨by rw [firstN_no fun i hi => hno i (by omega)], hE⟩)
def rowQ (name : List UInt8) (i : Nat) : Bool := (rowsL.getD i ([], 0)).1 == name
theorem rowQ_nth (name : List UInt8) (i : Nat) (h : i < rowsL.length) : ((nth rowsL i).1 == name) = rowQ name i := by
  rw [nth_eq h, rowQ, List.getD_eq_getElem?_getD, List.getElem?_eq_getElem h]; rfl
theorem find_ix {c : UInt8} (h : spec c = true) : ∃ i, i < 26 ∧ firstN (rowQ (refName c)) 26 = (i : Nat) ∧ rowsL[i]? = some (refName c, (c.toNat : Int)) := by
  simp only [spec, Bool.or_eq_true, beq_iff_eq] at h
  rcases h with (rfl | rfl) | rfl
  · exact ⟨0, by decide, firstN_yes (by decide) (by decide) (by decide), rfl⟩
  · exact ⟨11, by decide, firstN_yes (by decide) (by decide) (by decide), rfl⟩
  · exact ⟨5, by decide, firstN_yes (by decide) (by decide) (by decide), rfl⟩
theorem rows_cells {O : Nat → Nat} {w : World} {i b : Nat} {E : TypeId} (h : BlkO O w i b rowsC E) : Sl encRow 2 w (.slice (some ⟨b, 0, none⟩) 26 26) rowsL := by
  refine ⟨⟨_, 26, rfl, Nat.le_refl _, by decide, fun _ => ⟨b, 0, rfl⟩⟩, fun k hk j u hu => ?_⟩
  have hg := flatMap_get (enc := encRow) (sz := 2) rowsL (fun _ _ => rfl) k hk j u hu
  have hc := h.cell (k * 2 + j) (u := u) (by simpa [rowsC] using hg)
  have e : (adr (.slice (some ⟨b, 0, none⟩) 26 26) 2 k).add j = ⟨b, k * 2 + j, none⟩ := by simp only [adr, Addr.add]; split <;> simp_all
  rw [e]; exact hc
theorem find_ret (c : UInt8) (w : World) (hc : spec c = true) : Ret Tryz.prog 99 [.string (bs (refName c))] w fun v w' => v = .tuple #[.int .i32 (c.toNat : Int), .bool true] ∧ Ext w w' := by
  obtain ⟨ix, hix, hfx, hrow⟩ := find_ix hc
  refine Ret.enter Tryz.func99 Tryz.ntmps99 rfl rfl ?_
  refine WC.seq ?_
  refine WC.region ?_
  refine WL.boxO (Rng.start w) 1 (by omega) rfl rfl ?_
  intro nb w1 O1 hx hU1 hR1 hE1
  have hn1 : w1.cell? ⟨nb, 0, none⟩ = some (.string (bs (refName c))) := hx.cell 0 rfl
  refine WL.v (RV.assign rfl) rfl ?_
  refine WL.v (RV.assign rfl) rfl ?_
  refine WL.nil ?_
  refine QF.seqNext ?_
  refine WC.seq ?_
  refine WC.region ?_
  refine WL.call Tryz.call128 rfl (rows_ret w1) rfl ?_
  rintro v w2 ⟨rfl, hE2⟩
  refine WL.allocO (Rng.start w2) 1 (by omega) (Tryz.zeroValue227 _) rfl ?_
  intro rb w3 O3 hr3 hU3 hR3 hE3
  refine WL.storeAgg (us := rowsC) hr3 (by kernel_rfl) (Tryz.sizeOf227 _) (by kernel_rfl) rfl rfl rfl ?_
  have hr4 := hr3.setRow (us := rowsC)
  have hE4 : Ext w2 (w3.setRow rb rowsC) := (hU3.trans (Upd.setRow (by decide) hr3.tag rfl)).ext
  generalize w3.setRow rb rowsC = w4 at *
  have hs4 := rows_cells hr4
  have hn4 : w4.cell? ⟨nb, 0, none⟩ = some (.string (bs (refName c))) := (hE2.trans hE4).cell hn1
  refine WL.nil ?_
  refine QF.seqNext ?_
  refine WC.seq ?_
  refine WC.region ?_
  refine WL.v (RV.sliceArr Tryz.underlying227 (Tryz.sizeOf226 _) (by decide) rfl) rfl ?_
  refine WL.v (RV.mkFunc rfl rfl) rfl ?_
  refine WL.call Tryz.call129 rfl (rowIndexN_ret Tryz.call130 #[.pointer (some ⟨nb, 0, none⟩)] rowsL _ (rowQ (refName c)) w4 hs4 (fun i hi w' hE => by rw [← rowQ_nth _ i hi]; exact find1_ret (nth rowsL i) (refName c) nb w' (hE.cell hn4))) rfl ?_
  rw [show rowsL.length = 26 from rfl, hfx]
  rintro v w5 ⟨rfl, hE5⟩
  refine WL.v (RV.assign rfl) rfl ?_
  refine WL.nil ?_
  refine QF.seqNext ?_
  refine WC.seq ?_
  refine WC.seq ?_
  refine WC.region ?_
  refine WL.v (RV.move rfl) rfl ?_
  refine WL.v (RV.lss rfl rfl) rfl ?_
  refine WL.nil ?_
  refine QF.seqNext ?_
  refine WC.condF rfl (decide_eq_false (by omega)) ?_
  refine WC.skip ?_
  refine QF.seqNext ?_
  refine WC.seq ?_
  refine WC.region ?_
  refine WL.v (RV.move rfl) rfl ?_
  refine WL.v (RV.indexAddrA Tryz.underlying227 (Tryz.sizeOf226 _) rfl rfl ix rfl hix) rfl ?_
  obtain ⟨hlt, hrw⟩ := List.getElem?_eq_some_iff.1 hrow
  have hcl := (hs4.ext hE5).cells ix hlt 1 (.int .i32 (c.toNat : Int)) (by rw [hrw]; rfl)
  have hcl2 : w5.cell? (((⟨rb, 0, none⟩ : Addr).add (ix * 2)).add 1) = some (.int .i32 (c.toNat : Int)) := by
    have e : (adr (.slice (some ⟨rb, 0, none⟩) 26 26) 2 ix) = (⟨rb, 0, none⟩ : Addr).add (ix * 2) := by simp only [adr, Addr.add]; split <;> simp_all
    rw [← e]; exact hcl
  refine WL.v (RV.fieldAddr 1 Tryz.underlying226 rfl rfl (Tryz.sizeOf21 _) (by decide) rfl) rfl ?_
  refine WL.v (RV.load (by first | exact hcl2) (Tryz.isAgg21 _) rfl) rfl ?_
  refine WL.v (RV.assign rfl) rfl ?_
  refine WL.v (RV.assign rfl) rfl ?_
  refine WL.nil ?_
  refine QF.seqNext ?_
  refine WC.ret ?_
  refine QF.done2 rfl rfl rfl (⟨rfl, ((hE1.trans hE2).trans hE4).trans hE5⟩)

theorem drop_nth {b : List UInt8} {i : Nat} {x : UInt8} {r : List UInt8} (h : b.drop i = x :: r) : i < b.length ∧ nth b i = x := by
  have hlt : i < b.length := Nat.lt_of_not_le fun e => by rw [List.drop_eq_nil_of_le e] at h; cases h
  rw [List.drop_eq_getElem_cons hlt] at h
  exact ⟨hlt, by rw [nth_eq hlt]; exact (List.cons.inj h).1⟩
/-- What a reference looks like, byte by byte. -/
theorem ref_look {c : UInt8} (h : spec c = true) (r : List UInt8) : ∃ k x y, k + 2 = (escB c).length ∧ 0 < k ∧ k < 6 ∧ (escB c ++ r).take 3 = [38, x, y] ∧ x ≠ 35 ∧ (∀ j, j < k → 97 ≤ by8 (escB c ++ r) (j + 1) ∧ by8 (escB c ++ r) (j + 1) ≤ 122) ∧ by8 (escB c ++ r) (k + 1) = 59 ∧ ((escB c ++ r).take (k + 1)).drop 1 = refName c := by
  have hby : ∀ j, j < (escB c).length → by8 (escB c ++ r) j = by8 (escB c) j := fun j hj => by8_append_left hj
  simp only [spec, Bool.or_eq_true, beq_iff_eq] at h
  rcases h with (rfl | rfl) | rfl
  · refine ⟨3, 97, 109, rfl, by decide, by decide, rfl, by decide, fun j hj => ?_, ?_, rfl⟩
    · rw [hby (j + 1) (by show j + 1 < 5; omega), by8, nth_eq (by show j + 1 < 5; omega)]
      obtain rfl | rfl | rfl : j = 0 ∨ j = 1 ∨ j = 2 := by omega
      all_goals exact ⟨Nat.le_of_ble_eq_true rfl, Nat.le_of_ble_eq_true rfl⟩
    · rw [hby 4 (by decide), by8, nth_eq (by decide)]; decide
  · refine ⟨2, 108, 116, rfl, by decide, by decide, rfl, by decide, fun j hj => ?_, ?_, rfl⟩
    · rw [hby (j + 1) (by show j + 1 < 4; omega), by8, nth_eq (by show j + 1 < 4; omega)]
      obtain rfl | rfl : j = 0 ∨ j = 1 := by omega
      all_goals exact ⟨Nat.le_of_ble_eq_true rfl, Nat.le_of_ble_eq_true rfl⟩
    · rw [hby 3 (by decide), by8, nth_eq (by decide)]; decide
  · refine ⟨2, 103, 116, rfl, by decide, by decide, rfl, by decide, fun j hj => ?_, ?_, rfl⟩
    · rw [hby (j + 1) (by show j + 1 < 4; omega), by8, nth_eq (by show j + 1 < 4; omega)]
      obtain rfl | rfl : j = 0 ∨ j = 1 := by omega
      all_goals exact ⟨Nat.le_of_ble_eq_true rfl, Nat.le_of_ble_eq_true rfl⟩
    · rw [hby 3 (by decide), by8, nth_eq (by decide)]; decide

theorem entRead_ret (b : List UInt8) (bv : Value) (i : Nat) (c : UInt8) (r : List UInt8) (w : World) (h : Bytes w bv b) (hc : spec c = true) (hd : b.drop i = escB c ++ r) :
    Ret Tryz.prog 79 [bv, .int .i64 i] w fun v w' => v = .tuple #[.int .i32 (c.toNat : Int), .int .i64 (escB c).length] ∧ Ext w w' := by
  have hm := h.len_le
  obtain ⟨k, x, y, hk2, hk0, hk6, hl3, hx35, hlet, hend, hname⟩ := ref_look hc r
  obtain ⟨hi, h38⟩ := drop_nth (b := b) (i := i) (x := 38) (r := refName c ++ [59] ++ r) (by rw [hd, escB_spec hc]; simp)
  have hlen : (escB c ++ r).length = b.length - i := by rw [← hd]; simp
  have hlen2 : k + 2 ≤ b.length - i := by rw [← hlen, List.length_append]; omega
  have hz38 : (by8 b i) = 38 := by rw [by8, h38]; rfl
  refine Ret.enter Tryz.func79 Tryz.ntmps79 rfl rfl ?_
  refine WC.seq ?_
  refine WC.region ?_
  refine WL.v (RV.assign rfl) rfl ?_
  refine WL.v (RV.assign rfl) rfl ?_
  refine WL.nil ?_
  refine QF.seqNext ?_
  refine WC.seq ?_
  refine WC.seq ?_
  refine WC.region ?_
  refine WL.v (RV.move rfl) rfl ?_
  refine WL.v (RV.lss rfl rfl) rfl ?_
  refine WL.v (RV.move rfl) rfl ?_
  refine WL.know (d := 14) rfl (b' := false) (decide_eq_false (by omega)) ?_
  refine WL.on rfl ?_
  refine WL.v (RV.move rfl) rfl ?_
  refine WL.on rfl ?_
  refine WL.v (RV.move rfl) rfl ?_
  refine WL.on rfl ?_
  refine WL.v (RV.len (by first | exact h) Tryz.underlying31 rfl) rfl ?_
  refine WL.on rfl ?_
  refine WL.v (RV.geq rfl rfl) rfl ?_
  refine WL.v (RV.pickF rfl rfl) rfl ?_
  refine WL.v (RV.move rfl) rfl ?_
  refine WL.know (d := 20) rfl (b' := false) (decide_eq_false (by omega)) ?_
  refine WL.on rfl ?_
  refine WL.v (RV.move rfl) rfl ?_
  refine WL.on rfl ?_
  refine WL.v (RV.move rfl) rfl ?_
  refine WL.on rfl ?_
  refine WL.v (RV.indexAddr (by first | exact h) Tryz.underlying31 (Tryz.sizeOf5 _) rfl rfl _ rfl (by omega)) rfl ?_
  refine WL.on rfl ?_
  refine WL.v (RV.load (by first | exact h.ld (i := i) hi) (Tryz.isAgg5 _) rfl) rfl ?_
  refine WL.on rfl ?_
  refine WL.v (RV.neq rfl rfl) rfl ?_
  refine WL.v (RV.pickF rfl rfl) rfl ?_
  refine WL.nil ?_
  refine QF.seqNext ?_
  refine WC.condF rfl ((by rw [h38]; rfl)) ?_
  refine WC.skip ?_
  refine QF.seqNext ?_
  refine WC.seq ?_
  refine WC.region ?_
  refine WL.v (RV.move rfl) rfl ?_
  refine WL.v (RV.move rfl) rfl ?_
  refine WL.v (RV.sliceLo h Tryz.underlying31 (Tryz.sizeOf5 _) rfl rfl i rfl (by omega)) rfl ?_
  have hs : Bytes w (sliceV bv 1 i b.length) ((b.take b.length).drop i) := h.slice (by omega) (Nat.le_refl _)
  rw [List.take_length, hd] at hs
  generalize sliceV bv 1 i b.length = sv at *
  generalize hL : escB c ++ r = L at *
  refine WL.v (RV.assign rfl) rfl ?_
  refine WL.nil ?_
  refine QF.seqNext ?_
  refine WC.seq ?_
  refine WC.region ?_
  refine WL.v (RV.move rfl) rfl ?_
  refine WL.call Tryz.call96 rfl (formOf_ret L sv x y w hs hl3 hx35) rfl ?_
  rintro v w1 ⟨rfl, hE1⟩
  refine WL.allocO (Rng.start w1) 1 (by omega) (Tryz.zeroValue190 _) rfl ?_
  intro fb w2 O2 hf2 hU2 hR2 hE2
  refine WL.storeAgg (us := formL.toArray) hf2 rfl (Tryz.sizeOf190 _) rfl rfl rfl rfl ?_
  have hf3 := hf2.setRow (us := formL.toArray)
  have hE3 : Ext w1 (w2.setRow fb formL.toArray) := (hU2.trans (Upd.setRow (by decide) hf2.tag rfl)).ext
  generalize w2.setRow fb formL.toArray = w3 at *
  have hs3 := (hs.ext hE1).ext hE3
  refine WL.nil ?_
  refine QF.seqNext ?_
  refine WC.seq ?_
  refine WC.region ?_
  refine WL.v (RV.loadAgg (us := formL) hf3.cellsAdd (Tryz.isAgg190 _) (Tryz.sizeOf190 _) rfl) rfl ?_
  refine WL.v (RV.move rfl) rfl ?_
  refine WL.call Tryz.call97 rfl (formRun_ret L sv k w3 hs3 (by omega) hk6 hlet hend) rfl ?_
  rintro v w4 ⟨rfl, hE4⟩
  have hs4 := hs3.ext hE4
  have c0 : w4.cell? ((⟨fb, 0, none⟩ : Addr).add 0) = some (.int .i64 1) := hE4.cell (hf3.cell 0 rfl)
  have c3 : w4.cell? ((⟨fb, 0, none⟩ : Addr).add 3) = some (.int .i64 0) := hE4.cell (hf3.cell 3 rfl)
  refine WL.v (RV.assign rfl) rfl ?_
  refine WL.nil ?_
  refine QF.seqNext ?_
  refine WC.seq ?_
  refine WC.region ?_
  refine WL.v (RV.fieldAddr 0 Tryz.underlying190 rfl rfl (Tryz.sizeOf3 _) (by decide) rfl) rfl ?_
  refine WL.v (RV.load (by first | exact c0) (Tryz.isAgg3 _) rfl) rfl ?_
  refine WL.v (RV.move rfl) rfl ?_
  refine WL.v (RV.add rfl rfl (Fit.i64 (by omega))) rfl ?_
  refine WL.v (RV.assign rfl) rfl ?_
  refine WL.nil ?_
  refine QF.seqNext ?_
  refine WC.seq ?_
  refine WC.seq ?_
  refine WC.region ?_
  refine WL.v (RV.move rfl) rfl ?_
  refine WL.v (RV.eql rfl rfl) rfl ?_
  refine WL.v (RV.move rfl) rfl ?_
  refine WL.know (d := 41) rfl (b' := false) (decide_eq_false (by omega)) ?_
  refine WL.on rfl ?_
  refine WL.v (RV.move rfl) rfl ?_
  refine WL.on rfl ?_
  refine WL.v (RV.move rfl) rfl ?_
  refine WL.on rfl ?_
  refine WL.v (RV.len (by first | exact hs4) Tryz.underlying31 rfl) rfl ?_
  refine WL.on rfl ?_
  refine WL.v (RV.geq rfl rfl) rfl ?_
  refine WL.v (RV.pickF rfl rfl) rfl ?_
  refine WL.v (RV.move rfl) rfl ?_
  refine WL.know (d := 47) rfl (b' := false) (decide_eq_false (by omega)) ?_
  refine WL.on rfl ?_
  refine WL.v (RV.move rfl) rfl ?_
  refine WL.on rfl ?_
  refine WL.v (RV.move rfl) rfl ?_
  refine WL.on rfl ?_
  refine WL.v (RV.indexAddr hs4 Tryz.underlying31 (Tryz.sizeOf5 _) rfl rfl (k + 1) (by omega) (by omega)) rfl ?_
  refine WL.on rfl ?_
  refine WL.v (RV.load (by first | exact hs4.ld (i := k + 1) (by omega)) (Tryz.isAgg5 _) rfl) rfl ?_
  refine WL.on rfl ?_
  refine WL.v (RV.neq rfl rfl) rfl ?_
  refine WL.v (RV.pickF rfl rfl) rfl ?_
  refine WL.nil ?_
  refine QF.seqNext ?_
  have h59 : (nth L (k + 1)).toNat = 59 := hend
  refine WC.condF rfl ((by rw [h59]; rfl)) ?_
  refine WC.skip ?_
  refine QF.seqNext ?_
  refine WC.seq ?_
  refine WC.region ?_
  refine WL.v (RV.move rfl) rfl ?_
  refine WL.v (RV.fieldAddr 0 Tryz.underlying190 rfl rfl (Tryz.sizeOf3 _) (by decide) rfl) rfl ?_
  refine WL.v (RV.load (by first | exact c0) (Tryz.isAgg3 _) rfl) rfl ?_
  refine WL.v (RV.move rfl) rfl ?_
  refine WL.v (RV.slice hs4 Tryz.underlying31 (Tryz.sizeOf5 _) rfl rfl rfl 1 (k + 1) rfl (by omega) (by omega) (by omega)) rfl ?_
  have hs5 : Bytes w4 (sliceV sv 1 1 (k + 1)) ((L.take (k + 1)).drop 1) := hs4.slice (by omega) (by omega)
  rw [hname] at hs5
  refine WL.v (RV.strOf hs5 Tryz.underlying31 Tryz.underlying5 Tryz.underlying9 rfl) rfl ?_
  refine WL.v (RV.assign rfl) rfl ?_
  refine WL.nil ?_
  refine QF.seqNext ?_
  refine WC.seq ?_
  refine WC.seq ?_
  refine WC.region ?_
  refine WL.v (RV.fieldAddr 3 Tryz.underlying190 rfl rfl (Tryz.sizeOf3 _) (by decide) rfl) rfl ?_
  refine WL.v (RV.load (by first | exact c3) (Tryz.isAgg3 _) rfl) rfl ?_
  refine WL.v (RV.gtr rfl rfl) rfl ?_
  refine WL.nil ?_
  refine QF.seqNext ?_
  refine WC.condF rfl (rfl) ?_
  refine WC.skip ?_
  refine QF.seqNext ?_
  refine WC.seq ?_
  refine WC.region ?_
  refine WL.v (RV.move rfl) rfl ?_
  refine WL.call Tryz.call99 rfl (find_ret c w4 hc) rfl ?_
  rintro v w5 ⟨rfl, hE5⟩
  refine WL.v (RV.move rfl) rfl ?_
  refine WL.v (RV.extract rfl rfl) rfl ?_
  refine WL.v (RV.extract rfl rfl) rfl ?_
  refine WL.v (RV.assign rfl) rfl ?_
  refine WL.v (RV.assign rfl) rfl ?_
  refine WL.nil ?_
  refine QF.seqNext ?_
  refine WC.seq ?_
  refine WC.seq ?_
  refine WC.region ?_
  refine WL.v (RV.move rfl) rfl ?_
  refine WL.v (RV.not rfl) rfl ?_
  refine WL.nil ?_
  refine QF.seqNext ?_
  refine WC.condF rfl (rfl) ?_
  refine WC.skip ?_
  refine QF.seqNext ?_
  refine WC.seq ?_
  refine WC.region ?_
  refine WL.v (RV.move rfl) rfl ?_
  refine WL.v (RV.move rfl) rfl ?_
  refine WL.v (RV.add rfl rfl (Fit.i64 (by omega))) rfl ?_
  refine WL.v (RV.assign rfl) rfl ?_
  refine WL.v (RV.assign rfl) rfl ?_
  refine WL.nil ?_
  refine QF.seqNext ?_
  refine WC.ret ?_
  refine QF.done2 rfl rfl rfl (⟨?_, ((hE1.trans hE3).trans hE4).trans hE5⟩)
  rw [show ((escB c).length : Int) = 1 + (k : Int) + 1 from by omega]
  rfl
end Go.Proofs.YtakigpnccppheaaGreatDoor
