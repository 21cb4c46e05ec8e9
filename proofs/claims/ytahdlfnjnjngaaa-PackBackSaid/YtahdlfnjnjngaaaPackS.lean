/- Package pack, walked: get, Get; chapter 12 by the document: Get, May. -/
import Derived.Test.YtahdlfnjnjngaaaPackR
import Derived.Test.YtahdlfnjnjngaaaPackJ
import Derived.Test.YtahdlfnjnjngaaaVf
namespace Go.Proofs.Ytahdlfnjnjngaaa
open Go.VL Go.Proofs

/-- An entry of packed rows. -/
def getM (p : PSt) (r c : Nat) : Int :=
  let k := (nth p.base r).toNat + c
  if k < p.check.length ∧ nth p.check k = r then nth p.next k else nth p.usual r
structure OkP (p : PSt) : Prop where
  w1 : 1 ≤ p.width
  w2 : p.width ≤ 64
  rows : p.usual.length ≤ 1000
  bl : p.base.length = p.usual.length
  cl : p.check.length = p.next.length
  c2 : p.check.length ≤ 65599
  base : ∀ r, r < p.base.length → 0 ≤ nth p.base r ∧ nth p.base r ≤ 65535
theorem okP (p : PSt) (h : rightM p = true) : OkP p := by
  simp only [rightM, Bool.and_eq_true, Bool.not_eq_true', Bool.or_eq_false_iff, decide_eq_false_iff_not, bne_eq_false_iff_eq] at h
  obtain ⟨⟨⟨⟨⟨h1, h2⟩, h3⟩, h4⟩, h5, h6⟩, ⟨⟨h7, h8⟩, h9⟩, h10⟩ := h
  exact ⟨by omega, by omega, by omega, by omega, by omega, by omega, fun r hr => of_inB h8 (nth_mem hr)⟩

theorem get_ret (p : PSt) (ok : OkP p) (u1 b1 k1 n1 : Value) (pb r c : Nat) (w : World) (hu : Ints w u1 p.usual) (hb : Ints w b1 p.base) (hk : Ints w k1 p.check) (hn : Ints w n1 p.next)
    (hc : ∀ j u, (#[.int .i64 p.width, u1, b1, k1, n1] : Array Value)[j]? = some u → w.cell? ⟨pb, j, none⟩ = some u) (hr : r < p.base.length) (hcw : c < 64) :
    Ret Try.prog 30 [.pointer (some ⟨pb, 0, none⟩), .int .i64 r, .int .i64 c] w fun v w' => v = .int .i64 (getM p r c) ∧ w = w' := by
  obtain ⟨o1, o2, o3, o4, o5, o6, o7⟩ := ok
  have hb7 := o7 r hr
  obtain ⟨b, hbb⟩ := Int.eq_ofNat_of_zero_le hb7.1
  have hg : getM p r c = if b + c < p.check.length ∧ nth p.check (b + c) = r then nth p.next (b + c) else nth p.usual r := by simp only [getM, hbb]; rfl
  refine Ret.enter Try.func30 Try.ntmps30 rfl rfl ?_
  refine WC.seq ?_
  refine WC.region ?_
  refine WL.v (RV.assign rfl) rfl ?_
  refine WL.nil ?_
  refine QF.seqNext ?_
  refine WC.seq ?_
  refine WC.seq ?_
  refine WC.region ?_
  refine WL.v (RV.move rfl) rfl ?_
  refine WL.v (RV.nilPtr rfl) rfl ?_
  refine WL.v (RV.fieldAddr 2 Try.underlying27 rfl rfl (Try.sizeOf25 _) (by decide) rfl) rfl ?_
  refine WL.v (RV.load (by first | exact hc 2 _ rfl | exact hb.ld hr) (Try.isAgg25 _) rfl) rfl ?_
  refine WL.v (RV.move rfl) rfl ?_
  refine WL.v (RV.indexAddr (by first | exact hu | exact hb | exact hk | exact hn) Try.underlying25 (Try.sizeOf3 _) rfl rfl _ rfl (by omega)) rfl ?_
  refine WL.v (RV.load (by first | exact hc 2 _ rfl | exact hb.ld hr) (Try.isAgg3 _) rfl) rfl ?_
  have e15 : Value.int .i64 (nth p.base r) = .int .i64 (b : Int) := by rw [hbb]
  rw [e15]
  refine WL.v (RV.move rfl) rfl ?_
  refine WL.v (RV.add rfl rfl (Fit.i64 (by omega))) rfl ?_
  refine WL.v (RV.assign rfl) rfl ?_
  refine WL.nil ?_
  refine QF.seqNext ?_
  refine WC.seq ?_
  refine WC.region ?_
  refine WL.v (RV.move rfl) rfl ?_
  refine WL.v (RV.move rfl) rfl ?_
  refine WL.v (RV.nilPtr rfl) rfl ?_
  refine WL.v (RV.fieldAddr 3 Try.underlying27 rfl rfl (Try.sizeOf25 _) (by decide) rfl) rfl ?_
  refine WL.v (RV.load (by first | exact hc 3 _ rfl) (Try.isAgg25 _) rfl) rfl ?_
  refine WL.v (RV.len (by first | exact hu | exact hb | exact hk | exact hn) Try.underlying25 rfl) rfl ?_
  refine WL.v (RV.lss rfl rfl) rfl ?_
  refine WL.v (RV.move rfl) rfl ?_
  by_cases h1 : b + c < p.check.length
  · skip
    refine WL.know (d := 24) rfl (b' := true) (decide_eq_true (by omega)) ?_
    refine WL.on rfl ?_
    refine WL.v (RV.move rfl) rfl ?_
    refine WL.on rfl ?_
    refine WL.v (RV.nilPtr rfl) rfl ?_
    refine WL.on rfl ?_
    refine WL.v (RV.fieldAddr 3 Try.underlying27 rfl rfl (Try.sizeOf25 _) (by decide) rfl) rfl ?_
    refine WL.on rfl ?_
    refine WL.v (RV.load (by first | exact hc 3 _ rfl | exact hk.ld h1) (Try.isAgg25 _) rfl) rfl ?_
    refine WL.on rfl ?_
    refine WL.v (RV.move rfl) rfl ?_
    refine WL.on rfl ?_
    refine WL.v (RV.indexAddr (by first | exact hu | exact hb | exact hk | exact hn) Try.underlying25 (Try.sizeOf3 _) rfl rfl _ rfl (by omega)) rfl ?_
    refine WL.on rfl ?_
    refine WL.v (RV.load (by first | exact hc 3 _ rfl | exact hk.ld h1) (Try.isAgg3 _) rfl) rfl ?_
    refine WL.on rfl ?_
    refine WL.v (RV.move rfl) rfl ?_
    refine WL.on rfl ?_
    refine WL.v (RV.eql rfl rfl) rfl ?_
    refine WL.v (RV.pickT rfl rfl) rfl ?_
    refine WL.nil ?_
    refine QF.seqNext ?_
    refine WC.cond rfl ?_ ?_
    · intro he
      replace he : nth p.check (b + c) = r := by simpa using he
      rw [if_pos ⟨h1, he⟩] at hg
      refine WC.seq ?_
      refine WC.region ?_
      refine WL.v (RV.move rfl) rfl ?_
      refine WL.v (RV.nilPtr rfl) rfl ?_
      refine WL.v (RV.fieldAddr 4 Try.underlying27 rfl rfl (Try.sizeOf25 _) (by decide) rfl) rfl ?_
      refine WL.v (RV.load (by first | exact hc 4 _ rfl | exact hn.ld (i := b + c) (by omega)) (Try.isAgg25 _) rfl) rfl ?_
      refine WL.v (RV.move rfl) rfl ?_
      refine WL.v (RV.indexAddr hn Try.underlying25 (Try.sizeOf3 _) rfl rfl (b + c) rfl (by omega)) rfl ?_
      refine WL.v (RV.load (by first | exact hc 4 _ rfl | exact hn.ld (i := b + c) (by omega)) (Try.isAgg3 _) rfl) rfl ?_
      refine WL.v (RV.assign rfl) rfl ?_
      refine WL.nil ?_
      refine QF.seqNext ?_
      refine WC.ret ?_
      refine QF.thenRet ?_
      refine QF.done1 rfl rfl (⟨by rw [hg], rfl⟩)
    · intro he
      replace he : ¬ nth p.check (b + c) = r := by simpa using he
      rw [if_neg (fun h => he h.2)] at hg
      refine WC.skip ?_
      refine QF.seqNext ?_
      refine WC.seq ?_
      refine WC.region ?_
      refine WL.v (RV.move rfl) rfl ?_
      refine WL.v (RV.nilPtr rfl) rfl ?_
      refine WL.v (RV.fieldAddr 1 Try.underlying27 rfl rfl (Try.sizeOf25 _) (by decide) rfl) rfl ?_
      refine WL.v (RV.load (by first | exact hc 1 _ rfl | exact hu.ld (i := r) (by omega)) (Try.isAgg25 _) rfl) rfl ?_
      refine WL.v (RV.move rfl) rfl ?_
      refine WL.v (RV.indexAddr (by first | exact hu | exact hb | exact hk | exact hn) Try.underlying25 (Try.sizeOf3 _) rfl rfl _ rfl (by omega)) rfl ?_
      refine WL.v (RV.load (by first | exact hc 1 _ rfl | exact hu.ld (i := r) (by omega)) (Try.isAgg3 _) rfl) rfl ?_
      refine WL.v (RV.assign rfl) rfl ?_
      refine WL.nil ?_
      refine QF.seqNext ?_
      refine WC.ret ?_
      refine QF.done1 rfl rfl (⟨by rw [hg], rfl⟩)
  · rw [if_neg (fun h => h1 h.1)] at hg
    refine WL.know (d := 24) rfl (b' := false) (decide_eq_false (by omega)) ?_
    refine WL.off rfl rfl rfl ?_
    refine WL.off rfl rfl rfl ?_
    refine WL.off rfl rfl rfl ?_
    refine WL.off rfl rfl rfl ?_
    refine WL.off rfl rfl rfl ?_
    refine WL.off rfl rfl rfl ?_
    refine WL.off rfl rfl rfl ?_
    refine WL.off rfl rfl rfl ?_
    refine WL.off rfl rfl rfl ?_
    refine WL.v (RV.pickF rfl rfl) rfl ?_
    refine WL.nil ?_
    refine QF.seqNext ?_
    refine WC.condF rfl rfl ?_
    refine WC.skip ?_
    refine QF.seqNext ?_
    refine WC.seq ?_
    refine WC.region ?_
    refine WL.v (RV.move rfl) rfl ?_
    refine WL.v (RV.nilPtr rfl) rfl ?_
    refine WL.v (RV.fieldAddr 1 Try.underlying27 rfl rfl (Try.sizeOf25 _) (by decide) rfl) rfl ?_
    refine WL.v (RV.load (by first | exact hc 1 _ rfl | exact hu.ld (i := r) (by omega)) (Try.isAgg25 _) rfl) rfl ?_
    refine WL.v (RV.move rfl) rfl ?_
    refine WL.v (RV.indexAddr (by first | exact hu | exact hb | exact hk | exact hn) Try.underlying25 (Try.sizeOf3 _) rfl rfl _ rfl (by omega)) rfl ?_
    refine WL.v (RV.load (by first | exact hc 1 _ rfl | exact hu.ld (i := r) (by omega)) (Try.isAgg3 _) rfl) rfl ?_
    refine WL.v (RV.assign rfl) rfl ?_
    refine WL.nil ?_
    refine QF.seqNext ?_
    refine WC.ret ?_
    refine QF.done1 rfl rfl (⟨by rw [hg], rfl⟩)

theorem refGet_ret (p : PSt) (ok : OkP p) (pv : Value) (r c : Nat) (w : World) (hp : PkV w pv p) (hr : r < p.base.length) (hcw : c < 64) :
    Ret Try.prog 21 [pv, .int .i64 r, .int .i64 c] w fun v w' => v = .int .i64 (getM p r c) ∧ Ext w w' := by
  obtain ⟨o1, o2, o3, o4, o5, o6, o7⟩ := ok
  have hb7 := o7 r hr
  obtain ⟨b, hbb⟩ := Int.eq_ofNat_of_zero_le hb7.1
  have hg : getM p r c = if b + c < p.check.length ∧ nth p.check (b + c) = r then nth p.next (b + c) else nth p.usual r := by simp only [getM, hbb]; rfl
  obtain ⟨u1, b1, k1, n1, rfl, hu, hb, hk, hn⟩ := hp
  refine Ret.enter Try.func21 Try.ntmps21 rfl rfl ?_
  refine WC.seq ?_
  refine WC.region ?_
  refine WL.boxO (Rng.start w) 1 (by omega) rfl rfl ?_
  intro x1 w1 O1 hx1 hU1 hR1 hE1
  replace hu := hu.ext hE1
  replace hb := hb.ext hE1
  replace hk := hk.ext hE1
  replace hn := hn.ext hE1
  refine WL.v (RV.assign rfl) rfl ?_
  refine WL.nil ?_
  refine QF.seqNext ?_
  refine WC.seq ?_
  refine WC.region ?_
  refine WL.v (RV.fieldAddr 2 Try.underlying34 rfl rfl (Try.sizeOf25 _) (by decide) rfl) rfl ?_
  refine WL.v (RV.load (by first | exact hx1.cell 2 rfl | exact hb.ld hr) (Try.isAgg25 _) rfl) rfl ?_
  refine WL.v (RV.move rfl) rfl ?_
  refine WL.v (RV.indexAddr (by first | exact hu | exact hb | exact hk | exact hn) Try.underlying25 (Try.sizeOf3 _) rfl rfl _ rfl (by omega)) rfl ?_
  refine WL.v (RV.load (by first | exact hx1.cell 2 rfl | exact hb.ld hr) (Try.isAgg3 _) rfl) rfl ?_
  have e15 : Value.int .i64 (nth p.base r) = .int .i64 (b : Int) := by rw [hbb]
  rw [e15]
  refine WL.v (RV.move rfl) rfl ?_
  refine WL.v (RV.add rfl rfl (Fit.i64 (by omega))) rfl ?_
  refine WL.v (RV.assign rfl) rfl ?_
  refine WL.nil ?_
  refine QF.seqNext ?_
  refine WC.seq ?_
  refine WC.seq ?_
  refine WC.region ?_
  refine WL.v (RV.move rfl) rfl ?_
  refine WL.v (RV.fieldAddr 3 Try.underlying34 rfl rfl (Try.sizeOf25 _) (by decide) rfl) rfl ?_
  refine WL.v (RV.load (by first | exact hx1.cell 3 rfl) (Try.isAgg25 _) rfl) rfl ?_
  refine WL.v (RV.len (by first | exact hu | exact hb | exact hk | exact hn) Try.underlying25 rfl) rfl ?_
  refine WL.v (RV.lss rfl rfl) rfl ?_
  refine WL.v (RV.move rfl) rfl ?_
  by_cases h1 : b + c < p.check.length
  · skip
    refine WL.know (d := 20) rfl (b' := true) (decide_eq_true (by omega)) ?_
    refine WL.on rfl ?_
    refine WL.v (RV.fieldAddr 3 Try.underlying34 rfl rfl (Try.sizeOf25 _) (by decide) rfl) rfl ?_
    refine WL.on rfl ?_
    refine WL.v (RV.load (by first | exact hx1.cell 3 rfl | exact hk.ld h1) (Try.isAgg25 _) rfl) rfl ?_
    refine WL.on rfl ?_
    refine WL.v (RV.move rfl) rfl ?_
    refine WL.on rfl ?_
    refine WL.v (RV.indexAddr (by first | exact hu | exact hb | exact hk | exact hn) Try.underlying25 (Try.sizeOf3 _) rfl rfl _ rfl (by omega)) rfl ?_
    refine WL.on rfl ?_
    refine WL.v (RV.load (by first | exact hx1.cell 3 rfl | exact hk.ld h1) (Try.isAgg3 _) rfl) rfl ?_
    refine WL.on rfl ?_
    refine WL.v (RV.move rfl) rfl ?_
    refine WL.on rfl ?_
    refine WL.v (RV.eql rfl rfl) rfl ?_
    refine WL.v (RV.pickT rfl rfl) rfl ?_
    refine WL.nil ?_
    refine QF.seqNext ?_
    refine WC.cond rfl ?_ ?_
    · intro he
      replace he : nth p.check (b + c) = r := by simpa using he
      rw [if_pos ⟨h1, he⟩] at hg
      refine WC.seq ?_
      refine WC.region ?_
      refine WL.v (RV.fieldAddr 4 Try.underlying34 rfl rfl (Try.sizeOf25 _) (by decide) rfl) rfl ?_
      refine WL.v (RV.load (by first | exact hx1.cell 4 rfl | exact hn.ld (i := b + c) (by omega)) (Try.isAgg25 _) rfl) rfl ?_
      refine WL.v (RV.move rfl) rfl ?_
      refine WL.v (RV.indexAddr hn Try.underlying25 (Try.sizeOf3 _) rfl rfl (b + c) rfl (by omega)) rfl ?_
      refine WL.v (RV.load (by first | exact hx1.cell 4 rfl | exact hn.ld (i := b + c) (by omega)) (Try.isAgg3 _) rfl) rfl ?_
      refine WL.v (RV.assign rfl) rfl ?_
      refine WL.nil ?_
      refine QF.seqNext ?_
      refine WC.ret ?_
      refine QF.thenRet ?_
      refine QF.done1 rfl rfl (⟨by rw [hg], hE1⟩)
    · intro he
      replace he : ¬ nth p.check (b + c) = r := by simpa using he
      rw [if_neg (fun h => he h.2)] at hg
      refine WC.skip ?_
      refine QF.seqNext ?_
      refine WC.seq ?_
      refine WC.region ?_
      refine WL.v (RV.fieldAddr 1 Try.underlying34 rfl rfl (Try.sizeOf25 _) (by decide) rfl) rfl ?_
      refine WL.v (RV.load (by first | exact hx1.cell 1 rfl | exact hu.ld (i := r) (by omega)) (Try.isAgg25 _) rfl) rfl ?_
      refine WL.v (RV.move rfl) rfl ?_
      refine WL.v (RV.indexAddr (by first | exact hu | exact hb | exact hk | exact hn) Try.underlying25 (Try.sizeOf3 _) rfl rfl _ rfl (by omega)) rfl ?_
      refine WL.v (RV.load (by first | exact hx1.cell 1 rfl | exact hu.ld (i := r) (by omega)) (Try.isAgg3 _) rfl) rfl ?_
      refine WL.v (RV.assign rfl) rfl ?_
      refine WL.nil ?_
      refine QF.seqNext ?_
      refine WC.ret ?_
      refine QF.done1 rfl rfl (⟨by rw [hg], hE1⟩)
  · rw [if_neg (fun h => h1 h.1)] at hg
    refine WL.know (d := 20) rfl (b' := false) (decide_eq_false (by omega)) ?_
    refine WL.off rfl rfl rfl ?_
    refine WL.off rfl rfl rfl ?_
    refine WL.off rfl rfl rfl ?_
    refine WL.off rfl rfl rfl ?_
    refine WL.off rfl rfl rfl ?_
    refine WL.off rfl rfl rfl ?_
    refine WL.off rfl rfl rfl ?_
    refine WL.v (RV.pickF rfl rfl) rfl ?_
    refine WL.nil ?_
    refine QF.seqNext ?_
    refine WC.condF rfl rfl ?_
    refine WC.skip ?_
    refine QF.seqNext ?_
    refine WC.seq ?_
    refine WC.region ?_
    refine WL.v (RV.fieldAddr 1 Try.underlying34 rfl rfl (Try.sizeOf25 _) (by decide) rfl) rfl ?_
    refine WL.v (RV.load (by first | exact hx1.cell 1 rfl | exact hu.ld (i := r) (by omega)) (Try.isAgg25 _) rfl) rfl ?_
    refine WL.v (RV.move rfl) rfl ?_
    refine WL.v (RV.indexAddr (by first | exact hu | exact hb | exact hk | exact hn) Try.underlying25 (Try.sizeOf3 _) rfl rfl _ rfl (by omega)) rfl ?_
    refine WL.v (RV.load (by first | exact hx1.cell 1 rfl | exact hu.ld (i := r) (by omega)) (Try.isAgg3 _) rfl) rfl ?_
    refine WL.v (RV.assign rfl) rfl ?_
    refine WL.nil ?_
    refine QF.seqNext ?_
    refine WC.ret ?_
    refine QF.done1 rfl rfl (⟨by rw [hg], hE1⟩)

def getOk (p : PSt) (row col : Int) : Bool := !(!rightM p || decide (row < 0) || decide ((p.usual.length : Int) ≤ row) || decide (col < 0) || decide (p.width ≤ col))
theorem packGet_ret (p : PSt) (pv : Value) (row col : Int) (w : World) (hp : PkV w pv p) :
    Ret Try.prog 18 [pv, .int .i64 row, .int .i64 col] w fun v w' => v = .tuple #[.int .i64 (if getOk p row col then getM p row.toNat col.toNat else 0), .bool (getOk p row col)] ∧ Ext w w' := by
  have hp0 := hp
  obtain ⟨u1, b1, k1, n1, rfl, hu, hb, hk, hn⟩ := hp
  refine Ret.enter Try.func18 Try.ntmps18 rfl rfl ?_
  refine WC.seq ?_
  refine WC.region ?_
  refine WL.boxO (Rng.start w) 1 (by omega) rfl rfl ?_
  intro x1 w1 O1 hx1 hU1 hR1 hE1
  refine WL.v (RV.assign rfl) rfl ?_
  refine WL.v (RV.assign rfl) rfl ?_
  refine WL.nil ?_
  refine QF.seqNext ?_
  refine WC.seq ?_
  refine WC.seq ?_
  refine WC.region ?_
  refine WL.v (RV.loadAgg hx1.cellsAdd (Try.isAgg27 _) (Try.sizeOf27 _) rfl) rfl ?_
  refine WL.call Try.call14 rfl (right_ret p _ w1 (hp0.ext hE1)) rfl ?_
  rintro v w2 ⟨rfl, hE2⟩
  have hE := hE1.trans hE2
  have hc : ∀ j u, (#[.int .i64 p.width, u1, b1, k1, n1] : Array Value)[j]? = some u → w2.cell? ⟨x1, j, none⟩ = some u := fun j u hu => hE2.cell (hx1.cell j hu)
  replace hu := hu.ext hE
  replace hb := hb.ext hE
  replace hk := hk.ext hE
  replace hn := hn.ext hE
  refine WL.v (RV.not rfl) rfl ?_
  refine WL.v (RV.move rfl) rfl ?_
  refine WL.orBS (fun w1 => _ = w1) (decide (row < 0)) 2 (rfl) rfl rfl rfl rfl rfl ?_ ?_
  · skip
    intro h1
    refine WL.on rfl ?_
    refine WL.v (RV.move rfl) rfl ?_
    refine WL.on rfl ?_
    refine WL.v (RV.lss rfl rfl) rfl ?_
    refine WL.nil ?_
    refine QF.andEnd (tA := 11) 3 (rfl) rfl rfl rfl (fun v hv => (Option.some.inj hv).symm.trans (congrArg Value.bool h1)) rfl
  rintro _ rfl
  refine WL.v (RV.move rfl) rfl ?_
  refine WL.orBS (fun w1 => _ = w1) (decide ((p.usual.length : Int) ≤ row)) 5 (rfl) rfl rfl rfl rfl rfl ?_ ?_
  · skip
    intro h2
    refine WL.on rfl ?_
    refine WL.v (RV.move rfl) rfl ?_
    refine WL.on rfl ?_
    refine WL.v (RV.fieldAddr 1 Try.underlying27 rfl rfl (Try.sizeOf25 _) (by decide) rfl) rfl ?_
    refine WL.on rfl ?_
    refine WL.v (RV.load (by first | exact hc 1 _ rfl) (Try.isAgg25 _) rfl) rfl ?_
    refine WL.on rfl ?_
    refine WL.v (RV.len (by first | exact hu | exact hb | exact hk | exact hn) Try.underlying25 rfl) rfl ?_
    refine WL.on rfl ?_
    refine WL.v (RV.geq rfl rfl) rfl ?_
    refine WL.nil ?_
    refine QF.andEnd (tA := 15) 6 (rfl) rfl rfl rfl (fun v hv => (Option.some.inj hv).symm.trans (congrArg Value.bool h2)) rfl
  rintro _ rfl
  refine WL.v (RV.move rfl) rfl ?_
  refine WL.orBS (fun w1 => _ = w1) (decide (col < 0)) 2 (rfl) rfl rfl rfl rfl rfl ?_ ?_
  · skip
    intro h3
    refine WL.on rfl ?_
    refine WL.v (RV.move rfl) rfl ?_
    refine WL.on rfl ?_
    refine WL.v (RV.lss rfl rfl) rfl ?_
    refine WL.nil ?_
    refine QF.andEnd (tA := 22) 3 (rfl) rfl rfl rfl (fun v hv => (Option.some.inj hv).symm.trans (congrArg Value.bool h3)) rfl
  rintro _ rfl
  refine WL.v (RV.move rfl) rfl ?_
  refine WL.orBS (fun w1 => _ = w1) (decide (p.width ≤ col)) 4 (rfl) rfl rfl rfl rfl rfl ?_ ?_
  · skip
    intro h4
    refine WL.on rfl ?_
    refine WL.v (RV.move rfl) rfl ?_
    refine WL.on rfl ?_
    refine WL.v (RV.fieldAddr 0 Try.underlying27 rfl rfl (Try.sizeOf3 _) (by decide) rfl) rfl ?_
    refine WL.on rfl ?_
    refine WL.v (RV.load (by first | exact hc 0 _ rfl) (Try.isAgg3 _) rfl) rfl ?_
    refine WL.on rfl ?_
    refine WL.v (RV.geq rfl rfl) rfl ?_
    refine WL.nil ?_
    refine QF.andEnd (tA := 26) 5 (rfl) rfl rfl rfl (fun v hv => (Option.some.inj hv).symm.trans (congrArg Value.bool h4)) rfl
  rintro _ rfl
  refine WL.nil ?_
  refine QF.seqNext ?_
  refine WC.cond rfl ?_ ?_
  · intro hg
    have hno : getOk p row col = false := by simp only [getOk, hg]; rfl
    refine WC.seq ?_
    refine WC.region ?_
    refine WL.v (RV.assign rfl) rfl ?_
    refine WL.v (RV.assign rfl) rfl ?_
    refine WL.nil ?_
    refine QF.seqNext ?_
    refine WC.ret ?_
    refine QF.thenRet ?_
    refine QF.done2 rfl rfl rfl (⟨by rw [hno]; rfl, hE⟩)
  · intro hg
    have hyes : getOk p row col = true := by simp only [getOk, hg]; rfl
    simp only [Bool.or_eq_false_iff, Bool.not_eq_false', decide_eq_false_iff_not] at hg
    obtain ⟨⟨⟨⟨g1, g2⟩, g3⟩, g4⟩, g5⟩ := hg
    have ok := okP p g1
    obtain ⟨r, rfl⟩ := Int.eq_ofNat_of_zero_le (by omega : 0 ≤ row)
    obtain ⟨c, rfl⟩ := Int.eq_ofNat_of_zero_le (by omega : 0 ≤ col)
    have := ok.bl
    have := ok.w2
    refine WC.skip ?_
    refine QF.seqNext ?_
    refine WC.seq ?_
    refine WC.region ?_
    refine WL.v (RV.move rfl) rfl ?_
    refine WL.v (RV.move rfl) rfl ?_
    refine WL.call Try.call30 rfl (get_ret p ok u1 b1 k1 n1 x1 r c w2 hu hb hk hn hc (by omega) (by omega)) rfl ?_
    rintro v _ ⟨rfl, rfl⟩
    refine WL.v (RV.assign rfl) rfl ?_
    refine WL.v (RV.assign rfl) rfl ?_
    refine WL.nil ?_
    refine QF.seqNext ?_
    refine WC.ret ?_
    refine QF.done2 rfl rfl rfl (⟨by rw [hyes]; rfl, hE⟩)

theorem in_ret (lo hi : Int) (l : List Int) (lv : Value) (w : World) (h : Ints w lv l) :
    Ret Try.prog 31 [lv, .int .i64 lo, .int .i64 hi] w fun v w' => v = .bool (inB lo hi l) ∧ w = w' := by
  have hm := h.len_le
  refine Ret.enter Try.func31 Try.ntmps31 rfl rfl ?_
  refine WC.seq ?_
  refine WC.region ?_
  refine WL.v (RV.assign rfl) rfl ?_
  refine WL.nil ?_
  refine QF.seqNext ?_
  refine WC.seq ?_
  refine WC.seq ?_
  refine WC.region ?_
  refine WL.v (RV.assign rfl) rfl ?_
  refine WL.nil ?_
  refine QF.seqNext ?_
  refine WC.block ?_
  refine WC.loop (fun i : Nat => [(0, lv), (1, .int .i64 lo), (2, .int .i64 hi), (7, .int .i64 i)]) (fun i : Nat => w) (fun i : Nat => i ≤ l.length ∧ inB lo hi (l.take i) = true) (fun i : Nat => l.length - i) 0 (⟨Nat.zero_le _, by simp [inB]⟩) ⟨rfl, rfl, rfl, rfl, trivial⟩ rfl ?_
  rintro i ⟨hi2, hyes⟩
  refine WC.seq ?_
  refine WC.seq ?_
  refine WC.region ?_
  refine WL.v (RV.move rfl) rfl ?_
  refine WL.v (RV.move rfl) rfl ?_
  refine WL.v (RV.len (by first | exact h) Try.underlying25 rfl) rfl ?_
  refine WL.v (RV.lss rfl rfl) rfl ?_
  refine WL.nil ?_
  refine QF.seqNext ?_
  refine WC.cond rfl ?_ ?_
  · intro hlt
    replace hlt : i < l.length := by have := of_decide_eq_true hlt; omega
    refine WC.skip ?_
    refine QF.seqNext ?_
    refine WC.seq ?_
    refine WC.block ?_
    refine WC.seq ?_
    refine WC.region ?_
    refine WL.v (RV.move rfl) rfl ?_
    refine WL.v (RV.move rfl) rfl ?_
    refine WL.v (RV.indexAddr (by first | exact h) Try.underlying25 (Try.sizeOf3 _) rfl rfl _ rfl (by omega)) rfl ?_
    refine WL.v (RV.load (by first | exact h.ld hlt) (Try.isAgg3 _) rfl) rfl ?_
    refine WL.v (RV.move rfl) rfl ?_
    refine WL.v (RV.lss rfl rfl) rfl ?_
    refine WL.v (RV.move rfl) rfl ?_
    refine WL.orBS (fun w1 => _ = w1) (decide (hi < nth l i)) 6 (rfl) rfl rfl rfl rfl rfl ?_ ?_
    · skip
      intro h1
      refine WL.on rfl ?_
      refine WL.v (RV.move rfl) rfl ?_
      refine WL.on rfl ?_
      refine WL.v (RV.move rfl) rfl ?_
      refine WL.on rfl ?_
      refine WL.v (RV.indexAddr (by first | exact h) Try.underlying25 (Try.sizeOf3 _) rfl rfl _ rfl (by omega)) rfl ?_
      refine WL.on rfl ?_
      refine WL.v (RV.load (by first | exact h.ld hlt) (Try.isAgg3 _) rfl) rfl ?_
      refine WL.on rfl ?_
      refine WL.v (RV.move rfl) rfl ?_
      refine WL.on rfl ?_
      refine WL.v (RV.gtr rfl rfl) rfl ?_
      refine WL.nil ?_
      refine QF.andEnd (tA := 20) 7 (rfl) rfl rfl rfl (fun v hv => (Option.some.inj hv).symm.trans (congrArg Value.bool h1)) rfl
    rintro _ rfl
    refine WL.nil ?_
    refine QF.seqNext ?_
    refine WC.cond rfl ?_ ?_
    · intro hb
      have hno : inB lo hi l = false := by
        rw [inB, List.all_eq_false]
        refine ⟨nth l i, nth_mem hlt, ?_⟩
        simp only [Bool.or_eq_true, decide_eq_true_eq] at hb
        simp only [Bool.and_eq_true, decide_eq_true_eq]
        omega
      refine WC.seq ?_
      refine WC.region ?_
      refine WL.v (RV.assign rfl) rfl ?_
      refine WL.nil ?_
      refine QF.seqNext ?_
      refine WC.ret ?_
      refine QF.blockRet ?_
      refine QF.thenRet ?_
      refine QF.thenRet ?_
      refine QF.blockRet ?_
      refine QF.thenRet ?_
      refine QF.done1 rfl rfl (⟨by rw [hno], rfl⟩)
    · intro hb
      have hnx : inB lo hi (l.take (i + 1)) = true := by
        simp only [Bool.or_eq_false_iff, decide_eq_false_iff_not] at hb
        simp only [inB] at hyes ⊢
        rw [take_nth hlt, List.all_append, hyes]
        simp; omega
      refine WC.skip ?_
      refine QF.blockNormal ?_
      refine QF.seqNext ?_
      refine WC.region ?_
      refine WL.v (RV.move rfl) rfl ?_
      refine WL.v (RV.add rfl rfl (Fit.i64 (by omega))) rfl ?_
      refine WL.v (RV.assign rfl) rfl ?_
      refine WL.nil ?_
      refine QF.next (i + 1) (⟨hlt, hnx⟩) (by omega) ⟨rfl, rfl, rfl, rfl, trivial⟩ rfl
  · intro hge
    obtain rfl : i = l.length := by have := of_decide_eq_false hge; omega
    rw [List.take_length] at hyes
    refine WC.exit ?_
    refine QF.thenExit ?_
    refine QF.thenExit ?_
    refine QF.blockHit ?_
    refine QF.seqNext ?_
    refine WC.seq ?_
    refine WC.region ?_
    refine WL.v (RV.assign rfl) rfl ?_
    refine WL.nil ?_
    refine QF.seqNext ?_
    refine WC.ret ?_
    refine QF.done1 rfl rfl (⟨by rw [hyes], rfl⟩)
end Go.Proofs.Ytahdlfnjnjngaaa
