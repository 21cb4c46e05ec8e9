/- Package escape, walked: Dress. -/
import Derived.Test.YtakigpnccppheaaGreatDoorDressA
import Derived.Test.YtakigpnccppheaaGreatDoorEscC1
namespace Go.Proofs.YtakigpnccppheaaGreatDoor
open Go.VL Go.Proofs
set_option maxRecDepth 10000

def rngB (ins : List Ins) (n i : Nat) : Bool := decide ((nth ins i).1 < 0) || decide ((n : Int) < (nth ins i).1)
def badK (ins : List Ins) (i : Nat) : Bool := !(markOk (nth ins i).2)
def dressE (l : List UInt8) (ins : List Ins) : Int :=
  if (!(plainM l) || anyN (badK ins) ins.length) = true then 1 else if anyN (rngB ins (decP l).length) ins.length = true then 2 else 0
def dressS (l : List UInt8) (ins : List Ins) : List UInt8 := if dressE l ins = 0 then dressM l ins else []
def atL (ins : List Ins) (n i : Nat) : List (List UInt8) := (List.range (n + 1)).map fun (j : Nat) => marksTo ins (j : Int) i
theorem atL_len (ins : List Ins) (n i : Nat) : (atL ins n i).length = n + 1 := by simp [atL]
theorem atL_nth (ins : List Ins) (n i a : Nat) (h : a ≤ n) : nth (atL ins n i) a = marksTo ins (a : Int) i := by
  rw [nth_eq (by rw [atL_len]; omega)]; simp [atL]
theorem atL_zero (ins : List Ins) (n : Nat) : atL ins n 0 = List.replicate (n + 1) [] := by
  refine List.ext_getElem (by simp [atL]) fun i h1 h2 => ?_
  simp [atL, marksTo]
theorem atL_succ (ins : List Ins) (n i a : Nat) (hi : i < ins.length) (ha : (nth ins i).1 = (a : Int)) :
    (atL ins n i).set a (marksTo ins (a : Int) i ++ markM (nth ins i).2) = atL ins n (i + 1) := by
  refine List.ext_getElem (by simp [atL]) fun j h1 h2 => ?_
  simp only [atL_len] at h2
  rw [List.getElem_set]
  split
  · rename_i e
    subst e
    simp only [atL, List.getElem_map, List.getElem_range]
    rw [marksTo_succ _ _ _ hi, if_pos ha]
  · rename_i e
    simp only [atL, List.getElem_map, List.getElem_range]
    rw [marksTo_succ _ _ _ hi, if_neg (by rw [ha]; omega), List.append_nil]
theorem anyN_succ (q : Nat → Bool) (n : Nat) : anyN q (n + 1) = (anyN q n || q n) := by
  simp [anyN, List.range_succ]
theorem putN_len (r : Nat) : (putN r).length ≤ 4 := by
  unfold putN
  (repeat' split) <;> simp [putB, tailB_len]
theorem putM_len (r : Int) : (putM r).length ≤ 4 := putN_len _
abbrev sval (s : List UInt8) : Value := .string (bs s)

theorem dress_ret (l : List UInt8) (ins : List Ins) (iv : Value) (w : World) (hl : l.length ≤ 100) (hn : ins.length ≤ 20) (h : Sl encI 2 w iv ins) :
    Ret Tryz.prog 13 [.string (bs l), iv] w fun v w' => v = .tuple #[.string (bs (dressS l ins)), .int .i64 (dressE l ins)] ∧ Ext w w' := by
  have hpl := decP_len l
  have hrl := runesM_len l
  refine Ret.enter Tryz.func13 Tryz.ntmps13 rfl rfl ?_
  refine WC.seq ?_
  refine WC.region ?_
  refine WL.v (RV.assign rfl) rfl ?_
  refine WL.v (RV.assign rfl) rfl ?_
  refine WL.nil ?_
  refine QF.seqNext ?_
  refine WC.seq ?_
  refine WC.seq ?_
  refine WC.region ?_
  refine WL.v (RV.move rfl) rfl ?_
  refine WL.call Tryz.call8 rfl (escPlain_ret l w (by omega)) rfl ?_
  rintro v w1 ⟨rfl, hE1⟩
  have h1 := h.ext hE1
  refine WL.v (RV.not rfl) rfl ?_
  refine WL.v (RV.move rfl) rfl ?_
  cases hp : plainM l with
  | false =>
    have he : dressE l ins = 1 := by unfold dressE; rw [hp]; rfl
    have hs0 : dressS l ins = [] := by unfold dressS; rw [if_neg (by rw [he]; decide)]
    refine WL.know (d := 18) rfl (b' := true) (rfl) ?_
    refine WL.off rfl rfl rfl ?_
    refine WL.off rfl rfl rfl ?_
    refine WL.v (RV.pickT rfl rfl) rfl ?_
    refine WL.nil ?_
    refine QF.seqNext ?_
    refine WC.condT rfl rfl ?_
    refine WC.seq ?_
    refine WC.region ?_
    refine WL.v (RV.assign rfl) rfl ?_
    refine WL.v (RV.assign rfl) rfl ?_
    refine WL.nil ?_
    refine QF.seqNext ?_
    refine WC.ret ?_
    refine QF.thenRet ?_
    refine QF.done2 rfl rfl rfl (⟨by rw [he, hs0]; rfl, hE1⟩)
  | true =>
    refine WL.know (d := 18) rfl (b' := false) (rfl) ?_
    refine WL.on rfl ?_
    refine WL.v (RV.move rfl) rfl ?_
    refine WL.on rfl ?_
    refine WL.call Tryz.call24 rfl (containsFuncN_ret Tryz.call25 #[] ins iv (badK ins) w1 h1 (fun i hi w' hE => dress1_ret (nth ins i) w')) rfl ?_
    rintro v w2 ⟨rfl, hE2⟩
    refine WL.v (RV.pickF rfl rfl) rfl ?_
    refine WL.nil ?_
    refine QF.seqNext ?_
    refine WC.cond rfl ?_ ?_
    · intro hb
      replace hb : anyN (badK ins) ins.length = true := hb
      have he : dressE l ins = 1 := by unfold dressE; rw [hp, hb]; rfl
      have hs0 : dressS l ins = [] := by unfold dressS; rw [if_neg (by rw [he]; decide)]
      refine WC.seq ?_
      refine WC.region ?_
      refine WL.v (RV.assign rfl) rfl ?_
      refine WL.v (RV.assign rfl) rfl ?_
      refine WL.nil ?_
      refine QF.seqNext ?_
      refine WC.ret ?_
      refine QF.thenRet ?_
      refine QF.done2 rfl rfl rfl (⟨by rw [he, hs0]; rfl, hE1.trans hE2⟩)
    · intro hb
      replace hb : anyN (badK ins) ins.length = false := hb
      have he0 : dressE l ins = if anyN (rngB ins (decP l).length) ins.length = true then 2 else 0 := by unfold dressE; rw [hp, hb]; rfl
      refine WC.skip ?_
      refine QF.seqNext ?_
      refine WC.seq ?_
      refine WC.region ?_
      refine WL.v (RV.move rfl) rfl ?_
      refine WL.bytesOf Tryz.underlying9 Tryz.underlying31 Tryz.underlying5 rfl (by omega) rfl ?_
      intro bv w2b hbv hE2b
      refine WL.call Tryz.call26 rfl (scAll_ret l bv w2b hbv (by omega)) rfl ?_
      rintro rv w3 ⟨hr, hE3⟩
      have hE03 := ((hE1.trans hE2).trans hE2b).trans hE3
      have h3 := h.ext hE03
      generalize hnn : (decP l).length = n at *
      refine WL.v (RV.assign rfl) rfl ?_
      refine WL.nil ?_
      refine QF.seqNext ?_
      refine WC.seq ?_
      refine WC.region ?_
      refine WL.v (RV.move rfl) rfl ?_
      refine WL.v (RV.len (by first | exact hr) Tryz.underlying61 rfl) rfl ?_
      refine WL.v (RV.add rfl rfl (Fit.i64 (by omega))) rfl ?_
      refine WL.makeRow elStr (val := sval) ([] : List UInt8) (by kernel_rfl) (fun _ => rfl) (Rng.start w3) 1 (by decide) (n + 1) rfl rfl (by rw [hrl]; rfl) (by rw [hrl]; rfl) (by omega) (by omega) rfl ?_
      intro w4 O4 av hav hat4 hU4 hR4 hE4
      rw [← atL_zero ins n] at hat4
      have h4 := h3.ext hE4
      refine WL.v (RV.assign rfl) rfl ?_
      refine WL.nil ?_
      refine QF.seqNext ?_
      refine WC.seq ?_
      refine WC.seq ?_
      refine WC.region ?_
      refine WL.v (RV.move rfl) rfl ?_
      refine WL.v (RV.len (by first | exact h4) Tryz.underlying58 rfl) rfl ?_
      refine WL.v (RV.move rfl) rfl ?_
      refine WL.nil ?_
      refine QF.seqNext ?_
      refine WC.block ?_
      refine WC.loop (fun x : Nat × (Nat → Nat) × World => [(6, rv), (7, av), (29, iv), (30, .int .i64 ins.length), (31, .int .i64 x.1)]) (fun x : Nat × (Nat → Nat) × World => x.2.2) (fun x : Nat × (Nat → Nat) × World => x.1 ≤ ins.length ∧ RowT (fun x => [sval x]) 9 1 x.2.1 x.2.2 1 av (atL ins n x.1) ∧ Upd (fun j => j ≠ 0) (fun _ => 0) w3 x.2.1 x.2.2 ∧ anyN (rngB ins n) x.1 = false) (fun x : Nat × (Nat → Nat) × World => ins.length - x.1) (0, O4, w4) (⟨Nat.zero_le _, hat4, hU4.mono (by rintro _ rfl; decide) (by decide), rfl⟩) ⟨rfl, rfl, rfl, rfl, rfl, trivial⟩ rfl ?_
      rintro ⟨i, O5, w5⟩ ⟨hi, hat5, hU5, hrg⟩
      dsimp only at hi hat5 hU5 hrg ⊢
      have h5 := h3.ext hU5.ext
      have hr5 := hr.ext hU5.ext
      have hR5 := (Rng.start w3).upd hU5
      have hal := atL_len ins n i
      refine WC.seq ?_
      refine WC.region ?_
      refine WL.v (RV.lss rfl rfl) rfl ?_
      refine WL.nil ?_
      refine QF.seqNext ?_
      refine WC.seq ?_
      refine WC.cond rfl ?_ ?_
      · intro hlt
        replace hlt : i < ins.length := by have := of_decide_eq_true hlt; omega
        have hrs := anyN_succ (rngB ins n) i
        rw [hrg, Bool.false_or] at hrs
        refine WC.skip ?_
        refine QF.seqNext ?_
        refine WC.seq ?_
        refine WC.block ?_
        refine WC.seq ?_
        refine WC.region ?_
        refine WL.v (RV.indexAddr (by first | exact h5) Tryz.underlying58 (Tryz.sizeOf37 _) rfl rfl _ rfl (by omega)) rfl ?_
        refine WL.v (RV.loadAgg (us := encI (nth ins i)) (fun j u hu => h5.cell hlt hu) (Tryz.isAgg37 _) (Tryz.sizeOf37 _) rfl) rfl ?_
        refine WL.allocO hR5 4 (by omega) (Tryz.zeroValue37 _) rfl ?_
        intro xb w6 O6 hx6 hU6 hR6 hE6
        have hat6 := hat5.upd hU6 (by decide) (by decide)
        refine WL.storeAgg (us := (encI (nth ins i)).toArray) hx6 rfl (Tryz.sizeOf37 _) rfl rfl rfl rfl ?_
        have hx7 := hx6.setRow (us := (encI (nth ins i)).toArray)
        have hs7 : Upd (fun j => j = 4) O6 w6 O6 (w6.setRow xb (encI (nth ins i)).toArray) := Upd.setRow (by decide) hx6.tag rfl
        have hat7 := hat6.upd hs7 (by decide) (by decide)
        have hR7 := hR6.upd hs7
        have hU7 : Upd (fun j => j ≠ 0) (fun _ => 0) w3 O6 (w6.setRow xb (encI (nth ins i)).toArray) := (hU5.trans (hU6.mono (by rintro _ rfl; decide) (by decide))).trans (hs7.mono (by rintro _ rfl; decide) (by decide))
        generalize w6.setRow xb (encI (nth ins i)).toArray = w7 at *
        have hr7 := hr.ext hU7.ext
        have c0 : w7.cell? ((⟨xb, 0, none⟩ : Addr).add 0) = some (.int .i64 (nth ins i).1) := hx7.cell 0 rfl
        have c1 : w7.cell? ((⟨xb, 0, none⟩ : Addr).add 1) = some (.int .i64 (nth ins i).2) := hx7.cell 1 rfl
        refine WL.nil ?_
        refine QF.seqNext ?_
        refine WC.seq ?_
        refine WC.seq ?_
        refine WC.region ?_
        refine WL.v (RV.fieldAddr 0 Tryz.underlying37 rfl rfl (Tryz.sizeOf3 _) (by decide) rfl) rfl ?_
        refine WL.v (RV.load (by first | exact c0) (Tryz.isAgg3 _) rfl) rfl ?_
        refine WL.v (RV.lss rfl rfl) rfl ?_
        refine WL.v (RV.move rfl) rfl ?_
        refine WL.orBS (fun w1 => _ = w1) (decide (((runesM l).length : Int) < (nth ins i).1)) 5 (rfl) rfl rfl rfl rfl rfl ?_ ?_
        · skip
          intro g1
          refine WL.on rfl ?_
          refine WL.v (RV.fieldAddr 0 Tryz.underlying37 rfl rfl (Tryz.sizeOf3 _) (by decide) rfl) rfl ?_
          refine WL.on rfl ?_
          refine WL.v (RV.load (by first | exact c0) (Tryz.isAgg3 _) rfl) rfl ?_
          refine WL.on rfl ?_
          refine WL.v (RV.move rfl) rfl ?_
          refine WL.on rfl ?_
          refine WL.v (RV.len (by first | exact hr7) Tryz.underlying61 rfl) rfl ?_
          refine WL.on rfl ?_
          refine WL.v (RV.gtr rfl rfl) rfl ?_
          refine WL.nil ?_
          refine QF.andEnd (tA := 38) 6 (rfl) rfl rfl rfl (fun v hv => (Option.some.inj hv).symm.trans (congrArg Value.bool g1)) rfl
        rintro _ rfl
        refine WL.nil ?_
        refine QF.seqNext ?_
        rw [hrl]
        refine WC.cond rfl ?_ ?_
        · intro hbad
          replace hbad : rngB ins n i = true := hbad
          have he : dressE l ins = 2 := by rw [he0, if_pos (anyN_true.2 ⟨i, hlt, hbad⟩)]
          have hs0 : dressS l ins = [] := by unfold dressS; rw [if_neg (by rw [he]; decide)]
          refine WC.seq ?_
          refine WC.region ?_
          refine WL.v (RV.assign rfl) rfl ?_
          refine WL.v (RV.assign rfl) rfl ?_
          refine WL.nil ?_
          refine QF.seqNext ?_
          refine WC.ret ?_
          refine QF.thenRet ?_
          refine QF.blockRet ?_
          refine QF.thenRet ?_
          refine QF.thenRet ?_
          refine QF.blockRet ?_
          refine QF.thenRet ?_
          refine QF.done2 rfl rfl rfl (⟨by rw [he, hs0]; rfl, hE03.trans hU7.ext⟩)
        · intro hok
          replace hok : rngB ins n i = false := hok
          have hok2 := hok
          simp only [rngB, Bool.or_eq_false_iff, decide_eq_false_iff_not] at hok2
          obtain ⟨a, ha⟩ := Int.eq_ofNat_of_zero_le (by omega : 0 ≤ (nth ins i).1)
          have han : a ≤ n := by omega
          have hml := marksTo_len ins (a : Int) i
          have hmk := markM_len (nth ins i).2
          refine WC.skip ?_
          refine QF.seqNext ?_
          refine WC.seq ?_
          refine WC.region ?_
          refine WL.v (RV.fieldAddr 1 Tryz.underlying37 rfl rfl (Tryz.sizeOf3 _) (by decide) rfl) rfl ?_
          refine WL.v (RV.load (by first | exact c1) (Tryz.isAgg3 _) rfl) rfl ?_
          refine WL.call Tryz.call6 rfl (escMark_ret (nth ins i).2 w7) rfl ?_
          rintro v w8 ⟨rfl, hE8⟩
          have hX8 : Upd (fun _ => False) O6 w7 O6 w8 := Upd.of_ext (fun h => h) O6 hE8
          have hat8 := hat7.upd hX8 (by decide) (fun h => h)
          have c08 := hE8.cell c0
          rw [ha] at c08
          have hld := hat8.sl.ld (i := a) (by omega)
          rw [atL_nth _ _ _ _ han] at hld
          have hats := hat8.sl
          refine WL.v (RV.move rfl) rfl ?_
          refine WL.v (RV.extract rfl rfl) rfl ?_
          refine WL.v (RV.extract rfl rfl) rfl ?_
          refine WL.v (RV.assign rfl) rfl ?_
          refine WL.v (RV.assign rfl) rfl ?_
          refine WL.nil ?_
          refine QF.seqNext ?_
          refine WC.region ?_
          refine WL.v (RV.move rfl) rfl ?_
          refine WL.v (RV.fieldAddr 0 Tryz.underlying37 rfl rfl (Tryz.sizeOf3 _) (by decide) rfl) rfl ?_
          refine WL.v (RV.load (by first | exact c08) (Tryz.isAgg3 _) rfl) rfl ?_
          refine WL.v (RV.indexAddr hats Tryz.underlying40 (Tryz.sizeOf9 _) rfl rfl a rfl (by omega)) rfl ?_
          refine WL.v (RV.load (by first | exact hld) (Tryz.isAgg9 _) rfl) rfl ?_
          refine WL.v (RV.move rfl) rfl ?_
          refine WL.v (RV.addS rfl rfl (by omega)) rfl ?_
          refine WL.v (RV.indexAddr hats Tryz.underlying40 (Tryz.sizeOf9 _) rfl rfl a rfl (by omega)) rfl ?_
          refine WL.storeAt hat8 a (by omega) (marksTo ins (a : Int) i ++ markM (nth ins i).2) (Tryz.sizeOf9 _) rfl (by decide) rfl rfl rfl rfl ?_
          intro w9 hat9 hU9
          rw [atL_succ ins n i a hlt ha] at hat9
          refine WL.nil ?_
          refine QF.blockNormal ?_
          refine QF.seqNext ?_
          refine WC.region ?_
          refine WL.v (RV.add rfl rfl (Fit.i64 (by omega))) rfl ?_
          refine WL.v (RV.move rfl) rfl ?_
          refine WL.nil ?_
          refine QF.next ((i + 1, O6, w9)) (⟨hlt, hat9, (hU7.trans (hX8.mono (fun _ h => h.elim) (by decide))).trans (hU9.mono (by rintro _ rfl; decide) (by decide)), by dsimp only; rw [hrs]; exact hok⟩) (by dsimp only; omega) ⟨rfl, rfl, rfl, rfl, rfl, trivial⟩ rfl
      · intro hge
        obtain rfl : i = ins.length := by have := of_decide_eq_false hge; omega
        have he : dressE l ins = 0 := by rw [he0, if_neg (by rw [hrg]; decide)]
        have hs0 : dressS l ins = dressM l ins := by unfold dressS; rw [if_pos he]
        refine WC.exit ?_
        refine QF.thenExit ?_
        refine QF.thenExit ?_
        refine QF.blockHit ?_
        refine QF.seqNext ?_
        refine WC.seq ?_
        refine WC.region ?_
        refine WL.allocO hR5 2 (by omega) (Tryz.zeroValue65 _) rfl ?_
        intro bb w6 O6 hx6 hU6 hR6 hE6
        have hat6 := hat5.upd hU6 (by decide) (by decide)
        have hB6 : Bld O6 w6 2 bb 3 [] := ⟨_, _, hx6, .inl rfl, RowT.nil _ _ _ _ _ _, capOk.nil⟩
        have hU06 : Upd (fun j => j ≠ 0) (fun _ => 0) w3 O6 w6 := hU5.trans (hU6.mono (by rintro _ rfl; decide) (by decide))
        have hr6 := hr.ext hU06.ext
        refine WL.nil ?_
        refine QF.seqNext ?_
        refine WC.seq ?_
        refine WC.seq ?_
        refine WC.region ?_
        refine WL.v (RV.move rfl) rfl ?_
        refine WL.v (RV.len (by first | exact hr6) Tryz.underlying61 rfl) rfl ?_
        refine WL.v (RV.move rfl) rfl ?_
        refine WL.nil ?_
        refine QF.seqNext ?_
        refine WC.block ?_
        refine WC.loop (fun x : Nat × (Nat → Nat) × World => [(6, rv), (7, av), (12, .pointer (some ⟨bb, 0, none⟩)), (60, rv), (61, .int .i64 (runesM l).length), (62, .int .i64 x.1)]) (fun x : Nat × (Nat → Nat) × World => x.2.2) (fun x : Nat × (Nat → Nat) × World => x.1 ≤ n ∧ Bld x.2.1 x.2.2 2 bb 3 (dressTo l ins x.1) ∧ RowT (fun x => [sval x]) 9 1 x.2.1 x.2.2 1 av (atL ins n ins.length) ∧ Upd (fun j => j ≠ 0) (fun _ => 0) w3 x.2.1 x.2.2) (fun x : Nat × (Nat → Nat) × World => n - x.1) (0, O6, w6) (⟨Nat.zero_le _, hB6, hat6, hU06⟩) ⟨rfl, rfl, rfl, rfl, rfl, rfl, trivial⟩ rfl ?_
        rintro ⟨i, O7, w7⟩ ⟨hi, hB7, hat7, hU7⟩
        dsimp only at hi hB7 hat7 hU7 ⊢
        have hr7 := hr.ext hU7.ext
        have hR7 := (Rng.start w3).upd hU7
        have hats := hat7.sl
        have hdl := dressTo_len l ins i
        have hmul : i * (15 * ins.length + 5 * l.length) ≤ 100 * 800 := Nat.mul_le_mul (by omega) (by omega)
        have hml := marksTo_len ins (i : Int) ins.length
        have hld := hats.ld (i := i) (by omega)
        rw [atL_nth _ _ _ _ hi] at hld
        have hz23 : ¬ (fun k : Nat => k ≠ 0) 0 := by decide
        refine WC.seq ?_
        refine WC.region ?_
        refine WL.v (RV.lss rfl rfl) rfl ?_
        refine WL.nil ?_
        refine QF.seqNext ?_
        refine WC.seq ?_
        rw [hrl]
        refine WC.cond rfl ?_ ?_
        · intro hlt
          replace hlt : i < n := by have := of_decide_eq_true hlt; omega
          have hlt' : i < (decP l).length := by omega
          have hpp := plain_put hp hlt'
          have hpl4 := putM_len (nth (decP l) i).1
          have hrn := runesM_nth l i hlt'
          refine WC.skip ?_
          refine QF.seqNext ?_
          refine WC.seq ?_
          refine WC.block ?_
          refine WC.seq ?_
          refine WC.region ?_
          refine WL.v (RV.move rfl) rfl ?_
          refine WL.v (RV.indexAddr (by first | exact hr7) Tryz.underlying61 (Tryz.sizeOf21 _) rfl rfl _ rfl (by omega)) rfl ?_
          refine WL.v (RV.load (by first | exact hr7.ld (i := i) (by omega)) (Tryz.isAgg21 _) rfl) rfl ?_
          refine WL.v (RV.assign rfl) rfl ?_
          refine WL.v (RV.assign rfl) rfl ?_
          refine WL.nil ?_
          refine QF.seqNext ?_
          refine WC.seq ?_
          refine WC.region ?_
          refine WL.v (RV.move rfl) rfl ?_
          refine WL.v (RV.move rfl) rfl ?_
          refine WL.v (RV.indexAddr hats Tryz.underlying40 (Tryz.sizeOf9 _) rfl rfl i rfl (by omega)) rfl ?_
          refine WL.v (RV.load (by first | exact hld) (Tryz.isAgg9 _) rfl) rfl ?_
          refine WL.call Tryz.call27 rfl (writeString_ret O7 _ 2 bb 3 (dressTo l ins i) (marksTo ins (i : Int) ins.length) w7 hR7 hB7 (by decide) (by decide) (by decide) (by omega)) rfl ?_
          rintro v w8 ⟨O8, hB8, hU8, hR8⟩
          have hat8 := hat7.upd hU8 (by decide) (by decide)
          refine WL.nil ?_
          refine QF.seqNext ?_
          refine WC.region ?_
          refine WL.v (RV.move rfl) rfl ?_
          refine WL.call Tryz.call20 rfl (put_ret (nth (runesM l) i) w8) rfl ?_
          rintro pv w9 ⟨hpv, hE9⟩
          rw [hrn, hpp] at hpv
          rw [hpp] at hpl4
          refine WL.v (RV.strOf hpv Tryz.underlying31 Tryz.underlying5 Tryz.underlying9 rfl) rfl ?_
          refine WL.call Tryz.call5 rfl (escEscape_ret _ w9 (by omega)) rfl ?_
          rintro v w10 ⟨rfl, hE10⟩
          have hX10 : Upd (fun _ => False) O8 w8 O8 w10 := Upd.of_ext (fun h => h) O8 (hE9.trans hE10)
          have hB10 := hB8.upd hX10 (by decide) (by decide) (fun h => h) (fun h => h)
          have hR10 := hR8.upd hX10
          have hat10 := hat8.upd hX10 (by decide) (fun h => h)
          have hel := escM_len ((l.take (atOf (decP l) (i + 1))).drop (atOf (decP l) i))
          refine WL.call Tryz.call27 rfl (writeString_ret O8 _ 2 bb 3 _ (escM ((l.take (atOf (decP l) (i + 1))).drop (atOf (decP l) i))) w10 hR10 hB10 (by decide) (by decide) (by decide) (by rw [List.length_append]; omega)) rfl ?_
          rintro v w11 ⟨O11, hB11, hU11, hR11⟩
          rw [List.append_assoc, ← dressTo_succ] at hB11
          refine WL.nil ?_
          refine QF.blockNormal ?_
          refine QF.seqNext ?_
          refine WC.region ?_
          refine WL.v (RV.add rfl rfl (Fit.i64 (by omega))) rfl ?_
          refine WL.v (RV.move rfl) rfl ?_
          refine WL.nil ?_
          refine QF.next ((i + 1, O11, w11)) (⟨hlt, hB11, hat10.upd hU11 (by decide) (by decide), ((hU7.trans (hU8.mono (by rintro _ (rfl | rfl) <;> decide) hz23)).trans (hX10.mono (fun _ h => h.elim) hz23)).trans (hU11.mono (by rintro _ (rfl | rfl) <;> decide) hz23)⟩) (by dsimp only; omega) ⟨rfl, rfl, rfl, rfl, rfl, rfl, trivial⟩ rfl
        · intro hge
          obtain rfl : i = n := by have := of_decide_eq_false hge; omega
          refine WC.exit ?_
          refine QF.thenExit ?_
          refine QF.thenExit ?_
          refine QF.blockHit ?_
          refine QF.seqNext ?_
          refine WC.seq ?_
          refine WC.region ?_
          refine WL.v (RV.move rfl) rfl ?_
          refine WL.v (RV.move rfl) rfl ?_
          refine WL.v (RV.len (by first | exact hr7) Tryz.underlying61 rfl) rfl ?_
          refine WL.v (RV.indexAddr hats Tryz.underlying40 (Tryz.sizeOf9 _) rfl rfl i (by rw [hrl]) (by omega)) rfl ?_
          refine WL.v (RV.load (by first | exact hld) (Tryz.isAgg9 _) rfl) rfl ?_
          refine WL.call Tryz.call27 rfl (writeString_ret O7 _ 2 bb 3 (dressTo l ins i) (marksTo ins (i : Int) ins.length) w7 hR7 hB7 (by decide) (by decide) (by decide) (by omega)) rfl ?_
          rintro v w8 ⟨O8, hB8, hU8, hR8⟩
          refine WL.nil ?_
          refine QF.seqNext ?_
          refine WC.seq ?_
          refine WC.region ?_
          refine WL.call Tryz.call28 rfl (bldString_ret O8 2 bb 3 _ w8 hB8 (by decide) (by decide)) rfl ?_
          rintro v w9 ⟨rfl, O9, hU9⟩
          refine WL.v (RV.assign rfl) rfl ?_
          refine WL.v (RV.assign rfl) rfl ?_
          refine WL.nil ?_
          refine QF.seqNext ?_
          refine WC.ret ?_
          refine QF.done2 rfl rfl rfl (⟨by rw [he, hs0, dressM, hnn], hE03.trans ((hU7.trans (hU8.mono (by rintro _ (rfl | rfl) <;> decide) hz23)).trans (hU9.mono (by rintro _ rfl; decide) hz23)).ext⟩)
end Go.Proofs.YtakigpnccppheaaGreatDoor
