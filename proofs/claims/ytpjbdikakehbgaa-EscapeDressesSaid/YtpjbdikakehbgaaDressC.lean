/- Law 28: the document's example; EscapeDresses. -/
import Derived.Test.YtpjbdikakehbgaaDressB
namespace Go.Proofs.Ytpjbdikakehbgaa
open Go.VL Go.Proofs
set_option maxRecDepth 10000

theorem awake_ret (w : World) : Ret Try.prog 4 [] w fun v w' => v = .bool true ∧ Ext w w' := by
  have e1 : dressE [97, 60, 98] [(1, 0)] = 0 := by decide +kernel
  have e2 : dressS [97, 60, 98] [(1, 0)] = [97, 60, 98, 62, 38, 108, 116, 59, 98] := by decide +kernel
  have e3 : escM [97, 60, 98] = [97, 38, 108, 116, 59, 98] := by decide +kernel
  refine Ret.enter Try.func4 Try.ntmps4 rfl rfl ?_
  refine WC.seq ?_
  refine WC.region ?_
  refine WL.v (RV.assign rfl) rfl ?_
  refine WL.nil ?_
  refine QF.seqNext ?_
  refine WC.seq ?_
  refine WC.region ?_
  refine WL.v (RV.buildF pl38 (Try.zeroValue38 _) rfl (by first | rfl | (simp only [List.all_cons, List.all_nil]; rfl)) rfl rfl) rfl ?_
  refine WL.buildOne elIns (enc := encI) ((1, 0) : Ins) rfl rfl rfl (by decide) rfl ?_
  intro iv w1 h1 hE1
  refine WL.call Try.call5 rfl (dress_ret [97, 60, 98] [(1, 0)] iv w1 (by decide) (by decide) h1) rfl ?_
  rw [e1, e2]
  rintro v w2 ⟨rfl, hE2⟩
  refine WL.v (RV.move rfl) rfl ?_
  refine WL.v (RV.extract rfl rfl) rfl ?_
  refine WL.v (RV.extract rfl rfl) rfl ?_
  refine WL.v (RV.assign rfl) rfl ?_
  refine WL.v (RV.assign rfl) rfl ?_
  refine WL.nil ?_
  refine QF.seqNext ?_
  refine WC.seq ?_
  refine WC.region ?_
  refine WL.call Try.call11 rfl (escEscape_ret [97, 60, 98] w2 (by decide)) rfl ?_
  rw [e3]
  rintro v w3 ⟨rfl, hE3⟩
  refine WL.v (RV.eqlS rfl rfl) rfl ?_
  refine WL.v (RV.move rfl) rfl ?_
  refine WL.know (d := 11) rfl (b' := true) (rfl) ?_
  refine WL.on rfl ?_
  refine WL.v (RV.move rfl) rfl ?_
  refine WL.on rfl ?_
  refine WL.v (RV.eql rfl rfl) rfl ?_
  refine WL.v (RV.pickT rfl rfl) rfl ?_
  refine WL.v (RV.move rfl) rfl ?_
  refine WL.know (d := 15) rfl (b' := true) (rfl) ?_
  refine WL.on rfl ?_
  refine WL.v (RV.move rfl) rfl ?_
  refine WL.on rfl ?_
  refine WL.v (RV.eqlS rfl rfl) rfl ?_
  refine WL.v (RV.pickT rfl rfl) rfl ?_
  refine WL.v (RV.assign rfl) rfl ?_
  refine WL.nil ?_
  refine QF.seqNext ?_
  refine WC.ret ?_
  refine QF.done1 rfl rfl (⟨rfl, (hE1.trans hE2).trans hE3⟩)

theorem badK_nil (ins : List Ins) (i : Nat) : (markM (nth ins i).2 == []) = badK ins i := by
  unfold badK
  cases hk : markOk (nth ins i).2 with
  | false => rw [markM_no _ hk]; rfl
  | true =>
    have := markM_yes _ hk
    simp [this]
theorem escapeDresses_ret (l : List UInt8) (ins : List Ins) (iv : Value) (w : World) (hl : l.length ≤ 9223372036854775807) (h : Sl encI 2 w iv ins) :
    Ret Try.prog 3 [.string (bs l), iv] w fun v w' => v = .bool true ∧ Ext w w' := by
  have hlen := h.len_le
  refine Ret.enter Try.func3 Try.ntmps3 rfl rfl ?_
  refine WC.seq ?_
  refine WC.region ?_
  refine WL.v (RV.assign rfl) rfl ?_
  refine WL.nil ?_
  refine QF.seqNext ?_
  refine WC.seq ?_
  refine WC.seq ?_
  refine WC.region ?_
  refine WL.v (RV.move rfl) rfl ?_
  refine WL.v (RV.lenS Try.underlying9 rfl) rfl ?_
  refine WL.v (RV.gtr rfl rfl) rfl ?_
  refine WL.v (RV.move rfl) rfl ?_
  refine WL.orBS (fun w1 => _ = w1) (decide ((20 : Int) < (ins.length : Int))) 3 (rfl) rfl rfl rfl rfl rfl ?_ ?_
  · skip
    intro g1
    refine WL.on rfl ?_
    refine WL.v (RV.move rfl) rfl ?_
    refine WL.on rfl ?_
    refine WL.v (RV.len (by first | exact h) Try.underlying22 rfl) rfl ?_
    refine WL.on rfl ?_
    refine WL.v (RV.gtr rfl rfl) rfl ?_
    refine WL.nil ?_
    refine QF.andEnd (tA := 14) 4 (rfl) rfl rfl rfl (fun v hv => (Option.some.inj hv).symm.trans (congrArg Value.bool g1)) rfl
  rintro _ rfl
  refine WL.v (RV.move rfl) rfl ?_
  cases hbig : decide ((100 : Int) < (l.length : Int)) || decide ((20 : Int) < (ins.length : Int)) with
  | true =>
    refine WL.know (d := 19) rfl (b' := true) (rfl) ?_
    refine WL.off rfl rfl rfl ?_
    refine WL.off rfl rfl rfl ?_
    refine WL.v (RV.pickT rfl rfl) rfl ?_
    refine WL.nil ?_
    refine QF.seqNext ?_
    refine WC.condT rfl rfl ?_
    refine WC.seq ?_
    refine WC.region ?_
    refine WL.call Try.call4 rfl (awake_ret w) rfl ?_
    rintro v w1 ⟨rfl, hE1⟩
    refine WL.v (RV.assign rfl) rfl ?_
    refine WL.nil ?_
    refine QF.seqNext ?_
    refine WC.ret ?_
    refine QF.thenRet ?_
    refine QF.done1 rfl rfl (⟨rfl, hE1⟩)
  | false =>
    simp only [Bool.or_eq_false_iff, decide_eq_false_iff_not] at hbig
    have hl1 : l.length ≤ 100 := by omega
    have hn1 : ins.length ≤ 20 := by omega
    refine WL.know (d := 19) rfl (b' := false) (rfl) ?_
    refine WL.on rfl ?_
    refine WL.call Try.call4 rfl (awake_ret w) rfl ?_
    rintro v w1 ⟨rfl, hE1⟩
    refine WL.on rfl ?_
    refine WL.v (RV.not rfl) rfl ?_
    refine WL.v (RV.pickF rfl rfl) rfl ?_
    refine WL.nil ?_
    refine QF.seqNext ?_
    refine WC.condF rfl (rfl) ?_
    refine WC.skip ?_
    refine QF.seqNext ?_
    refine WC.seq ?_
    refine WC.region ?_
    refine WL.v (RV.move rfl) rfl ?_
    refine WL.v (RV.move rfl) rfl ?_
    refine WL.call Try.call6 rfl (lawTo_ret ins iv w1 (h.ext hE1) (by omega)) rfl ?_
    rintro tv w2 ⟨ht, hE2⟩
    refine WL.call Try.call5 rfl (dress_ret l ins tv w2 hl1 hn1 ht) rfl ?_
    rintro v w3 ⟨rfl, hE3⟩
    refine WL.v (RV.move rfl) rfl ?_
    refine WL.v (RV.extract rfl rfl) rfl ?_
    refine WL.v (RV.extract rfl rfl) rfl ?_
    refine WL.v (RV.assign rfl) rfl ?_
    refine WL.v (RV.assign rfl) rfl ?_
    refine WL.nil ?_
    refine QF.seqNext ?_
    refine WC.seq ?_
    refine WC.region ?_
    refine WL.v (RV.assign rfl) rfl ?_
    refine WL.nil ?_
    refine QF.seqNext ?_
    refine WC.seq ?_
    refine WC.region ?_
    refine WL.v (RV.move rfl) rfl ?_
    refine WL.bytesOf Try.underlying9 Try.underlying31 Try.underlying5 rfl (by omega) rfl ?_
    intro bv w4 hbv hE4
    refine WL.call Try.call7 rfl (all01_ret l bv w4 hbv (by omega)) rfl ?_
    rintro pv w5 ⟨hpv, hE5⟩
    have hE05 := (((hE1.trans hE2).trans hE3).trans hE4).trans hE5
    have h5 := h.ext hE05
    have hpl := decP_len l
    have hbk : anyN (badK ins) ins.length = anyN (fun i => markM (nth ins i).2 == []) ins.length := anyN_congr fun i _ => (badK_nil ins i).symm
    refine WL.v (RV.len (by first | exact hpv) Try.underlying29 rfl) rfl ?_
    refine WL.v (RV.assign rfl) rfl ?_
    refine WL.nil ?_
    refine QF.seqNext ?_
    refine WC.seq ?_
    refine WC.seq ?_
    refine WC.region ?_
    refine WL.v (RV.assign rfl) rfl ?_
    refine WL.nil ?_
    refine QF.seqNext ?_
    refine WC.block ?_
    refine WC.loop (fun x : Nat × Int => [(0, .string (bs l)), (1, iv), (5, .string (bs (dressS l ins))), (6, .int .i64 (dressE l ins)), (7, .int .i64 x.2), (8, .int .i64 (decP l).length), (9, .int .i64 x.1)]) (fun x : Nat × Int => w5) (fun x : Nat × Int => x.1 ≤ ins.length ∧ x.2 = (if anyN (rngB ins (decP l).length) x.1 = true then 2 else 0)) (fun x : Nat × Int => ins.length - x.1) (0, 0) (⟨Nat.zero_le _, rfl⟩) ⟨rfl, rfl, rfl, rfl, rfl, rfl, rfl, trivial⟩ rfl ?_
    rintro ⟨i, wt⟩ ⟨hi, hwt⟩
    dsimp only at hi hwt ⊢
    refine WC.seq ?_
    refine WC.seq ?_
    refine WC.region ?_
    refine WL.v (RV.move rfl) rfl ?_
    refine WL.v (RV.move rfl) rfl ?_
    refine WL.v (RV.len (by first | exact h5) Try.underlying22 rfl) rfl ?_
    refine WL.v (RV.lss rfl rfl) rfl ?_
    refine WL.nil ?_
    refine QF.seqNext ?_
    refine WC.cond rfl ?_ ?_
    · intro hlt
      replace hlt : i < ins.length := by have := of_decide_eq_true hlt; omega
      have hsu := anyN_succ (rngB ins (decP l).length) i
      refine WC.skip ?_
      refine QF.seqNext ?_
      refine WC.seq ?_
      refine WC.block ?_
      refine WC.seq ?_
      refine WC.region ?_
      refine WL.v (RV.move rfl) rfl ?_
      refine WL.v (RV.move rfl) rfl ?_
      refine WL.v (RV.indexAddr (by first | exact h5) Try.underlying22 (Try.sizeOf33 _) rfl rfl _ rfl (by omega)) rfl ?_
      refine WL.v (RV.fieldAddr 0 Try.underlying33 rfl rfl (Try.sizeOf3 _) (by decide) rfl) rfl ?_
      refine WL.v (RV.load (by first | exact h5.cell hlt (j := 0) rfl) (Try.isAgg3 _) rfl) rfl ?_
      refine WL.v (RV.lss rfl rfl) rfl ?_
      refine WL.v (RV.move rfl) rfl ?_
      refine WL.orBS (fun w1 => _ = w1) (decide (((decP l).length : Int) < (nth ins i).1)) 7 (rfl) rfl rfl rfl rfl rfl ?_ ?_
      · skip
        intro g2
        refine WL.on rfl ?_
        refine WL.v (RV.move rfl) rfl ?_
        refine WL.on rfl ?_
        refine WL.v (RV.move rfl) rfl ?_
        refine WL.on rfl ?_
        refine WL.v (RV.indexAddr (by first | exact h5) Try.underlying22 (Try.sizeOf33 _) rfl rfl _ rfl (by omega)) rfl ?_
        refine WL.on rfl ?_
        refine WL.v (RV.fieldAddr 0 Try.underlying33 rfl rfl (Try.sizeOf3 _) (by decide) rfl) rfl ?_
        refine WL.on rfl ?_
        refine WL.v (RV.load (by first | exact h5.cell hlt (j := 0) rfl) (Try.isAgg3 _) rfl) rfl ?_
        refine WL.on rfl ?_
        refine WL.v (RV.move rfl) rfl ?_
        refine WL.on rfl ?_
        refine WL.v (RV.gtr rfl rfl) rfl ?_
        refine WL.nil ?_
        refine QF.andEnd (tA := 47) 8 (rfl) rfl rfl rfl (fun v hv => (Option.some.inj hv).symm.trans (congrArg Value.bool g2)) rfl
      rintro _ rfl
      refine WL.nil ?_
      refine QF.seqNext ?_
      refine WC.cond rfl ?_ ?_
      · intro hb
        replace hb : rngB ins (decP l).length i = true := hb
        refine WC.region ?_
        refine WL.v (RV.assign rfl) rfl ?_
        refine WL.nil ?_
        refine QF.blockNormal ?_
        refine QF.seqNext ?_
        refine WC.region ?_
        refine WL.v (RV.move rfl) rfl ?_
        refine WL.v (RV.add rfl rfl (Fit.i64 (by omega))) rfl ?_
        refine WL.v (RV.assign rfl) rfl ?_
        refine WL.nil ?_
        refine QF.next ((i + 1, 2)) (⟨hlt, by dsimp only; rw [hsu, hb, Bool.or_true, if_pos rfl]⟩) (by dsimp only; omega) ⟨rfl, rfl, rfl, rfl, rfl, rfl, rfl, trivial⟩ rfl
      · intro hb
        replace hb : rngB ins (decP l).length i = false := hb
        refine WC.skip ?_
        refine QF.blockNormal ?_
        refine QF.seqNext ?_
        refine WC.region ?_
        refine WL.v (RV.move rfl) rfl ?_
        refine WL.v (RV.add rfl rfl (Fit.i64 (by omega))) rfl ?_
        refine WL.v (RV.assign rfl) rfl ?_
        refine WL.nil ?_
        refine QF.next ((i + 1, wt)) (⟨hlt, by dsimp only; rw [hsu, hb, Bool.or_false]; exact hwt⟩) (by dsimp only; omega) ⟨rfl, rfl, rfl, rfl, rfl, rfl, rfl, trivial⟩ rfl
    · intro hge
      obtain rfl : i = ins.length := by have := of_decide_eq_false hge; omega
      refine WC.exit ?_
      refine QF.thenExit ?_
      refine QF.thenExit ?_
      refine QF.blockHit ?_
      refine QF.seqNext ?_
      refine WC.seq ?_
      refine WC.seq ?_
      refine WC.region ?_
      refine WL.v (RV.assign rfl) rfl ?_
      refine WL.nil ?_
      refine QF.seqNext ?_
      refine WC.block ?_
      refine WC.loop (fun x : Nat × Int × World => [(0, .string (bs l)), (1, iv), (5, .string (bs (dressS l ins))), (6, .int .i64 (dressE l ins)), (7, .int .i64 x.2.1), (10, .int .i64 x.1)]) (fun x : Nat × Int × World => x.2.2) (fun x : Nat × Int × World => x.1 ≤ ins.length ∧ x.2.1 = (if anyN (fun i => markM (nth ins i).2 == []) x.1 = true then 1 else wt) ∧ Ext w5 x.2.2) (fun x : Nat × Int × World => ins.length - x.1) (0, wt, w5) (⟨Nat.zero_le _, rfl, Ext.refl _⟩) ⟨rfl, rfl, rfl, rfl, rfl, rfl, trivial⟩ rfl ?_
      rintro ⟨i, wu, w6⟩ ⟨hi, hwu, hE6⟩
      dsimp only at hi hwu hE6 ⊢
      have h6 := h5.ext hE6
      refine WC.seq ?_
      refine WC.seq ?_
      refine WC.region ?_
      refine WL.v (RV.move rfl) rfl ?_
      refine WL.v (RV.move rfl) rfl ?_
      refine WL.v (RV.len (by first | exact h6) Try.underlying22 rfl) rfl ?_
      refine WL.v (RV.lss rfl rfl) rfl ?_
      refine WL.nil ?_
      refine QF.seqNext ?_
      refine WC.cond rfl ?_ ?_
      · intro hlt
        replace hlt : i < ins.length := by have := of_decide_eq_true hlt; omega
        have hsu := anyN_succ (fun i => markM (nth ins i).2 == []) i
        refine WC.skip ?_
        refine QF.seqNext ?_
        refine WC.seq ?_
        refine WC.block ?_
        refine WC.seq ?_
        refine WC.region ?_
        refine WL.v (RV.move rfl) rfl ?_
        refine WL.v (RV.move rfl) rfl ?_
        refine WL.v (RV.indexAddr (by first | exact h6) Try.underlying22 (Try.sizeOf33 _) rfl rfl _ rfl (by omega)) rfl ?_
        refine WL.v (RV.fieldAddr 1 Try.underlying33 rfl rfl (Try.sizeOf3 _) (by decide) rfl) rfl ?_
        refine WL.v (RV.load (by first | exact h6.cell hlt (j := 1) rfl) (Try.isAgg3 _) rfl) rfl ?_
        refine WL.call Try.call8 rfl (mark_ret (nth ins i).2 w6) rfl ?_
        rintro v _ ⟨rfl, rfl⟩
        refine WL.v (RV.eqlS rfl rfl) rfl ?_
        refine WL.nil ?_
        refine QF.seqNext ?_
        refine WC.cond rfl ?_ ?_
        · intro hb
          replace hb : (markM (nth ins i).2 == []) = true := hb
          refine WC.region ?_
          refine WL.v (RV.assign rfl) rfl ?_
          refine WL.nil ?_
          refine QF.blockNormal ?_
          refine QF.seqNext ?_
          refine WC.region ?_
          refine WL.v (RV.move rfl) rfl ?_
          refine WL.v (RV.add rfl rfl (Fit.i64 (by omega))) rfl ?_
          refine WL.v (RV.assign rfl) rfl ?_
          refine WL.nil ?_
          refine QF.next ((i + 1, 1, w6)) (⟨hlt, by dsimp only; rw [hsu, hb, Bool.or_true, if_pos rfl], hE6⟩) (by dsimp only; omega) ⟨rfl, rfl, rfl, rfl, rfl, rfl, trivial⟩ rfl
        · intro hb
          replace hb : (markM (nth ins i).2 == []) = false := hb
          refine WC.skip ?_
          refine QF.blockNormal ?_
          refine QF.seqNext ?_
          refine WC.region ?_
          refine WL.v (RV.move rfl) rfl ?_
          refine WL.v (RV.add rfl rfl (Fit.i64 (by omega))) rfl ?_
          refine WL.v (RV.assign rfl) rfl ?_
          refine WL.nil ?_
          refine QF.next ((i + 1, wu, w6)) (⟨hlt, by dsimp only; rw [hsu, hb, Bool.or_false]; exact hwu, hE6⟩) (by dsimp only; omega) ⟨rfl, rfl, rfl, rfl, rfl, rfl, trivial⟩ rfl
      · intro hge
        obtain rfl : i = ins.length := by have := of_decide_eq_false hge; omega
        rw [← hbk] at hwu
        refine WC.exit ?_
        refine QF.thenExit ?_
        refine QF.thenExit ?_
        refine QF.blockHit ?_
        refine QF.seqNext ?_
        refine WC.seq ?_
        refine WC.seq ?_
        refine WC.region ?_
        refine WL.v (RV.move rfl) rfl ?_
        refine WL.call Try.call9 rfl (refPlain_ret l w6 (by omega)) rfl ?_
        rintro v w7 ⟨rfl, hE7⟩
        have hE07 := (hE05.trans hE6).trans hE7
        have h7 := h.ext hE07
        have hfin : dressE l ins = if plainM l = true then wu else 1 := by
          unfold dressE
          rw [hwu, hwt]
          cases plainM l <;> cases anyN (badK ins) ins.length <;> rfl
        refine WL.v (RV.not rfl) rfl ?_
        refine WL.nil ?_
        refine QF.seqNext ?_
        cases hp : plainM l with
        | false =>
          rw [hp, if_neg (by decide)] at hfin
          have hs0 : dressS l ins = [] := by unfold dressS; rw [if_neg (by rw [hfin]; decide)]
          rw [hfin, hs0]
          refine WC.condT rfl (rfl) ?_
          refine WC.region ?_
          refine WL.v (RV.assign rfl) rfl ?_
          refine WL.nil ?_
          refine QF.seqNext ?_
          refine WC.seq ?_
          refine WC.seq ?_
          refine WC.region ?_
          refine WL.v (RV.move rfl) rfl ?_
          refine WL.v (RV.neq rfl rfl) rfl ?_
          refine WL.nil ?_
          refine QF.seqNext ?_
          refine WC.condT rfl (rfl) ?_
          refine WC.seq ?_
          refine WC.region ?_
          refine WL.v (RV.move rfl) rfl ?_
          refine WL.v (RV.eqlS rfl rfl) rfl ?_
          refine WL.v (RV.move rfl) rfl ?_
          refine WL.know (d := 76) rfl (b' := true) (rfl) ?_
          refine WL.on rfl ?_
          refine WL.v (RV.move rfl) rfl ?_
          refine WL.on rfl ?_
          refine WL.v (RV.move rfl) rfl ?_
          refine WL.on rfl ?_
          refine WL.v (RV.eql rfl rfl) rfl ?_
          refine WL.v (RV.pickT rfl rfl) rfl ?_
          refine WL.v (RV.assign rfl) rfl ?_
          refine WL.nil ?_
          refine QF.seqNext ?_
          refine WC.ret ?_
          refine QF.thenRet ?_
          refine QF.done1 rfl rfl (⟨rfl, hE07⟩)
        | true =>
          rw [hp, if_pos rfl] at hfin
          refine WC.condF rfl (rfl) ?_
          refine WC.skip ?_
          refine QF.seqNext ?_
          refine WC.seq ?_
          refine WC.seq ?_
          refine WC.region ?_
          refine WL.v (RV.move rfl) rfl ?_
          refine WL.v (RV.neq rfl rfl) rfl ?_
          refine WL.nil ?_
          refine QF.seqNext ?_
          by_cases hz : wu = 0
          · rw [hz] at hfin
            have hs0 : dressS l ins = dressM l ins := by unfold dressS; rw [if_pos hfin]
            rw [hfin, hs0]
            refine WC.condF rfl ((by rw [hz]; rfl)) ?_
            refine WC.skip ?_
            refine QF.seqNext ?_
            refine WC.seq ?_
            refine WC.region ?_
            refine WL.v (RV.move rfl) rfl ?_
            refine WL.v (RV.eql rfl rfl) rfl ?_
            refine WL.v (RV.move rfl) rfl ?_
            refine WL.know (d := 83) rfl (b' := true) (rfl) ?_
            refine WL.on rfl ?_
            refine WL.v (RV.move rfl) rfl ?_
            refine WL.on rfl ?_
            refine WL.v (RV.move rfl) rfl ?_
            refine WL.on rfl ?_
            refine WL.v (RV.move rfl) rfl ?_
            refine WL.on rfl ?_
            refine WL.call Try.call10 rfl (refDress_ret l ins iv w7 h7 hl1 hn1) rfl ?_
            rintro v w8 ⟨rfl, hE8⟩
            refine WL.on rfl ?_
            refine WL.v (RV.eqlS rfl rfl) rfl ?_
            refine WL.v (RV.pickT rfl rfl) rfl ?_
            refine WL.v (RV.assign rfl) rfl ?_
            refine WL.nil ?_
            refine QF.seqNext ?_
            refine WC.ret ?_
            refine QF.done1 rfl rfl (⟨by simp, hE07.trans hE8⟩)
          · have hs0 : dressS l ins = [] := by unfold dressS; rw [if_neg (by rw [hfin]; exact hz)]
            rw [hfin, hs0]
            refine WC.condT rfl ((by simpa using hz)) ?_
            refine WC.seq ?_
            refine WC.region ?_
            refine WL.v (RV.move rfl) rfl ?_
            refine WL.v (RV.eqlS rfl rfl) rfl ?_
            refine WL.v (RV.move rfl) rfl ?_
            refine WL.know (d := 76) rfl (b' := true) (rfl) ?_
            refine WL.on rfl ?_
            refine WL.v (RV.move rfl) rfl ?_
            refine WL.on rfl ?_
            refine WL.v (RV.move rfl) rfl ?_
            refine WL.on rfl ?_
            refine WL.v (RV.eql rfl rfl) rfl ?_
            refine WL.v (RV.pickT rfl rfl) rfl ?_
            refine WL.v (RV.assign rfl) rfl ?_
            refine WL.nil ?_
            refine QF.seqNext ?_
            refine WC.ret ?_
            refine QF.thenRet ?_
            refine QF.done1 rfl rfl (⟨by simp, hE07⟩)
end Go.Proofs.Ytpjbdikakehbgaa
