/- Law 28: the document's example. -/
import Derived.Test.YtakigpnccppheaaGreatDoorDressB
namespace Go.Proofs.YtakigpnccppheaaGreatDoor
open Go.VL Go.Proofs
set_option maxRecDepth 10000

theorem awake_ret (w : World) : Ret Tryz.prog 4 [] w fun v w' => v = .bool true ∧ Ext w w' := by
  have e1 : dressE [97, 60, 98] [(1, 0)] = 0 := by decide +kernel
  have e2 : dressS [97, 60, 98] [(1, 0)] = [97, 60, 98, 62, 38, 108, 116, 59, 98] := by decide +kernel
  have e3 : escM [97, 60, 98] = [97, 38, 108, 116, 59, 98] := by decide +kernel
  refine Ret.enter Tryz.func4 Tryz.ntmps4 rfl rfl ?_
  refine WC.seq ?_
  refine WC.region ?_
  refine WL.v (RV.assign rfl) rfl ?_
  refine WL.nil ?_
  refine QF.seqNext ?_
  refine WC.seq ?_
  refine WC.region ?_
  refine WL.v (RV.buildF pl37 (Tryz.zeroValue37 _) rfl (by first | rfl | (simp only [List.all_cons, List.all_nil]; rfl)) rfl rfl) rfl ?_
  refine WL.buildOne elIns (enc := encI) ((1, 0) : Ins) rfl rfl rfl (by decide) rfl ?_
  intro iv w1 h1 hE1
  refine WL.call Tryz.call13 rfl (dress_ret [97, 60, 98] [(1, 0)] iv w1 (by decide) (by decide) h1) rfl ?_
  rw [e1, e2]
  rintro v w2 ⟨rfl, hE2⟩
  refine WL.v (RV.move rfl) rfl ?_
  refine WL.v (RV.extract rfl rfl) rfl ?_
  refine WL.v (RV.extract rfl rfl) rfl ?_
  refine WL.v (RV.assign rfl) rfl ?_
  refine WL.v (RV.assign rfl) rfl ?_
  refine WL.nil ?_
  refine QF.seqNext ?_
  refine WC.seq ?_
  refine WC.region ?_
  refine WL.call Tryz.call5 rfl (escEscape_ret [97, 60, 98] w2 (by decide)) rfl ?_
  rw [e3]
  rintro v w3 ⟨rfl, hE3⟩
  refine WL.v (RV.eqlS rfl rfl) rfl ?_
  refine WL.v (RV.move rfl) rfl ?_
  refine WL.know (d := 11) rfl (b' := true) (rfl) ?_
  refine WL.on rfl ?_
  refine WL.v (RV.move rfl) rfl ?_
  refine WL.on rfl ?_
  refine WL.v (RV.eql rfl rfl) rfl ?_
  refine WL.v (RV.pickT rfl rfl) rfl ?_
  refine WL.v (RV.move rfl) rfl ?_
  refine WL.know (d := 15) rfl (b' := true) (rfl) ?_
  refine WL.on rfl ?_
  refine WL.v (RV.move rfl) rfl ?_
  refine WL.on rfl ?_
  refine WL.v (RV.eqlS rfl rfl) rfl ?_
  refine WL.v (RV.pickT rfl rfl) rfl ?_
  refine WL.v (RV.assign rfl) rfl ?_
  refine WL.nil ?_
  refine QF.seqNext ?_
  refine WC.ret ?_
  refine QF.done1 rfl rfl (⟨rfl, (hE1.trans hE2).trans hE3⟩)

end Go.Proofs.YtakigpnccppheaaGreatDoor
