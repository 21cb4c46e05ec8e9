/- Package sync, walked: a Once that is done for the first time, its lock free. -/
import Derived.Test.YtakigpnccppheaaGreatDoorBld
namespace Go.Proofs.YtakigpnccppheaaGreatDoor
open Go.VL Go.Proofs
set_option maxRecDepth 4000

theorem add0 (q : Addr) : q.add 0 = q := rfl
theorem boolLoad_ret (q : Addr) (x : Int) (w : World) (hc : w.cell? q = some (.int .u32 x)) : Ret Tryz.prog 44 [.pointer (some q)] w fun v w' => v = .bool (!(decide (x = 0))) ∧ w = w' := by
  refine Ret.enter Tryz.func44 Tryz.ntmps44 rfl rfl ?_
  refine WC.seq ?_
  refine WC.region ?_
  refine WL.v (RV.assign rfl) rfl ?_
  refine WL.nil ?_
  refine QF.seqNext ?_
  refine WC.seq ?_
  refine WC.region ?_
  refine WL.v (RV.move rfl) rfl ?_
  refine WL.v (RV.nilPtr rfl) rfl ?_
  refine WL.v (RV.fieldAddr 0 Tryz.underlying76 rfl rfl (Tryz.sizeOf74 _) (by decide) rfl) rfl ?_
  refine WL.v (RV.ext (vs := [.pointer (some q)]) (run_call_load Tryz.func64 (by kernel_rfl) (by kernel_rfl) (by kernel_rfl) .u32 (by kernel_rfl) hc) rfl) rfl ?_
  refine WL.v (RV.neq rfl rfl) rfl ?_
  refine WL.v (RV.assign rfl) rfl ?_
  refine WL.nil ?_
  refine QF.seqNext ?_
  refine WC.ret ?_
  refine QF.done1 rfl rfl (⟨rfl, rfl⟩)
theorem b32_ret (w : World) : Ret Tryz.prog 87 [.bool true] w fun v w' => v = .int .u32 1 ∧ w' = w := by
  refine Ret.enter Tryz.func87 Tryz.ntmps87 rfl rfl ?_
  refine WC.seq ?_
  refine WC.region ?_
  refine WL.v (RV.assign rfl) rfl ?_
  refine WL.nil ?_
  refine QF.seqNext ?_
  refine WC.seq ?_
  refine WC.seq ?_
  refine WC.region ?_
  refine WL.v (RV.move rfl) rfl ?_
  refine WL.nil ?_
  refine QF.seqNext ?_
  refine WC.condT rfl (rfl) ?_
  refine WC.seq ?_
  refine WC.region ?_
  refine WL.v (RV.assign rfl) rfl ?_
  refine WL.nil ?_
  refine QF.seqNext ?_
  refine WC.ret ?_
  refine QF.thenRet ?_
  refine QF.done1 rfl rfl (⟨rfl, rfl⟩)
theorem boolStore_ret (O : Nat → Nat) (i b j : Nat) (cs : Array Value) (T : TypeId) (x : Value) (w : World) (hb : BlkO O w i b cs T) (hj : cs[j]? = some x) :
    Ret Tryz.prog 67 [.pointer (some ⟨b, j, none⟩), .bool true] w (fun _ w' => w' = w.drew.setCell ⟨b, j, none⟩ (.int .u32 1)) ∧ RetD Tryz.prog 67 [.pointer (some ⟨b, j, none⟩), .bool true] w (fun _ w' => w' = w.drew.setCell ⟨b, j, none⟩ (.int .u32 1)) := by
  have hc := hb.drew.cell j hj
  have hf : w.drew.frozen? ⟨b, j, none⟩ = false := by simp [World.frozen?, hb.drew.blk]
  refine RetB.enter Tryz.func67 Tryz.ntmps67 rfl rfl ?_
  refine WC.tail 5 rfl rfl (by kernel_rfl) (by kernel_rfl) ?_
  refine WS.v (RV.move rfl) rfl ?_
  refine WS.v (RV.nilPtr rfl) rfl ?_
  refine WS.v (RV.fieldAddr 0 Tryz.underlying76 rfl rfl (Tryz.sizeOf74 _) (by decide) rfl) rfl ?_
  refine WS.v (RV.move rfl) rfl ?_
  refine WS.call Tryz.call87 rfl (b32_ret _) rfl ?_
  refine WS.go ?_
  refine WL.ext (vs := [.pointer (some ⟨b, j, none⟩), .int .u32 1]) (run_call_store Tryz.func86 (by kernel_rfl) (by kernel_rfl) (by kernel_rfl) (by kernel_rfl) hc hf) rfl rfl ?_
  refine WL.nil ?_
  exact QF.end0 rfl rfl

theorem mutInfo : (Tryz.prog.info? 78).map (fun i => decide (i.size = 0)) = some false := by kernel_rfl
theorem isLock_ret (O : Nat → Nat) (i b j : Nat) (cs : Array Value) (T : TypeId) (w : World) (hb : BlkO O w i b cs T) (hj : cs[j]? = some (.int .i32 0)) :
    Ret Tryz.prog 84 [.pointer (some ⟨b, j, none⟩)] w fun _ w' => w' = w.setCell ⟨b, j, none⟩ (.int .i32 1) := by
  have hc := hb.cell j hj
  have hf : w.frozen? ⟨b, j, none⟩ = false := by simp [World.frozen?, hb.blk]
  have hlt : j < cs.size := (Array.getElem?_eq_some_iff.1 hj).1
  have hc2 : (w.setCell ⟨b, j, none⟩ (.int .i32 1)).cell? ⟨b, j, none⟩ = some (.int .i32 1) := (hb.set j (.int .i32 1)).cell j (by simp [hlt])
  refine Ret.enter Tryz.func84 Tryz.ntmps84 rfl rfl ?_
  refine WC.seq ?_
  refine WC.region ?_
  refine WL.v (RV.ext (vs := []) (run_call_mark0 Tryz.func108 (by kernel_rfl) (by kernel_rfl) (by kernel_rfl) .disable (by kernel_rfl) _) rfl) rfl ?_
  refine WL.nil ?_
  refine QF.seqNext ?_
  refine WC.seq ?_
  refine WC.seq ?_
  refine WC.region ?_
  refine WL.v (RV.move rfl) rfl ?_
  refine WL.v (RV.nilPtr rfl) rfl ?_
  refine WL.v (RV.fieldAddr 0 Tryz.underlying78 rfl rfl (Tryz.sizeOf21 _) (by decide) rfl) rfl ?_
  refine WL.ext (vs := [.pointer (some ⟨b, j, none⟩), .int .i32 0, .int .i32 1]) (run_call_cas_hit Tryz.func109 (by kernel_rfl) (by kernel_rfl) (by kernel_rfl) .i32 (by kernel_rfl) hc hf) rfl rfl ?_
  refine WL.nil ?_
  refine QF.seqNext ?_
  refine WC.condT rfl (rfl) ?_
  refine WC.seq ?_
  refine WC.condT rfl rfl ?_
  refine WC.seq ?_
  refine WC.region ?_
  refine WL.v (RV.ext (vs := []) (run_call_mark0 Tryz.func110 (by kernel_rfl) (by kernel_rfl) (by kernel_rfl) .enable (by kernel_rfl) _) rfl) rfl ?_
  refine WL.nil ?_
  refine QF.seqNext ?_
  refine WC.region ?_
  refine WL.v (RV.move rfl) rfl ?_
  refine WL.v (RV.convA (run_convert_to_unsafe Tryz.underlying206 Tryz.underlying135 mutInfo hc2) rfl) rfl ?_
  refine WL.v (RV.ext (vs := [.pointer (some ⟨b, j, none⟩)]) (run_call_marked Tryz.func111 (by kernel_rfl) (by kernel_rfl) (by kernel_rfl) .acquire (by kernel_rfl) _ _) rfl) rfl ?_
  refine WL.nil ?_
  refine QF.seqNext ?_
  refine WC.ret ?_
  refine QF.thenRet ?_
  exact QF.done0 rfl rfl
theorem smLock_ret (O : Nat → Nat) (i b j : Nat) (cs : Array Value) (T : TypeId) (w : World) (hb : BlkO O w i b cs T) (hj : cs[j]? = some (.int .i32 0)) :
    Ret Tryz.prog 65 [.pointer (some ⟨b, j, none⟩)] w fun _ w' => w' = w.setCell ⟨b, j, none⟩ (.int .i32 1) := by
  refine Ret.enter Tryz.func65 Tryz.ntmps65 rfl rfl ?_
  refine WC.region ?_
  refine WL.v (RV.move rfl) rfl ?_
  refine WL.v (RV.nilPtr rfl) rfl ?_
  refine WL.v (RV.fieldAddr 0 Tryz.underlying80 rfl rfl (Tryz.sizeOf78 _) (by decide) rfl) rfl ?_
  refine WL.call Tryz.call84 rfl (isLock_ret O i b j cs T w hb hj) rfl ?_
  rintro v w' rfl
  refine WL.nil ?_
  exact QF.end0 rfl rfl
theorem isUnlock_ret (O : Nat → Nat) (i b j : Nat) (cs : Array Value) (T : TypeId) (w : World) (hb : BlkO O w i b cs T) (hj : cs[j]? = some (.int .i32 1)) :
    Ret Tryz.prog 85 [.pointer (some ⟨b, j, none⟩)] w fun _ w' => w' = w.setCell ⟨b, j, none⟩ (.int .i32 0) := by
  have hc := hb.cell j hj
  have hf : w.frozen? ⟨b, j, none⟩ = false := by simp [World.frozen?, hb.blk]
  refine Ret.enter Tryz.func85 Tryz.ntmps85 rfl rfl ?_
  refine WC.seq ?_
  refine WC.condT rfl rfl ?_
  refine WC.seq ?_
  refine WC.region ?_
  refine WL.v (RV.move rfl) rfl ?_
  refine WL.v (RV.nilPtr rfl) rfl ?_
  refine WL.v (RV.fieldAddr 0 Tryz.underlying78 rfl rfl (Tryz.sizeOf21 _) (by decide) rfl) rfl ?_
  refine WL.v (RV.load (by first | exact hc) (Tryz.isAgg21 _) rfl) rfl ?_
  refine WL.nil ?_
  refine QF.seqNext ?_
  refine WC.seq ?_
  refine WC.region ?_
  refine WL.v (RV.move rfl) rfl ?_
  refine WL.v (RV.convA (run_convert_to_unsafe Tryz.underlying206 Tryz.underlying135 mutInfo hc) rfl) rfl ?_
  refine WL.v (RV.ext (vs := [.pointer (some ⟨b, j, none⟩)]) (run_call_marked Tryz.func113 (by kernel_rfl) (by kernel_rfl) (by kernel_rfl) .releaseMerge (by kernel_rfl) _ _) rfl) rfl ?_
  refine WL.nil ?_
  refine QF.seqNext ?_
  refine WC.region ?_
  refine WL.v (RV.ext (vs := []) (run_call_mark0 Tryz.func108 (by kernel_rfl) (by kernel_rfl) (by kernel_rfl) .disable (by kernel_rfl) _) rfl) rfl ?_
  refine WL.nil ?_
  refine QF.seqNext ?_
  refine WC.seq ?_
  refine WC.region ?_
  refine WL.v (RV.move rfl) rfl ?_
  refine WL.v (RV.nilPtr rfl) rfl ?_
  refine WL.v (RV.fieldAddr 0 Tryz.underlying78 rfl rfl (Tryz.sizeOf21 _) (by decide) rfl) rfl ?_
  refine WL.ext (vs := [.pointer (some ⟨b, j, none⟩), .int .i32 (-1)]) (run_call_add Tryz.func114 (by kernel_rfl) (by kernel_rfl) (by kernel_rfl) .i32 (by kernel_rfl) (s := 0) hc hf rfl) rfl rfl ?_
  refine WL.v (RV.assign rfl) rfl ?_
  refine WL.nil ?_
  refine QF.seqNext ?_
  refine WC.seq ?_
  refine WC.seq ?_
  refine WC.region ?_
  refine WL.v (RV.move rfl) rfl ?_
  refine WL.v (RV.neq rfl rfl) rfl ?_
  refine WL.nil ?_
  refine QF.seqNext ?_
  refine WC.condF rfl (rfl) ?_
  refine WC.skip ?_
  refine QF.seqNext ?_
  refine WC.region ?_
  refine WL.v (RV.ext (vs := []) (run_call_mark0 Tryz.func110 (by kernel_rfl) (by kernel_rfl) (by kernel_rfl) .enable (by kernel_rfl) _) rfl) rfl ?_
  refine WL.nil ?_
  exact QF.end0 rfl rfl
theorem smUnlock_ret (O : Nat → Nat) (i b j : Nat) (cs : Array Value) (T : TypeId) (w : World) (hb : BlkO O w i b cs T) (hj : cs[j]? = some (.int .i32 1)) :
    Ret Tryz.prog 66 [.pointer (some ⟨b, j, none⟩)] w (fun _ w' => w' = w.setCell ⟨b, j, none⟩ (.int .i32 0)) ∧ RetD Tryz.prog 66 [.pointer (some ⟨b, j, none⟩)] w (fun _ w' => w' = w.setCell ⟨b, j, none⟩ (.int .i32 0)) := by
  refine RetB.enter Tryz.func66 Tryz.ntmps66 rfl rfl ?_
  refine WC.region ?_
  refine WL.v (RV.move rfl) rfl ?_
  refine WL.v (RV.nilPtr rfl) rfl ?_
  refine WL.v (RV.fieldAddr 0 Tryz.underlying80 rfl rfl (Tryz.sizeOf78 _) (by decide) rfl) rfl ?_
  refine WL.call Tryz.call85 rfl (isUnlock_ret O i b j cs T w hb hj) rfl ?_
  rintro v w' rfl
  refine WL.nil ?_
  exact QF.end0 rfl rfl

/-- A Once at a block's head, for the first time: the function is called, its lock being held. -/
theorem doSlow_ret (O : Nat → Nat) (i b : Nat) (cs : Array Value) (T : TypeId) (w : World) (hi : i ≠ 0) (hb : BlkO O w i b cs T) (h0 : cs[0]? = some (.int .u32 0)) (h1 : cs[1]? = some (.int .i32 0)) (g : FuncId) (fs : List Value)
    (hg : ∀ (args : Array Value) (w : World), (callFunc g args).run Tryz.prog w = .ok (.enter g args) w) (K : (Nat → Nat) → World → Array Value → Prop)
    (hf : ∀ W, BlkO O W i b (cs.setIfInBounds 1 (.int .i32 1)) T → Upd (fun k => k = i) O w O W → Ret Tryz.prog g fs W fun _ W' => ∃ O' cs', BlkO O' W' i b cs' T ∧ 1 < cs'.size ∧ cs'[1]? = some (.int .i32 1) ∧ K O' W' cs') :
    Ret Tryz.prog 45 [.pointer (some ⟨b, 0, none⟩), .func (.func g) fs.toArray #[]] w fun _ w' => ∃ O' W' cs', BlkO O' W' i b cs' T ∧ K O' W' cs' ∧ w' = (W'.drew.setCell ⟨b, 0, none⟩ (.int .u32 1)).setCell ⟨b, 1, none⟩ (.int .i32 0) := by
  have hz : ¬ (fun k => k = i) 0 := fun e => hi e.symm
  refine Ret.enterM Tryz.func45 Tryz.ntmps45 rfl rfl ?_
  refine WI.seq ?_
  refine WI.region (by first | exact .inl rfl | exact .inr rfl) (fun _ _ h => h) ?_
  refine WL.v (RV.move rfl) rfl ?_
  refine WL.v (RV.nilPtr rfl) rfl ?_
  refine WL.v (RV.fieldAddr 1 Tryz.underlying82 rfl rfl (Tryz.sizeOf80 _) (by decide) rfl) rfl ?_
  refine WL.call Tryz.call65 rfl (smLock_ret O i b 1 cs T w hb h1) rfl ?_
  rintro v w1 rfl
  have hb1 := hb.set 1 (.int .i32 1)
  have hU1 : Upd (fun k => k = i) O w O (w.setCell ⟨b, 1, none⟩ (.int .i32 1)) := Upd.set hz hb.tag rfl
  have h01 : (cs.setIfInBounds 1 (.int .i32 1))[0]? = some (.int .u32 0) := by rw [Array.getElem?_setIfInBounds_ne (by decide)]; exact h0
  generalize w.setCell ⟨b, 1, none⟩ (.int .i32 1) = w1 at *
  refine WL.nil ?_
  refine QF.dn ?_
  refine QI.seqNext ?_
  refine WI.seq ?_
  refine WI.region (by first | exact .inl rfl | exact .inr rfl) (fun _ _ h => h) ?_
  refine WL.v (RV.move rfl) rfl ?_
  refine WL.v (RV.nilPtr rfl) rfl ?_
  refine WL.v (RV.fieldAddr 1 Tryz.underlying82 rfl rfl (Tryz.sizeOf80 _) (by decide) rfl) rfl ?_
  refine WL.deferLast rfl ?_
  refine QI.seqNext ?_
  refine WI.seq ?_
  refine WI.region (by first | exact .inl rfl | exact .inr rfl) (fun _ _ h => h) ?_
  refine WL.v (RV.move rfl) rfl ?_
  refine WL.v (RV.nilPtr rfl) rfl ?_
  refine WL.v (RV.fieldAddr 0 Tryz.underlying82 rfl rfl (Tryz.sizeOf76 _) (by decide) rfl) rfl ?_
  refine WL.call Tryz.call44 rfl (boolLoad_ret ⟨b, 0, none⟩ 0 w1 (hb1.cell 0 h01)) rfl ?_
  rintro v _ ⟨rfl, rfl⟩
  refine WL.v (RV.not rfl) rfl ?_
  refine WL.nil ?_
  refine QF.dn ?_
  refine QI.seqNext ?_
  refine WI.condT rfl (rfl) ?_
  refine WI.seq ?_
  refine WI.region (by first | exact .inl rfl | exact .inr rfl) (fun _ _ h => h) ?_
  refine WL.v (RV.move rfl) rfl ?_
  refine WL.v (RV.nilPtr rfl) rfl ?_
  refine WL.v (RV.fieldAddr 0 Tryz.underlying82 rfl rfl (Tryz.sizeOf76 _) (by decide) rfl) rfl ?_
  refine WL.deferLast rfl ?_
  refine QI.seqNext ?_
  refine WI.region (by first | exact .inl rfl | exact .inr rfl) (fun _ _ h => h) ?_
  refine WL.v (RV.move rfl) rfl ?_
  refine WL.callVU (fs := fs) rfl hg rfl (by simpa using hf w1 hb1 hU1) rfl ?_
  rintro v w2 ⟨O2, cs2, hb2, hsz, h12, hK⟩
  refine WL.nil ?_
  refine QF.dn ?_
  have h02 : cs2[0]? = some (cs2[0]'(by omega)) := Array.getElem?_eq_getElem _
  refine QI.fall (Leave.call Tryz.call67 (boolStore_ret O2 i b 0 cs2 T _ w2 hb2 h02).2 ?_)
  rintro v w3 rfl
  have hb3 := hb2.drew.set 0 (.int .u32 1)
  refine Leave.call Tryz.call66 (smUnlock_ret O2 i b 1 _ T _ hb3 (by rw [Array.getElem?_setIfInBounds_ne (by decide)]; exact h12)).2 ?_
  rintro v w4 rfl
  exact Leave.done0 rfl ⟨O2, w2, cs2, hb2, hK, rfl⟩
theorem onceDo_ret (O : Nat → Nat) (i b : Nat) (cs : Array Value) (T : TypeId) (w : World) (hi : i ≠ 0) (hb : BlkO O w i b cs T) (h0 : cs[0]? = some (.int .u32 0)) (h1 : cs[1]? = some (.int .i32 0)) (g : FuncId) (fs : List Value)
    (hg : ∀ (args : Array Value) (w : World), (callFunc g args).run Tryz.prog w = .ok (.enter g args) w) (K : (Nat → Nat) → World → Array Value → Prop)
    (hf : ∀ W, BlkO O W i b (cs.setIfInBounds 1 (.int .i32 1)) T → Upd (fun k => k = i) O w O W → Ret Tryz.prog g fs W fun _ W' => ∃ O' cs', BlkO O' W' i b cs' T ∧ 1 < cs'.size ∧ cs'[1]? = some (.int .i32 1) ∧ K O' W' cs') :
    Ret Tryz.prog 29 [.pointer (some ⟨b, 0, none⟩), .func (.func g) fs.toArray #[]] w fun _ w' => ∃ O' W' cs', BlkO O' W' i b cs' T ∧ K O' W' cs' ∧ w' = (W'.drew.setCell ⟨b, 0, none⟩ (.int .u32 1)).setCell ⟨b, 1, none⟩ (.int .i32 0) := by
  refine Ret.enter Tryz.func29 Tryz.ntmps29 rfl rfl ?_
  refine WC.seq ?_
  refine WC.region ?_
  refine WL.v (RV.move rfl) rfl ?_
  refine WL.v (RV.nilPtr rfl) rfl ?_
  refine WL.v (RV.fieldAddr 0 Tryz.underlying82 rfl rfl (Tryz.sizeOf76 _) (by decide) rfl) rfl ?_
  refine WL.call Tryz.call44 rfl (boolLoad_ret ⟨b, 0, none⟩ 0 w (hb.cell 0 h0)) rfl ?_
  rintro v _ ⟨rfl, rfl⟩
  refine WL.v (RV.not rfl) rfl ?_
  refine WL.nil ?_
  refine QF.seqNext ?_
  refine WC.condT rfl (rfl) ?_
  refine WC.region ?_
  refine WL.v (RV.move rfl) rfl ?_
  refine WL.v (RV.move rfl) rfl ?_
  refine WL.call Tryz.call45 rfl (doSlow_ret O i b cs T w hi hb h0 h1 g fs hg K hf) rfl ?_
  rintro v w' h
  refine WL.nil ?_
  exact QF.end0 rfl h
end Go.Proofs.YtakigpnccppheaaGreatDoor
