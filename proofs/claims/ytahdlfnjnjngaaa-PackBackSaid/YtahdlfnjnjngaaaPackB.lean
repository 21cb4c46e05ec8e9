/- Package pack, walked: take. -/
import Derived.Test.YtahdlfnjnjngaaaPackA
namespace Go.Proofs.Ytahdlfnjnjngaaa
open Go.VL Go.Proofs

theorem elInt : Elem Try.prog 25 3 1 8 := ⟨Try.underlying25, by kernel_rfl, by decide⟩
abbrev RowI (O : Nat → Nat) (w : World) (i : Nat) (v : Value) (l : List Int) : Prop := RowT (fun x => [Value.int .i64 x]) 3 1 O w i v l

/-- Packed rows, as they are. -/
structure PSt where
  width : Int
  usual : List Int
  base : List Int
  check : List Int
  next : List Int

structure PkR (T : Nat) (O : Nat → Nat) (w : World) (pb : Nat) (p : PSt) (uv bv kv nv : Value) : Prop where
  blk : BlkO O w (T + 1) pb #[.int .i64 p.width, uv, bv, kv, nv] 27
  u : RowI O w (T + 2) uv p.usual
  b : RowI O w (T + 3) bv p.base
  k : RowI O w (T + 4) kv p.check
  n : RowI O w (T + 5) nv p.next
def PkO (T : Nat) (O : Nat → Nat) (w : World) (pb : Nat) (p : PSt) : Prop := ∃ uv bv kv nv, PkR T O w pb p uv bv kv nv

/-- The owners of packed rows. -/
def Own5 (T : Nat) (i : Nat) : Prop := T + 1 ≤ i ∧ i ≤ T + 5
theorem own5_0 (T : Nat) : ¬ Own5 T 0 := by unfold Own5; omega

theorem PkR.upd {T : Nat} {S : Nat → Prop} {O O' : Nat → Nat} {w w' : World} {pb : Nat} {p : PSt} {uv bv kv nv : Value} (h : PkR T O w pb p uv bv kv nv) (u : Upd S O w O' w') (hS : ∀ i, Own5 T i → ¬ S i) : PkR T O' w' pb p uv bv kv nv :=
  ⟨h.blk.upd u (by omega) (hS _ (by unfold Own5; omega)), h.u.upd u (by omega) (hS _ (by unfold Own5; omega)), h.b.upd u (by omega) (hS _ (by unfold Own5; omega)), h.k.upd u (by omega) (hS _ (by unfold Own5; omega)), h.n.upd u (by omega) (hS _ (by unfold Own5; omega))⟩
theorem PkO.upd {T : Nat} {S : Nat → Prop} {O O' : Nat → Nat} {w w' : World} {pb : Nat} {p : PSt} (h : PkO T O w pb p) (u : Upd S O w O' w') (hS : ∀ i, Own5 T i → ¬ S i) : PkO T O' w' pb p := by
  obtain ⟨uv, bv, kv, nv, h⟩ := h; exact ⟨uv, bv, kv, nv, h.upd u hS⟩

section
variable {T : Nat} {O O' : Nat → Nat} {w w' : World} {pb : Nat} {p : PSt} {uv bv kv nv v : Value} {l : List Int}
/-- A row has turned, and its new value is stored. -/
theorem PkR.setK (h : PkR T O w pb p uv bv kv nv) (u : Upd (fun j => j = T + 4) O w O' w') (r : RowI O' w' (T + 4) v l) :
    PkR T O' (w'.setCell ⟨pb, 3, none⟩ v) pb { p with check := l } uv bv v nv ∧ Upd (Own5 T) O w O' (w'.setCell ⟨pb, 3, none⟩ v) := by
  have hb := h.blk.upd u (by omega) (by omega)
  have us : Upd (fun j => j = T + 1) O' w' O' (w'.setCell ⟨pb, 3, none⟩ v) := Upd.set (by omega) hb.tag rfl
  exact ⟨⟨hb.set 3 v, (h.u.upd u (by omega) (by omega)).upd us (by omega) (by omega), (h.b.upd u (by omega) (by omega)).upd us (by omega) (by omega), r.upd us (by omega) (by omega), (h.n.upd u (by omega) (by omega)).upd us (by omega) (by omega)⟩,
    (u.mono (by unfold Own5; omega) (own5_0 T)).trans (us.mono (by unfold Own5; omega) (own5_0 T))⟩
theorem PkR.setN (h : PkR T O w pb p uv bv kv nv) (u : Upd (fun j => j = T + 5) O w O' w') (r : RowI O' w' (T + 5) v l) :
    PkR T O' (w'.setCell ⟨pb, 4, none⟩ v) pb { p with next := l } uv bv kv v ∧ Upd (Own5 T) O w O' (w'.setCell ⟨pb, 4, none⟩ v) := by
  have hb := h.blk.upd u (by omega) (by omega)
  have us : Upd (fun j => j = T + 1) O' w' O' (w'.setCell ⟨pb, 4, none⟩ v) := Upd.set (by omega) hb.tag rfl
  exact ⟨⟨hb.set 4 v, (h.u.upd u (by omega) (by omega)).upd us (by omega) (by omega), (h.b.upd u (by omega) (by omega)).upd us (by omega) (by omega), (h.k.upd u (by omega) (by omega)).upd us (by omega) (by omega), r.upd us (by omega) (by omega)⟩,
    (u.mono (by unfold Own5; omega) (own5_0 T)).trans (us.mono (by unfold Own5; omega) (own5_0 T))⟩
theorem PkR.setU (h : PkR T O w pb p uv bv kv nv) (u : Upd (fun j => j = T + 2) O w O' w') (r : RowI O' w' (T + 2) v l) :
    PkR T O' (w'.setCell ⟨pb, 1, none⟩ v) pb { p with usual := l } v bv kv nv ∧ Upd (Own5 T) O w O' (w'.setCell ⟨pb, 1, none⟩ v) := by
  have hb := h.blk.upd u (by omega) (by omega)
  have us : Upd (fun j => j = T + 1) O' w' O' (w'.setCell ⟨pb, 1, none⟩ v) := Upd.set (by omega) hb.tag rfl
  exact ⟨⟨hb.set 1 v, r.upd us (by omega) (by omega), (h.b.upd u (by omega) (by omega)).upd us (by omega) (by omega), (h.k.upd u (by omega) (by omega)).upd us (by omega) (by omega), (h.n.upd u (by omega) (by omega)).upd us (by omega) (by omega)⟩,
    (u.mono (by unfold Own5; omega) (own5_0 T)).trans (us.mono (by unfold Own5; omega) (own5_0 T))⟩
theorem PkR.setB (h : PkR T O w pb p uv bv kv nv) (u : Upd (fun j => j = T + 3) O w O' w') (r : RowI O' w' (T + 3) v l) :
    PkR T O' (w'.setCell ⟨pb, 2, none⟩ v) pb { p with base := l } uv v kv nv ∧ Upd (Own5 T) O w O' (w'.setCell ⟨pb, 2, none⟩ v) := by
  have hb := h.blk.upd u (by omega) (by omega)
  have us : Upd (fun j => j = T + 1) O' w' O' (w'.setCell ⟨pb, 2, none⟩ v) := Upd.set (by omega) hb.tag rfl
  exact ⟨⟨hb.set 2 v, (h.u.upd u (by omega) (by omega)).upd us (by omega) (by omega), r.upd us (by omega) (by omega), (h.k.upd u (by omega) (by omega)).upd us (by omega) (by omega), (h.n.upd u (by omega) (by omega)).upd us (by omega) (by omega)⟩,
    (u.mono (by unfold Own5; omega) (own5_0 T)).trans (us.mono (by unfold Own5; omega) (own5_0 T))⟩
/-- What the cells of the block hold. -/
theorem PkR.c1 (h : PkR T O w pb p uv bv kv nv) : w.cell? ⟨pb, 1, none⟩ = some uv := h.blk.cell 1 rfl
theorem PkR.c2 (h : PkR T O w pb p uv bv kv nv) : w.cell? ⟨pb, 2, none⟩ = some bv := h.blk.cell 2 rfl
theorem PkR.c3 (h : PkR T O w pb p uv bv kv nv) : w.cell? ⟨pb, 3, none⟩ = some kv := h.blk.cell 3 rfl
theorem PkR.c4 (h : PkR T O w pb p uv bv kv nv) : w.cell? ⟨pb, 4, none⟩ = some nv := h.blk.cell 4 rfl
end

/-- The slots up to one. -/
def PSt.long (p : PSt) (j : Nat) : PSt := { p with check := p.check ++ List.replicate j (-1), next := p.next ++ List.replicate j 0 }
def PSt.take (p : PSt) (slot : Nat) (row entry : Int) : PSt :=
  let q := p.long (slot + 1 - p.check.length)
  { q with check := q.check.set slot row, next := q.next.set slot entry }

theorem take_ret (T : Nat) (pb : Nat) (p : PSt) (slot : Nat) (row entry : Int) (B : Nat) (O : Nat → Nat) (w : World) (hp : PkO T O w pb p) (hR : Rng B O w) (hs : slot ≤ 1000000) (hl : p.next.length = p.check.length) :
    Ret Try.prog 37 [.pointer (some ⟨pb, 0, none⟩), .int .i64 slot, .int .i64 row, .int .i64 entry] w fun _ w' => ∃ O', PkO T O' w' pb (p.take slot row entry) ∧ Upd (Own5 T) O w O' w' ∧ Rng B O' w' := by
  refine Ret.enter Try.func37 Try.ntmps37 rfl rfl ?_
  refine WC.seq ?_
  refine WC.block ?_
  refine WC.loop (fun x : Nat × (Nat → Nat) × World => [(0, .pointer (some ⟨pb, 0, none⟩)), (1, .int .i64 slot), (2, .int .i64 row), (3, .int .i64 entry)]) (fun x : Nat × (Nat → Nat) × World => x.2.2) (fun x : Nat × (Nat → Nat) × World => PkO T x.2.1 x.2.2 pb (p.long x.1) ∧ Upd (Own5 T) O w x.2.1 x.2.2 ∧ Rng B x.2.1 x.2.2 ∧ x.1 ≤ slot + 1 - p.check.length) (fun x : Nat × (Nat → Nat) × World => slot + 1 - p.check.length - x.1) (0, O, w) (⟨by simpa [PSt.long] using hp, Upd.refl (own5_0 T) _ _, hR, Nat.zero_le _⟩) ⟨rfl, rfl, rfl, rfl, trivial⟩ rfl ?_
  rintro ⟨j, O1, w1⟩ ⟨⟨uv, bv, kv, nv, h⟩, hU, hR1, hj⟩
  dsimp only at h hU hR1 hj ⊢
  have hk := h.k.sl
  have hkl : (p.long j).check.length = p.check.length + j := by simp [PSt.long]
  have hnl : (p.long j).next.length = p.check.length + j := by simp [PSt.long, hl]
  have hkm := hk.len_le
  refine WC.seq ?_
  refine WC.seq ?_
  refine WC.region ?_
  refine WL.v (RV.move rfl) rfl ?_
  refine WL.v (RV.nilPtr rfl) rfl ?_
  refine WL.v (RV.fieldAddr 3 Try.underlying27 rfl rfl (Try.sizeOf25 _) (by decide) rfl) rfl ?_
  refine WL.v (RV.load (by first | exact h.c3 | exact h.c4) (Try.isAgg25 _) rfl) rfl ?_
  refine WL.v (RV.len (by first | exact hk) Try.underlying25 rfl) rfl ?_
  refine WL.v (RV.move rfl) rfl ?_
  refine WL.v (RV.leq rfl rfl) rfl ?_
  refine WL.nil ?_
  refine QF.seqNext ?_
  refine WC.cond rfl ?_ ?_
  · intro hlt
    replace hlt : p.check.length + j ≤ slot := by have := of_decide_eq_true hlt; omega
    refine WC.skip ?_
    refine QF.seqNext ?_
    refine WC.block ?_
    refine WC.seq ?_
    refine WC.region ?_
    refine WL.v (RV.move rfl) rfl ?_
    refine WL.v (RV.move rfl) rfl ?_
    refine WL.v (RV.nilPtr rfl) rfl ?_
    refine WL.v (RV.fieldAddr 3 Try.underlying27 rfl rfl (Try.sizeOf25 _) (by decide) rfl) rfl ?_
    refine WL.v (RV.load (by first | exact h.c3 | exact h.c4) (Try.isAgg25 _) rfl) rfl ?_
    refine WL.push elInt h.k hR1 (-1) (fun _ => rfl) rfl rfl rfl (by simp [Value.oneCell']) (by omega) (by omega) (by omega) (by decide) rfl rfl ?_
    intro kv2 w2 O2 hk2 hU2 hR2
    obtain ⟨h3, hU3⟩ := h.setK hU2 hk2
    have hb2 := h.blk.upd hU2 (by omega) (by omega)
    have hR3 : Rng B O2 (w2.setCell ⟨pb, 3, none⟩ kv2) := hR1.upd hU3
    refine WL.v (RV.nilPtr rfl) rfl ?_
    refine WL.v (RV.fieldAddr 3 Try.underlying27 rfl rfl (Try.sizeOf25 _) (by decide) rfl) rfl ?_
    refine WL.storeBlk (j := 3) hb2 rfl (Try.sizeOf25 _) hk2.one rfl rfl rfl ?_
    refine WL.nil ?_
    refine QF.seqNext ?_
    refine WC.region ?_
    refine WL.v (RV.move rfl) rfl ?_
    refine WL.v (RV.move rfl) rfl ?_
    refine WL.v (RV.nilPtr rfl) rfl ?_
    refine WL.v (RV.fieldAddr 4 Try.underlying27 rfl rfl (Try.sizeOf25 _) (by decide) rfl) rfl ?_
    refine WL.v (RV.load (by first | exact h3.c4) (Try.isAgg25 _) rfl) rfl ?_
    have h3n : RowI O2 (w2.setCell ⟨pb, 3, none⟩ kv2) (T + 5) nv (p.long j).next := h3.n
    refine WL.push elInt h3n hR3 (0) (fun _ => rfl) rfl rfl rfl (by simp [Value.oneCell']) (by omega) (by omega) (by omega) (by decide) rfl rfl ?_
    intro nv2 w4 O4 hn4 hU4 hR4
    obtain ⟨h5, hU5⟩ := h3.setN hU4 hn4
    have hb4 := h3.blk.upd hU4 (by omega) (by omega)
    refine WL.v (RV.nilPtr rfl) rfl ?_
    refine WL.v (RV.fieldAddr 4 Try.underlying27 rfl rfl (Try.sizeOf25 _) (by decide) rfl) rfl ?_
    refine WL.storeBlk (j := 4) hb4 rfl (Try.sizeOf25 _) hn4.one rfl rfl rfl ?_
    refine WL.nil ?_
    refine QF.blockNormal ?_
    have e : (p.long (j + 1)) = { p.long j with check := (p.long j).check ++ [-1], next := (p.long j).next ++ [0] } := by
      simp [PSt.long, List.replicate_succ']
    have hP : PkO T O4 (w4.setCell ⟨pb, 4, none⟩ nv2) pb (p.long (j + 1)) := by rw [e]; exact ⟨_, _, _, _, h5⟩
    refine QF.next ((j + 1, O4, w4.setCell ⟨pb, 4, none⟩ nv2)) (⟨hP, (hU.trans hU3).trans hU5, hR3.upd hU5, by omega⟩) (by dsimp only; omega) ⟨rfl, rfl, rfl, rfl, trivial⟩ rfl
  · intro hge
    replace hge : ¬ p.check.length + j ≤ slot := by have := of_decide_eq_false hge; omega
    obtain rfl : j = slot + 1 - p.check.length := by omega
    have hN := h.n.sl
    refine WC.exit ?_
    refine QF.thenExit ?_
    refine QF.thenExit ?_
    refine QF.blockHit ?_
    refine QF.seqNext ?_
    refine WC.draw (fun w1 => w1.cell? ⟨pb, 3, none⟩ = some kv ∧ w1.cell? ⟨pb, 4, none⟩ = some nv) 16 rfl (by kernel_rfl) ?_
    refine WH.take 0 rfl (by kernel_rfl) (by kernel_rfl) (by kernel_rfl) ⟨h.c3, h.c4⟩ (fun w1 hw1 => RV.move rfl) rfl ?_
    refine WH.take 1 rfl (by kernel_rfl) (by kernel_rfl) (by kernel_rfl) ⟨h.c3, h.c4⟩ (fun w1 hw1 => RV.nilPtr rfl) rfl ?_
    refine WH.take 2 rfl (by kernel_rfl) (by kernel_rfl) (by kernel_rfl) ⟨h.c3, h.c4⟩ (fun w1 hw1 => RV.fieldAddr 3 Try.underlying27 rfl rfl (Try.sizeOf25 _) (by decide) rfl) rfl ?_
    refine WH.take 3 rfl (by kernel_rfl) (by kernel_rfl) (by kernel_rfl) ⟨h.c3, h.c4⟩ (fun w1 hw1 => RV.load (by first | exact hw1.1 | exact hw1.2) (Try.isAgg25 _) rfl) rfl ?_
    refine WH.take 4 rfl (by kernel_rfl) (by kernel_rfl) (by kernel_rfl) ⟨h.c3, h.c4⟩ (fun w1 hw1 => RV.move rfl) rfl ?_
    refine WH.take 5 rfl (by kernel_rfl) (by kernel_rfl) (by kernel_rfl) ⟨h.c3, h.c4⟩ (fun w1 hw1 => RV.move rfl) rfl ?_
    refine WH.take 6 rfl (by kernel_rfl) (by kernel_rfl) (by kernel_rfl) ⟨h.c3, h.c4⟩ (fun w1 hw1 => RV.nilPtr rfl) rfl ?_
    refine WH.take 7 rfl (by kernel_rfl) (by kernel_rfl) (by kernel_rfl) ⟨h.c3, h.c4⟩ (fun w1 hw1 => RV.fieldAddr 4 Try.underlying27 rfl rfl (Try.sizeOf25 _) (by decide) rfl) rfl ?_
    refine WH.take 8 rfl (by kernel_rfl) (by kernel_rfl) (by kernel_rfl) ⟨h.c3, h.c4⟩ (fun w1 hw1 => RV.load (by first | exact hw1.1 | exact hw1.2) (Try.isAgg25 _) rfl) rfl ?_
    refine WH.take 9 rfl (by kernel_rfl) (by kernel_rfl) (by kernel_rfl) ⟨h.c3, h.c4⟩ (fun w1 hw1 => RV.move rfl) rfl ?_
    refine WH.take 10 rfl (by kernel_rfl) (by kernel_rfl) (by kernel_rfl) ⟨h.c3, h.c4⟩ (fun w1 hw1 => RV.move rfl) rfl ?_
    refine WH.take 11 rfl (by kernel_rfl) (by kernel_rfl) (by kernel_rfl) ⟨h.c3, h.c4⟩ (fun w1 hw1 => RV.move rfl) rfl ?_
    refine WH.take 12 rfl (by kernel_rfl) (by kernel_rfl) (by kernel_rfl) ⟨h.c3, h.c4⟩ (fun w1 hw1 => RV.indexAddrSh hk.sh Try.underlying25 (Try.sizeOf3 _) rfl rfl slot rfl (by omega)) rfl ?_
    have h2 : PkR T O1 w1.drew pb (p.long (slot + 1 - p.check.length)) uv bv kv nv := ⟨h.blk.drew, h.u.drew, h.b.drew, h.k.drew, h.n.drew⟩
    refine WH.one 13 (by kernel_rfl) rfl ?_
    refine WL.storeAt h2.k slot (by omega) row (Try.sizeOf3 _) rfl (by omega) rfl rfl rfl rfl ?_
    intro w2 hk2 hU2
    have hb2 := h2.blk.upd hU2 (by omega) (by omega)
    refine WL.nil ?_
    refine QF.after (⟨hb2.cell 3 rfl, hb2.cell 4 rfl⟩) ?_
    refine WH.take 14 rfl (by kernel_rfl) (by kernel_rfl) (by kernel_rfl) (⟨hb2.cell 3 rfl, hb2.cell 4 rfl⟩) (fun w1 hw1 => RV.indexAddrSh hN.sh Try.underlying25 (Try.sizeOf3 _) rfl rfl slot rfl (by omega)) rfl ?_
    refine WH.one 15 (by kernel_rfl) rfl ?_
    refine WL.storeAt (h2.n.upd hU2 (by omega) (by omega)) slot (by omega) entry (Try.sizeOf3 _) rfl (by omega) rfl rfl rfl rfl ?_
    intro w3 hn3 hU3
    have hb3 := hb2.upd hU3 (by omega) (by omega)
    refine WL.nil ?_
    refine QF.after (⟨hb3.cell 3 rfl, hb3.cell 4 rfl⟩) ?_
    refine WH.done (by kernel_rfl) ?_
    have hU4 : Upd (Own5 T) O1 w1 O1 w3 := ((hU2.mono (by unfold Own5; omega) (own5_0 T)).trans (hU3.mono (by unfold Own5; omega) (own5_0 T))).ofDrew
    refine QF.end0 rfl (⟨O1, ⟨uv, bv, kv, nv, ⟨hb3, (h2.u.upd hU2 (by omega) (by omega)).upd hU3 (by omega) (by omega), (h2.b.upd hU2 (by omega) (by omega)).upd hU3 (by omega) (by omega), hk2.upd hU3 (by omega) (by omega), hn3⟩⟩, hU.trans hU4, hR1.upd hU4⟩)
end Go.Proofs.Ytahdlfnjnjngaaa
