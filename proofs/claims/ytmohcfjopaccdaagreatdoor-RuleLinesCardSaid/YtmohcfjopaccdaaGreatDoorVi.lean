/- Loops over a string's runes, for the small calculus. Nothing here speaks of a particular program. -/
import Derived.Test.YtmohcfjopaccdaaGreatDoorVx
import Derived.Laws.RangeString
namespace Go.VL
section
variable {P : Program} {N : Nat} {ops : Array Oper} {Q : Exit → Act → World → Prop} {rest : List Oper} {st : St} {w : World}
variable {t : TypeId} {p : String} {e : Array Edge} {d : Nat} {x y z : Operand}
theorem Ext.iter (w : World) (s : ByteArray) (pos : Nat) : Ext w (w.iter s pos) := Ext.alloc w _
theorem WL.rangeS {xt : TypeId} {l : List UInt8} (hT : P.underlying xt = some .string) (hx : ev st x = some (.string (bs l))) (hd : Nat.blt d N = true)
    (h : WL P N ops Q rest ((d, .pointer (some ⟨w.heap.size, 0, none⟩)) :: st) (w.iter (bs l) 0)) : WL P N ops Q (⟨some d, .range xt x, t, p, e, none⟩ :: rest) st w :=
  WL.val hd (fun a ha => by
    simp only [execOp, ha.ev hx, Sem.run_bind, run_range_string w xt (bs l) hT, Result.andThen_ok]
    rfl) h
theorem WL.nextA {l : List UInt8} {pos : Nat} {c : UInt8} {w0 : World} (hx : ev st x = some (.pointer (some ⟨w0.heap.size, 0, none⟩))) (hc : l[pos]? = some c) (ha : c.toNat < 128) (hd : Nat.blt d N = true)
    (h : WL P N ops Q rest ((d, .tuple #[.bool true, .int .i64 (pos : Nat), .int .i32 (c.toNat : Int)]) :: st) (w0.iter (bs l) (pos + 1))) : WL P N ops Q (⟨some d, .next x true, t, p, e, none⟩ :: rest) st (w0.iter (bs l) pos) := by
  obtain ⟨hlt, hv⟩ := List.getElem?_eq_some_iff.1 hc
  have hs : pos < (bs l).size := by rw [bs_size]; exact hlt
  have he : (bs l)[pos]'hs = c := by rw [← hv]; exact List.getElem_toArray (xs := l) (i := pos) hlt
  have hrun := run_next_ascii (P := P) w0 (bs l) pos t hs (by rw [he]; exact ha)
  rw [he] at hrun
  exact WL.val hd (fun a ha => by
    simp only [execOp, ha.ev hx, Sem.run_bind, hrun, Result.andThen_ok]
    rfl) h
theorem WL.nextE {l : List UInt8} {pos : Nat} {w0 : World} (hx : ev st x = some (.pointer (some ⟨w0.heap.size, 0, none⟩))) (hp : l.length ≤ pos) (hd : Nat.blt d N = true)
    (h : WL P N ops Q rest ((d, .tuple #[.bool false]) :: st) (w0.iter (bs l) pos)) : WL P N ops Q (⟨some d, .next x true, t, p, e, none⟩ :: rest) st (w0.iter (bs l) pos) := by
  have hs : ¬ pos < (bs l).size := by rw [bs_size]; omega
  have hrun := run_next_end (P := P) w0 (bs l) pos t hs
  exact WL.val hd (fun a ha => by
    simp only [execOp, ha.ev hx, Sem.run_bind, hrun, Result.andThen_ok]
    rfl) h
end
section
variable {P : Program} {N : Nat} {ops : Array Oper} {Q : Exit → Act → World → Prop} {rest : List Oper} {st : St} {w : World}
variable {t : TypeId} {p : String} {e : Array Edge} {d : Nat} {x y z : Operand}
theorem RV.indexArr {xt E : TypeId} {n : Nat} {cs : Array Value} {k : IntKind} {m : Int} {v : Value} (hu : P.underlying xt = some (.array n E)) (hE : (sizeOf E).run P w = .ok 1 w) (hA : (isAgg E).run P w = .ok false w) (hx : ev st x = some (.agg cs)) (hy : ev st y = some (.int k m)) (i : Nat) (hm : m = i) (hi : i < n) (hc : cs[i]? = some v) :
    RV P N (.index xt x y) t st w v := fun a ha dst p e g => by
  subst hm
  have h2 : 0 ≤ (i : Int) ∧ (i : Int) < (n : Int) := by omega
  simp only [execOp, ha.ev hx, ha.ev hy]
  simp [Instr.index, asIntOf, run_underlying hu, hE, h2, part, hA, hc]
  omega
/-- Ways of a stretch of code meet behind it. -/
theorem WC.mid {α : Type} {c : Code} (f : α → St) (g : α → World) (I : α → Prop) (h1 : (∀ z, I z → QF N Q .normal (f z) (g z)) → WC P N c Q st w) (h2 : ∀ z, I z → QF N Q .normal (f z) (g z)) : WC P N c Q st w := h1 h2
theorem QF.of {e : Exit} {st' : St} {w' : World} (h : QF N Q e st' w') (hc : Cov st st') (hw : w' = w) : QF N Q e st w := by subst hw; exact h.weaken hc
/-- A store of some cells into the middle of an owner's block. -/
theorem WL.storeAggAt {T : TypeId} {O : Nat → Nat} {i b : Nat} {cs us : Array Value} {E : TypeId} (off : Nat) (hb : BlkO O w i b cs E) (hs : off + us.size ≤ cs.size) (hT : (sizeOf T).run P w = .ok us.size w) (h1 : us.toList.all Value.oneCell' = true)
    {q : Addr} (hx : ev st x = some (.pointer (some q))) (hq : q = ⟨b, off, none⟩) (hy : ev st y = some (.agg us))
    (h : WL P N ops Q rest st (w.setRow b (cs.toList.take off ++ us.toList ++ cs.toList.drop (off + us.size)).toArray)) : WL P N ops Q (⟨none, .store T x y, t, p, e, none⟩ :: rest) st w :=
  WL.unit (fun a ha => by
    subst hq
    have hrun : (Instr.storeAt T (.pointer (some ⟨b, off, none⟩)) (.agg us)).run P w = .ok () (w.setRow b (cs.toList.take off ++ us.toList ++ cs.toList.drop (off + us.size)).toArray) := by
      have := run_storeCells_at P b off E us.toList 0 cs w hb.blk (by simpa using hs) (List.all_eq_true.1 h1)
      simp only [Nat.add_zero, Array.length_toList] at this
      simp only [Instr.storeAt, Instr.sureAddr, storeVar, Sem.run_bind, Sem.run_pure, Result.andThen_ok, Value.cells, hT]
      simpa using this
    simp only [execOp, ha.ev hx, ha.ev hy, Sem.run_bind, hrun, Result.andThen_ok, Sem.run_pure]) h
end
/-- A call's own owners, forgotten. -/
def lowT (O : Nat → Nat) (T : Nat) : Nat → Nat := fun b => if T ≤ O b then 0 else O b
theorem Upd.lowT {S : Nat → Prop} {T : Nat} {O O2 : Nat → Nat} {w w' : World} (h : Upd S O w O2 w') (hT : ∀ b, O b < T) {S' : Nat → Prop} (hS : ∀ b, S (O b) → S' (O b)) (hz : ¬ S' 0) : Upd S' O w (lowT O2 T) w' :=
  ⟨h.os, h.tape, h.output, h.size, fun b hb hn => h.blk b hb fun hs => hn (hS b hs), fun b hb => by
    have h1 := h.tag b hb
    have := hT b
    unfold Go.VL.lowT; rw [if_neg (by omega)]; exact h1, fun b hb => by
    unfold Go.VL.lowT at hb
    split at hb
    · exact absurd rfl hb
    · exact h.new b hb, hz⟩
theorem Rng.lowT {B : Nat} {O : Nat → Nat} {w : World} (h : Rng B O w) (T : Nat) : Rng B (lowT O T) w := ⟨h.le, fun b hb => by
  unfold Go.VL.lowT at hb
  split at hb
  · exact absurd rfl hb
  · exact h.rng b hb⟩
theorem BlkO.lowT {O : Nat → Nat} {w : World} {i b : Nat} {cs : Array Value} {E : TypeId} (h : BlkO O w i b cs E) {T : Nat} (hi : i < T) : BlkO (lowT O T) w i b cs E := ⟨h.blk, by unfold Go.VL.lowT; rw [h.tag, if_neg (by omega)]⟩
theorem RowT.lowT {α : Type} {enc : α → List Value} {O : Nat → Nat} {w : World} {i : Nat} {E : TypeId} {sz : Nat} {v : Value} {l : List α} (h : RowT enc E sz O w i v l) {T : Nat} (hi : i < T) : RowT enc E sz (lowT O T) w i v l :=
  ⟨⟨h.1.row, fun g hg => by unfold Go.VL.lowT; rw [h.1.tag g hg, if_neg (by omega)]⟩, h.2⟩
theorem lowT_z {O : Nat → Nat} {T b : Nat} (h : O b = 0) : lowT O T b = 0 := by unfold lowT; split <;> simp [h]
end Go.VL
