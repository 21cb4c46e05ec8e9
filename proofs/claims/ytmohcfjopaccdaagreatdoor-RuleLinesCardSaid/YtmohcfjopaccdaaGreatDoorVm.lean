/- Memory that a call makes and writes, for the small calculus: every block has an owner's number; a step of one owner leaves the others' blocks alone. Nothing here speaks of a particular program. -/
import Derived.Test.YtmohcfjopaccdaaGreatDoorVl
import Derived.Great.BuildSlice
namespace Go.VL
open Go.RowKit (Below)

/-- What owners of some numbers did: no other block has turned. -/
structure Upd (S : Nat → Prop) (O : Nat → Nat) (w : World) (O' : Nat → Nat) (w' : World) : Prop where
  os : w'.os = w.os
  tape : w'.tape = w.tape
  output : w'.output = w.output
  size : w.heap.size ≤ w'.heap.size
  blk : ∀ b, b < w.heap.size → ¬ S (O b) → w'.heap[b]? = w.heap[b]?
  tag : ∀ b, O b ≠ 0 → O' b = O b
  new : ∀ b, O' b ≠ 0 → O b ≠ 0 ∨ (w.heap.size ≤ b ∧ b < w'.heap.size)
  z : ¬ S 0

/-- Only blocks from B on have owners. -/
structure Rng (B : Nat) (O : Nat → Nat) (w : World) : Prop where
  le : B ≤ w.heap.size
  rng : ∀ b, O b ≠ 0 → B ≤ b ∧ b < w.heap.size

theorem Upd.refl {S : Nat → Prop} (h : ¬ S 0) (O : Nat → Nat) (w : World) : Upd S O w O w := ⟨rfl, rfl, rfl, Nat.le_refl _, fun _ _ _ => rfl, fun _ _ => rfl, fun _ h => .inl h, h⟩
theorem Upd.mono {S S' : Nat → Prop} {O O' : Nat → Nat} {w w' : World} (h : Upd S O w O' w') (hs : ∀ i, S i → S' i) (hz : ¬ S' 0) : Upd S' O w O' w' :=
  ⟨h.os, h.tape, h.output, h.size, fun b hb hn => h.blk b hb fun hS => hn (hs _ hS), h.tag, h.new, hz⟩
theorem Upd.trans {S : Nat → Prop} {O O1 O2 : Nat → Nat} {w w1 w2 : World} (h : Upd S O w O1 w1) (k : Upd S O1 w1 O2 w2) : Upd S O w O2 w2 := by
  refine ⟨k.os.trans h.os, k.tape.trans h.tape, k.output.trans h.output, Nat.le_trans h.size k.size, fun b hb hn => ?_, fun b hb => ?_, fun b hb => ?_, h.z⟩
  · refine (k.blk b (Nat.lt_of_lt_of_le hb h.size) ?_).trans (h.blk b hb hn)
    by_cases h0 : O b = 0
    · have : O1 b = 0 := by
        refine Classical.byContradiction fun hne => ?_
        rcases h.new b hne with h1 | h1
        · exact h1 h0
        · omega
      rw [this]; exact h.z
    · rw [h.tag b h0]; exact hn
  · have h1 := h.tag b hb
    rw [k.tag b (by rw [h1]; exact hb), h1]
  · rcases k.new b hb with h1 | h1
    · rcases h.new b h1 with h2 | h2
      · exact .inl h2
      · exact .inr ⟨h2.1, Nat.lt_of_lt_of_le h2.2 k.size⟩
    · exact .inr ⟨Nat.le_trans h.size h1.1, h1.2⟩
theorem Upd.of_ext {S : Nat → Prop} (hz : ¬ S 0) {w w' : World} (O : Nat → Nat) (h : Ext w w') : Upd S O w O w' :=
  ⟨h.os, h.tape, h.output, h.size, fun b hb _ => h.block b hb, fun _ _ => rfl, fun _ h => .inl h, hz⟩
theorem Rng.upd {B : Nat} {S : Nat → Prop} {O O' : Nat → Nat} {w w' : World} (r : Rng B O w) (h : Upd S O w O' w') : Rng B O' w' := by
  refine ⟨Nat.le_trans r.le h.size, fun b hb => ?_⟩
  rcases h.new b hb with h1 | h1
  · exact ⟨(r.rng b h1).1, Nat.lt_of_lt_of_le (r.rng b h1).2 h.size⟩
  · exact ⟨Nat.le_trans r.le h1.1, h1.2⟩
theorem Rng.start (w : World) : Rng w.heap.size (fun _ => 0) w := ⟨Nat.le_refl _, fun _ h => absurd rfl h⟩
theorem Rng.ext {B : Nat} {O : Nat → Nat} {w w' : World} (r : Rng B O w) (h : Ext w w') : Rng B O w' := r.upd (Upd.of_ext (S := fun _ => False) (fun h => h) O h)
theorem Upd.below {B : Nat} {S : Nat → Prop} {O O' : Nat → Nat} {w w' : World} (h : Upd S O w O' w') (r : Rng B O w) : Below B w w' := by
  refine ⟨h.os, h.tape, h.output, h.size, fun b hb => h.blk b (Nat.lt_of_lt_of_le hb r.le) ?_⟩
  have : O b = 0 := Classical.byContradiction fun hne => by have := (r.rng b hne).1; omega
  rw [this]; exact h.z
/-- Nothing had an owner when the call began: so all that was there is there. -/
theorem Upd.ext {S : Nat → Prop} {O' : Nat → Nat} {w w' : World} (h : Upd S (fun _ => 0) w O' w') : Ext w w' := h.below (Rng.start w)

theorem Upd.drew {S : Nat → Prop} {O O' : Nat → Nat} {w w' : World} (h : Upd S O w O' w') : Upd S O w O' w'.drew := ⟨h.os, h.tape, h.output, h.size, h.blk, h.tag, h.new, h.z⟩
theorem Upd.ofDrew {S : Nat → Prop} {O O' : Nat → Nat} {w w' : World} (h : Upd S O w.drew O' w') : Upd S O w O' w' := ⟨h.os, h.tape, h.output, h.size, h.blk, h.tag, h.new, h.z⟩
theorem Rng.drew {B : Nat} {O : Nat → Nat} {w : World} (h : Rng B O w) : Rng B O w.drew := ⟨h.le, h.rng⟩
def own1 (O : Nat → Nat) (b i : Nat) : Nat → Nat := fun k => if k = b then i else O k
theorem own1_at (O : Nat → Nat) (b i : Nat) : own1 O b i b = i := if_pos rfl

theorem Upd.alloc {S : Nat → Prop} (hz : ¬ S 0) {B : Nat} {O : Nat → Nat} {w : World} (r : Rng B O w) (o : Obj) (i : Nat) : Upd S O w (own1 O w.heap.size i) (w.alloc o) := by
  refine ⟨rfl, rfl, rfl, by simp, fun b hb _ => RowKit.Below.heap_alloc _ _ _ hb, fun b hb => ?_, fun b hb => ?_, hz⟩
  · unfold own1; rw [if_neg]; have := (r.rng b hb).2; omega
  · unfold own1 at hb
    split at hb
    · rename_i h; subst h; exact .inr ⟨Nat.le_refl _, by simp⟩
    · exact .inl hb

/-! What an owner holds. -/
structure RowO (O : Nat → Nat) (w : World) (i : Nat) (E : TypeId) (sz : Nat) (v : Value) (n : Nat) (xs : List Value) : Prop where
  row : w.ownsRow 0 E sz v n xs
  tag : ∀ g, v.ownBlock = some g → O g = i

theorem heap_lt {w : World} {g : Nat} {o : Obj} (h : w.heap[g]? = some o) : g < w.heap.size := (Array.getElem?_eq_some_iff.1 h).1

theorem RowO.upd {S : Nat → Prop} {O O' : Nat → Nat} {w w' : World} {i : Nat} {E : TypeId} {sz : Nat} {v : Value} {n : Nat} {xs : List Value} (h : RowO O w i E sz v n xs) (u : Upd S O w O' w') (hi : i ≠ 0) (hS : ¬ S i) : RowO O' w' i E sz v n xs := by
  refine ⟨⟨h.row.1, ?_⟩, fun g hg => ?_⟩
  · rcases h.row.2 with h1 | ⟨g, cap, cur, hv, hg, hh, rest⟩
    · exact .inl h1
    · refine .inr ⟨g, cap, cur, hv, hg, ?_, rest⟩
      rw [u.blk g (heap_lt hh) (by rw [h.tag g (by rw [hv]; rfl)]; exact hS)]
      exact hh
  · have := h.tag g hg
    rw [u.tag g (by rw [this]; exact hi), this]

theorem RowO.drew {O : Nat → Nat} {w : World} {i : Nat} {E : TypeId} {sz : Nat} {v : Value} {n : Nat} {xs : List Value} (h : RowO O w i E sz v n xs) : RowO O w.drew i E sz v n xs := ⟨h.row, h.tag⟩
theorem RowO.nil (O : Nat → Nat) (w : World) (i : Nat) (E : TypeId) (sz : Nat) : RowO O w i E sz (.slice none 0 0) 0 [] := ⟨World.ownsRow_nil _ _ _ _, fun g hg => by simp [Value.ownBlock] at hg⟩

/-- A block of cells of one owner. -/
structure BlkO (O : Nat → Nat) (w : World) (i b : Nat) (cs : Array Value) (E : TypeId) : Prop where
  blk : w.heap[b]? = some (.cells cs E (0, 0))
  tag : O b = i

theorem BlkO.upd {S : Nat → Prop} {O O' : Nat → Nat} {w w' : World} {i b : Nat} {cs : Array Value} {E : TypeId} (h : BlkO O w i b cs E) (u : Upd S O w O' w') (hi : i ≠ 0) (hS : ¬ S i) : BlkO O' w' i b cs E :=
  ⟨by rw [u.blk b (heap_lt h.blk) (by rw [h.tag]; exact hS)]; exact h.blk, by rw [u.tag b (by rw [h.tag]; exact hi), h.tag]⟩
theorem BlkO.drew {O : Nat → Nat} {w : World} {i b : Nat} {cs : Array Value} {E : TypeId} (h : BlkO O w i b cs E) : BlkO O w.drew i b cs E := ⟨h.blk, h.tag⟩
theorem BlkO.new (O : Nat → Nat) (w : World) (i : Nat) (cs : Array Value) (E : TypeId) : BlkO (own1 O w.heap.size i) (w.alloc (.cells cs E)) i w.heap.size cs E :=
  ⟨heap_alloc_new w _, own1_at _ _ _⟩
theorem BlkO.cell {O : Nat → Nat} {w : World} {i b : Nat} {cs : Array Value} {E : TypeId} (h : BlkO O w i b cs E) (j : Nat) {u : Value} (hu : cs[j]? = some u) : w.cell? ⟨b, j, none⟩ = some u := by
  rw [cell_of_row w b j cs E (0, 0) h.blk]; exact hu

/-- A store into an owner's block. -/
theorem BlkO.set {O : Nat → Nat} {w : World} {i b : Nat} {cs : Array Value} {E : TypeId} (h : BlkO O w i b cs E) (j : Nat) (u : Value) : BlkO O (w.setCell ⟨b, j, none⟩ u) i b (cs.setIfInBounds j u) E := by
  refine ⟨?_, h.tag⟩
  simp only [World.setCell, Array.getElem?_modify, if_pos]
  rw [h.blk]; simp
theorem Upd.set {S : Nat → Prop} (hz : ¬ S 0) {O : Nat → Nat} {w : World} {i b j : Nat} {u : Value} (ht : O b = i) (hS : S i) : Upd S O w O (w.setCell ⟨b, j, none⟩ u) :=
  ⟨rfl, rfl, rfl, by simp [World.setCell], fun k _ hn => RowKit.Below.heap_setCell _ _ _ _ (fun e => hn (by subst e; rw [ht]; exact hS)), fun _ _ => rfl, fun _ h => .inl h, hz⟩

/-! Rows of an element type, told as lists. -/
def RowT {α : Type} (enc : α → List Value) (E : TypeId) (sz : Nat) (O : Nat → Nat) (w : World) (i : Nat) (v : Value) (l : List α) : Prop := RowO O w i E sz v l.length (l.flatMap enc) ∧ ∀ x ∈ l, (enc x).length = sz

theorem flatMap_get {α : Type} {enc : α → List Value} {sz : Nat} : ∀ (l : List α), (∀ x ∈ l, (enc x).length = sz) → ∀ i (h : i < l.length) j u, (enc l[i])[j]? = some u → (l.flatMap enc)[i * sz + j]? = some u
  | x :: l, hz, 0, _, j, u, hu => by
    have hl := hz x (by simp)
    have hj : j < (enc x).length := (List.getElem?_eq_some_iff.1 (by simpa using hu)).1
    simp only [List.flatMap_cons, Nat.zero_mul, Nat.zero_add]
    rw [List.getElem?_append_left hj]; simpa using hu
  | x :: l, hz, i + 1, h, j, u, hu => by
    have hl := hz x (by simp)
    simp only [List.flatMap_cons]
    rw [show (i + 1) * sz + j = (enc x).length + (i * sz + j) from by rw [hl, Nat.add_mul]; omega, List.getElem?_append_right (by omega), show (enc x).length + (i * sz + j) - (enc x).length = i * sz + j from by omega]
    exact flatMap_get l (fun y hy => hz y (by simp [hy])) i (by simpa using h) j u (by simpa using hu)

theorem RowT.sl {α : Type} {enc : α → List Value} {E : TypeId} {sz : Nat} {O : Nat → Nat} {w : World} {i : Nat} {v : Value} {l : List α} (h : RowT enc E sz O w i v l) : Sl enc sz w v l := by
  obtain ⟨⟨⟨hl, hr⟩, _⟩, hz⟩ := h
  rcases hr with ⟨rfl, h0⟩ | ⟨g, cap, cur, rfl, _, hg, hnc, hcm, hcs, ht⟩
  · have : l = [] := List.eq_nil_of_length_eq_zero h0
    subst this
    exact ⟨⟨none, 0, rfl, Nat.le_refl _, by omega, fun h => absurd rfl h⟩, fun i hi => absurd hi (by simp)⟩
  · refine ⟨⟨_, cap, rfl, hnc, by simpa [maxLen] using hcm, fun _ => ⟨g, 0, rfl⟩⟩, fun i hi j u hu => ?_⟩
    have := flatMap_get l hz i hi j u hu
    rw [← ht, List.getElem?_take] at this
    split at this
    · have ha : ((adr (.slice (some ⟨g, 0, none⟩) l.length cap) sz i).add j) = ⟨g, i * sz + j, none⟩ := by
        simp only [adr, Addr.add]; split <;> simp_all
      rw [ha, cell_of_row w g _ cur E (0, 0) hg]
      simpa using this
    · cases this
theorem RowT.upd {α : Type} {enc : α → List Value} {S : Nat → Prop} {O O' : Nat → Nat} {w w' : World} {i : Nat} {E : TypeId} {sz : Nat} {v : Value} {l : List α} (h : RowT enc E sz O w i v l) (u : Upd S O w O' w') (hi : i ≠ 0) (hS : ¬ S i) : RowT enc E sz O' w' i v l :=
  ⟨h.1.upd u hi hS, h.2⟩
theorem RowT.drew {α : Type} {enc : α → List Value} {O : Nat → Nat} {w : World} {i : Nat} {E : TypeId} {sz : Nat} {v : Value} {l : List α} (h : RowT enc E sz O w i v l) : RowT enc E sz O w.drew i v l := ⟨h.1.drew, h.2⟩
theorem RowT.nil {α : Type} (enc : α → List Value) (E : TypeId) (sz : Nat) (O : Nat → Nat) (w : World) (i : Nat) : RowT enc E sz O w i (.slice none 0 0) [] := ⟨RowO.nil _ _ _ _ _, by simp⟩

theorem RowO.one {O : Nat → Nat} {w : World} {i : Nat} {E : TypeId} {sz : Nat} {v : Value} {n : Nat} {xs : List Value} (h : RowO O w i E sz v n xs) : v.oneCell' = true := by
  rcases h.row.2 with ⟨rfl, _⟩ | ⟨g, cap, cur, rfl, _⟩ <;> rfl
theorem RowT.one {α : Type} {enc : α → List Value} {O : Nat → Nat} {w : World} {i : Nat} {E : TypeId} {sz : Nat} {v : Value} {l : List α} (h : RowT enc E sz O w i v l) : v.oneCell' = true := h.1.one

/-- An element of one cell of an owner's row is written. -/
theorem RowT.put {α : Type} {val : α → Value} {O : Nat → Nat} {w : World} {i : Nat} {E : TypeId} {v : Value} {l : List α} (h : RowT (fun x => [val x]) E 1 O w i v l) {n : Nat} (hn : n < l.length) (x : α) :
    w.cell? (adr v 1 n) = some (val (l[n])) ∧ w.frozen? (adr v 1 n) = false ∧ RowT (fun x => [val x]) E 1 O (w.setCell (adr v 1 n) (val x)) i v (l.set n x) ∧ O (adr v 1 n).block = i := by
  have hcell := h.sl.cells n hn 0 (val l[n]) rfl
  rw [adr_add0] at hcell
  refine ⟨hcell, ?_⟩
  obtain ⟨⟨⟨hl, hr⟩, htag⟩, hz⟩ := h
  rcases hr with ⟨rfl, h0⟩ | ⟨g, cap, cur, rfl, hb0, hg, hnc, hcm, hcs, ht⟩
  · omega
  · have ha : adr (.slice (some ⟨g, 0, none⟩) l.length cap) 1 n = ⟨g, n, none⟩ := by simp [adr]
    rw [ha]
    have hfm : ∀ l : List α, (l.flatMap fun x => [val x]) = l.map val := fun l => by induction l <;> simp_all
    refine ⟨by simp [World.frozen?, hg], ⟨⟨⟨by rw [hfm]; simp, .inr ⟨g, cap, cur.setIfInBounds n (val x), by simp, hb0, ?_, by simpa using hnc, hcm, by simpa using hcs, ?_⟩⟩, by simpa using htag⟩, by simp⟩, htag g rfl⟩
    · simp only [World.setCell, Array.getElem?_modify, if_pos]; rw [hg]; simp
    · simp only [Nat.mul_one, List.length_set, Array.toList_setIfInBounds] at ht ⊢
      rw [hfm] at ht ⊢
      rw [List.take_set, ht, List.map_set]
/-! Append. -/
/-- What the rules want to know of an element type. -/
structure Elem (P : Program) (T E : TypeId) (sz bytes : Nat) : Prop where
  ht : P.underlying T = some (.slice E)
  info : (P.info? E).map (fun i => (i.zero.map (·.cells.size), i.size, i.bytes)) = some (some sz, sz, bytes)
  pos : 0 < sz

theorem Elem.parts {P : Program} {T E : TypeId} {sz bytes : Nat} (h : Elem P T E sz bytes) : ∃ i z, P.info? E = some i ∧ i.zero = some z ∧ i.size = sz ∧ i.bytes = bytes ∧ z.cells.size = sz := by
  have := h.info
  cases hi : P.info? E with
  | none => rw [hi] at this; simp at this
  | some i =>
    rw [hi] at this
    simp only [Option.map_some, Option.some.injEq, Prod.mk.injEq] at this
    obtain ⟨h1, h2, h3⟩ := this
    cases hz : i.zero with
    | none => rw [hz] at h1; simp at h1
    | some z => rw [hz] at h1; simp at h1; exact ⟨i, z, rfl, hz, h2, h3, h1⟩

theorem run_append_tag {P : Program} {w : World} {T ty E : TypeId} {sz bytes : Nat} (he : Elem P T E sz bytes) {B : Nat} {O : Nat → Nat} (r : Rng B O w) {i : Nat}
    {v : Value} {n : Nat} {xs : List Value} (hown : RowO O w i E sz v n xs)
    (a : Addr) (m c : Nat) (news : List Value) (hl : news.length = m * sz) (hnews : ∀ j u, news[j]? = some u → w.cell? (a.add j) = some u) (h1 : ∀ u ∈ news, u.oneCell' = true)
    (hbytes : (n + m) * bytes ≤ 140737488355328) (h63 : n + m ≤ 9223372036854775807) (hi0 : i ≠ 0) :
    ∃ v' w' O', (Builtin.append_ #[T, T] ty #[v, .slice (some a) m c]).run P w = .ok v' w' ∧ RowO O' w' i E sz v' (n + m) (xs ++ news) ∧ Upd (fun k => k = i) O w O' w' := by
  obtain ⟨inf, z, hi, hz, hsz, hby, hzs⟩ := he.parts
  have ht := he.ht
  subst hsz; subst hby
  have hlen : (xs ++ news).length = (n + m) * inf.size := by rw [List.length_append, hown.row.1, hl, Nat.add_mul]
  have hz0 : ¬ (0 = i) := fun h => hi0 h.symm
  have grown : ∀ (old : Nat), old < n + m →
      RowO (own1 O w.heap.size i) (w.drew.alloc (.cells (xs.toArray ++ news.toArray ++ Builtin.zeroCells z.cells (grownCap w (n + m) old E - (n + m))) E)) i E inf.size
        (.slice (some ⟨w.heap.size, 0, none⟩) (n + m) (grownCap w (n + m) old E)) (n + m) (xs ++ news) ∧
      Upd (fun k => k = i) O w (own1 O w.heap.size i) (w.drew.alloc (.cells (xs.toArray ++ news.toArray ++ Builtin.zeroCells z.cells (grownCap w (n + m) old E - (n + m))) E)) := by
    intro old ho
    have hge := grownCap_ge w (n + m) old E
    have hcm : grownCap w (n + m) old E ≤ maxLen := grownCap_le_maxLen w (n + m) old E (by simpa [maxLen] using h63)
    refine ⟨⟨⟨hlen, .inr ⟨w.heap.size, _, _, rfl, Nat.zero_le _, heap_alloc_new w.drew _, hge, hcm, ?_, ?_⟩⟩, ?_⟩, ?_⟩
    · simp only [Array.size_append, List.size_toArray, size_zeroCells, hzs, hown.row.1, hl, ← Nat.add_mul]
      congr 1
      omega
    · simp only [Array.toList_append, List.append_assoc]
      rw [← List.append_assoc, ← hlen]
      exact List.take_left
    · intro g hg; simp [Value.ownBlock] at hg; subst hg; exact own1_at _ _ _
    · have u := Upd.alloc (S := fun k => k = i) (w := w.drew) hz0 (B := B) ⟨r.le, r.rng⟩ (.cells (xs.toArray ++ news.toArray ++ Builtin.zeroCells z.cells (grownCap w (n + m) old E - (n + m))) E) i
      exact ⟨u.os, u.tape, u.output, u.size, u.blk, u.tag, u.new, u.z⟩
  rcases hown.row.2 with ⟨rfl, rfl⟩ | ⟨g, cap, cur, rfl, hbg, hg, hnc, hcm, hcs, htake⟩
  · have hx : xs = [] := List.eq_nil_of_length_eq_zero (by simpa using hown.row.1)
    subst hx
    by_cases hm : m = 0
    · subst hm
      have hn : news = [] := List.eq_nil_of_length_eq_zero (by simpa using hl)
      subst hn
      refine ⟨.slice none 0 0, w, O, ?_, RowO.nil _ _ _ _ _, Upd.refl hz0 _ _⟩
      simp [Builtin.append_, run_underlying ht, sizeOf, typeInfo, hi, Builtin.lenOf, Builtin.firstCells, loadCells, loadCellsFrom]
    · have hr := run_append_nil (P := P) w T ty E inf z ht hi hz a m c news hl hnews (by omega) (by omega) (by have hb := hbytes; simp only [Nat.zero_add] at hb; omega)
      have hgr := grown 0 (by omega)
      simp only [Nat.zero_add, List.nil_append, Array.empty_append] at hgr ⊢
      exact ⟨_, _, _, hr, hgr.1, hgr.2⟩
  · have htag : O g = i := hown.tag g rfl
    by_cases hroom : n + m ≤ cap
    · have hfit : n * inf.size + news.length ≤ cur.size := by rw [hl, hcs, ← Nat.add_mul]; exact Nat.mul_le_mul_right _ hroom
      have hr := run_append_room (P := P) w T ty E inf ht hi g n cap cur hg a m c news hl hnews h1 hroom hfit
      refine ⟨_, _, O, hr, ⟨⟨hlen, .inr ⟨g, cap, _, rfl, hbg, setRow_heap w g cur _ E _ hg, hroom, hcm, ?_, ?_⟩⟩, fun g' hg' => hown.tag g' hg'⟩, ⟨rfl, rfl, rfl, by simp, fun k _ hk => setRow_other w g k _ (fun e => hk (by subst e; exact htag)), fun _ _ => rfl, fun _ h => .inl h, hz0⟩⟩
      · simp only [List.size_toArray, List.length_append, List.length_take, List.length_drop, Array.length_toList]
        omega
      · rw [htake, ← hlen]
        exact List.take_left
    · have holds : ∀ j u, xs[j]? = some u → w.cell? ((⟨g, 0, none⟩ : Addr).add j) = some u := hown.row.cells (g := g) rfl
      have hr := run_append_grow (P := P) w T ty E inf z ht hi hz ⟨g, 0, none⟩ n cap xs hown.row.1 holds a m c news hl hnews (by omega) (by omega) (growslice_fits (by omega) hbytes)
      have hgr := grown cap (by omega)
      exact ⟨_, _, _, hr, hgr.1, hgr.2⟩

theorem foldl_set (f : Array Value → Value × Nat → Array Value) (hf : ∀ cs c j, f cs (c, j) = cs.setIfInBounds (0 + j) c) : ∀ (l : List Value) (k : Nat) (cs : Array Value), k + l.length ≤ cs.size →
    (l.zipIdx k).foldl f cs = (cs.toList.take k ++ l ++ cs.toList.drop (k + l.length)).toArray
  | [], k, cs, _ => by simp
  | u :: l, k, cs, h => by
    simp only [List.length_cons] at h
    simp only [List.zipIdx_cons, List.foldl_cons]
    rw [foldl_set f hf l (k + 1) _ (by rw [hf]; simp; omega), hf]
    simp only [Nat.zero_add, Array.toList_setIfInBounds]
    have hk : k < cs.toList.length := by simp; omega
    congr 1
    rw [show k + 1 + l.length = k + (u :: l).length from by simp; omega]
    have h1 : (cs.toList.set k u).take (k + 1) = cs.toList.take k ++ [u] := by
      rw [List.take_succ_eq_append_getElem (by simpa using hk)]
      simp [List.take_set_of_le]
    have h2 : (cs.toList.set k u).drop (k + (u :: l).length) = cs.toList.drop (k + (u :: l).length) := by
      rw [List.drop_set_of_lt (by simp)]
    rw [h1, h2]; simp

theorem fill_one {sz : Nat} {cells : Array Value} {v : Value} (h1 : v.cells.size = sz) (h2 : cells.size = sz) : Instr.fill (fun i => some (i * sz, sz)) cells [(0, v)] = some v.cells := by
  simp only [Instr.fill, Nat.zero_mul, h1, h2]
  simp only [Nat.zero_add, ne_eq, not_true_eq_false, decide_false, gt_iff_lt, Nat.lt_irrefl, Bool.or_self, Bool.false_eq_true, if_false]
  have := foldl_set (fun cs (x : Value × Nat) => cs.setIfInBounds (0 + x.2) x.1) (fun _ _ _ => rfl) v.cells.toList 0 cells (by simp; omega)
  simp only [Nat.zero_add] at this
  rw [← Array.foldl_toList, Array.toList_zipIdx, this]
  simp only [List.take_zero, List.nil_append]
  rw [List.drop_eq_nil_of_le (by simp; omega)]
  simp

section
variable {P : Program} {N : Nat} {ops : Array Oper} {Q : Exit → Act → World → Prop} {rest : List Oper} {st : St} {w : World}
variable {t t' : TypeId} {p p' : String} {e e' : Array Edge} {d d' : Nat} {x y z : Operand}

/-- 'append(s, x)'. -/
theorem WL.push {T E : TypeId} {sz bytes : Nat} (he : Elem P T E sz bytes) {α : Type} {enc : α → List Value} {B : Nat} {O : Nat → Nat} {i : Nat} {v : Value} {l : List α} (hr : RowT enc E sz O w i v l) (r : Rng B O w) (u : α) {xv : Value}
    (hv : ∀ c, ev ((d, c) :: st) y = some v) (hx : ev st x = some xv) (hxv : xv.cells.toList = enc u) (hul : (enc u).length = sz) (hu1 : ∀ c ∈ enc u, c.oneCell' = true)
    (hb : (l.length + 1) * bytes ≤ 140737488355328) (h63 : l.length + 1 ≤ 9223372036854775807) (hi0 : i ≠ 0) (hs : sz ≤ 16777216) (hd : Nat.blt d N = true) (hd' : Nat.blt d' N = true)
    (h : ∀ v' w' O', RowT enc E sz O' w' i v' (l ++ [u]) → Upd (fun k => k = i) O w O' w' → Rng B O' w' → WL P N ops Q rest ((d', v') :: (d, .slice (some ⟨w.heap.size, 0, none⟩) 1 1) :: st) w') :
    WL P N ops Q (⟨some d, .buildSlice T 1 #[(0, x)], t, p, e, none⟩ :: ⟨some d', .call ⟨.builtin .append, #[y, .tmp d], #[T, T]⟩, t', p', e', none⟩ :: rest) st w := by
  obtain ⟨inf, z, hi, hz, hsz, hby, hzs⟩ := he.parts
  have hcs : xv.cells.size = sz := by rw [← hul, ← hxv]; simp
  have hpos := he.pos
  refine WL.val (v := .slice (some ⟨w.heap.size, 0, none⟩) 1 1) (w' := w.alloc (.cells xv.cells E)) hd (fun a ha => ?_) ?_
  · have := run_buildSlice (P := P) w T E 1 #[(0, xv)] xv.cells inf z he.ht hi hz (by rw [hsz]; omega) (by rw [hsz]; omega) (by
      rw [hsz]
      exact fill_one hcs (by simp))
    simp only [execOp, List.map_toArray, List.map_cons, List.map_nil, ha.ev hx, Sem.run_bind, this, Result.andThen_ok]
    rfl
  · have hz0 : ¬ (fun k => k = i) 0 := fun h => hi0 h.symm
    have hE := Ext.alloc w (.cells xv.cells E)
    have r1 := r.ext hE
    have hr1 : RowT enc E sz O (w.alloc (.cells xv.cells E)) i v l := hr.upd (Upd.of_ext (S := fun _ => False) (fun h => h) O hE) hi0 (fun h => h)
    obtain ⟨v', w', O', hrun, hrow, hupd⟩ := run_append_tag (P := P) (ty := t') he r1 hr1.1 ⟨w.heap.size, 0, none⟩ 1 1 (enc u) (by omega) (fun j c hc => by
      rw [show ((⟨w.heap.size, 0, none⟩ : Addr).add j) = ⟨w.heap.size, j, none⟩ from by simp only [Addr.add]; split <;> simp_all, cell_of_row _ _ j xv.cells E (0, 0) (heap_alloc_new w _)]
      rw [← hxv] at hc; simpa using hc) hu1 hb h63 hi0
    refine WL.val (v := v') (w' := w') hd' (fun a ha => ?_) ?_
    · simp only [execOp, resolve, invoke, builtin, Sem.run_bind, Sem.run_pure, Result.andThen_ok, List.map_toArray, List.map_cons, List.map_nil, ha.ev (hv _), ha.ev (x := .tmp d) (v := .slice (some ⟨w.heap.size, 0, none⟩) 1 1) (by simp [ev, sget]), hrun]
    · have hU : Upd (fun k => k = i) O w O' w' := Upd.trans (Upd.of_ext hz0 O hE) hupd
      refine h v' w' O' ⟨by simpa using hrow, ?_⟩ hU (r.upd hU)
      intro c hc
      rcases List.mem_append.1 hc with hc | hc
      · exact hr.2 c hc
      · rw [List.mem_singleton.1 hc]; exact hul

/-- A store of one cell into an owner's block. -/
theorem WL.storeBlk {T : TypeId} {O : Nat → Nat} {i b j : Nat} {cs : Array Value} {E : TypeId} {u c : Value} (hb : BlkO O w i b cs E) (hj : cs[j]? = some c) (hT : (sizeOf T).run P w = .ok 1 w) (h1 : u.oneCell' = true)
    {q : Addr} (hx : ev st x = some (.pointer (some q))) (hq : q = ⟨b, j, none⟩) (hy : ev st y = some u)
    (h : WL P N ops Q rest st (w.setCell ⟨b, j, none⟩ u)) : WL P N ops Q (⟨none, .store T x y, t, p, e, none⟩ :: rest) st w :=
  WL.unit (fun a ha => by
    subst hq
    have hc := hb.cell j hj
    have hf : w.frozen? ⟨b, j, none⟩ = false := by simp [World.frozen?, hb.blk]
    simp only [execOp, ha.ev hx, ha.ev hy]
    cases u <;> simp [Value.oneCell'] at h1 <;> simp [Instr.storeAt, Instr.sureAddr, storeVar, hT, Value.cells, storeCells, store, Sem.run, hc, hf, Addr.add]) h

/-- A store of an element of one cell into an owner's row. -/
theorem WL.storeAt {T : TypeId} {α : Type} {val : α → Value} {O : Nat → Nat} {i : Nat} {E : TypeId} {v : Value} {l : List α} (hr : RowT (fun x => [val x]) E 1 O w i v l) (n : Nat) (hn : n < l.length) (u : α) (hT : (sizeOf T).run P w = .ok 1 w) (h1 : (val u).oneCell' = true) (hi0 : i ≠ 0)
    {q : Addr} {uv : Value} (hx : ev st x = some (.pointer (some q))) (hq : q = adr v 1 n) (hy : ev st y = some uv) (hu : uv = val u)
    (h : ∀ w', RowT (fun x => [val x]) E 1 O w' i v (l.set n u) → Upd (fun j => j = i) O w O w' → WL P N ops Q rest st w') : WL P N ops Q (⟨none, .store T x y, t, p, e, none⟩ :: rest) st w := by
  subst hq; subst hu
  obtain ⟨hc, hf, hr', ht⟩ := hr.put hn u
  refine WL.unit (w' := w.setCell (adr v 1 n) (val u)) (fun a ha => ?_) (h _ hr' ?_)
  · simp only [execOp, ha.ev hx, ha.ev hy]
    generalize val u = uv at *
    cases uv <;> simp [Value.oneCell'] at h1 <;> simp [Instr.storeAt, Instr.sureAddr, storeVar, hT, Value.cells, storeCells, store, Sem.run, hc, hf, Addr.add]
  · refine ⟨rfl, rfl, rfl, by simp [World.setCell], fun k _ hn => RowKit.Below.heap_setCell _ _ _ _ (fun e => hn (by rw [e]; exact ht)), fun _ _ => rfl, fun _ h => .inl h, fun h => hi0 h.symm⟩
end
end Go.VL
