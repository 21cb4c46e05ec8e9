/- Chapter 12: what is packed is got again: plain words, no program in sight. -/
import Derived.Test.YtahdlfnjnjngaaaPackU
namespace Go.Proofs.Ytahdlfnjnjngaaa
open Go.VL Go.Proofs

theorem setAll_out (f : Ent → Int) (s : Nat) : ∀ (A : List Ent) (l : List Int), (∀ x ∈ A, x.1 < l.length) → (∀ x ∈ A, x.1 ≠ s) → nth (setAll f A l) s = nth l s
  | [], _, _, _ => rfl
  | x :: A, l, h, hs => by
    have := setAll_out f s A (l.set x.1 (f x)) (fun y hy => by simpa using h y (by simp [hy])) (fun y hy => hs y (by simp [hy]))
    simp only [setAll, List.foldl_cons] at this ⊢
    rw [this, nth_set (h x (by simp)), if_neg (fun e => hs x (by simp) e.symm)]
theorem setAll_in (f : Ent → Int) : ∀ (A : List Ent) (l : List Int), (A.map (·.1)).Nodup → (∀ x ∈ A, x.1 < l.length) → ∀ x ∈ A, nth (setAll f A l) x.1 = f x
  | [], _, _, _, x, hx => by simp at hx
  | y :: A, l, hn, h, x, hx => by
    simp only [List.map_cons, List.nodup_cons, List.mem_map] at hn
    have hl : ∀ z ∈ A, z.1 < (l.set y.1 (f y)).length := fun z hz => by simpa using h z (by simp [hz])
    rcases List.mem_cons.1 hx with rfl | hx
    · have := setAll_out f x.1 A (l.set x.1 (f x)) hl (fun z hz e => hn.1 ⟨z, hz, e⟩)
      simp only [setAll, List.foldl_cons] at this ⊢
      rw [this, nth_set (h x (by simp)), if_pos rfl]
    · have := setAll_in f A (l.set y.1 (f y)) hn.2 hl x hx
      simpa only [setAll, List.foldl_cons] using this

theorem nth_default {α : Type} [Inhabited α] {l : List α} {j : Nat} (h : l.length ≤ j) : nth l j = default := by simp [nth, List.getD_eq_getElem?_getD, List.getElem?_eq_none h]

theorem chkOf_row {A : List Ent} (hn : (A.map (·.1)).Nodup) {s r : Nat} (h : nth (chkOf A) s = r) (hs : s < endOf A) : ∃ x ∈ A, x.1 = s ∧ x.2.1 = r := by
  have h1 := setAll_nth A s (List.replicate (endOf A) (-1)) (by simpa using hs) (fun y hy => by simpa using lt_endOf hy)
  have h2 : nth (List.replicate (endOf A) (-1 : Int)) s = -1 := by rw [nth_eq (by simpa using hs)]; simp
  rw [h2] at h1
  have h3 := h1.1 (by rw [chkOf] at h; rw [h]; omega)
  simp only [ne_eq, not_true, or_false, List.any_eq_true] at h3
  obtain ⟨x, hx, he⟩ := h3
  have he : x.1 = s := by simpa using he
  refine ⟨x, hx, he, ?_⟩
  have h4 := setAll_in rowE A (List.replicate (endOf A) (-1)) hn (fun y hy => by simpa using lt_endOf hy) x hx
  rw [he] at h4
  rw [chkOf, h4] at h
  unfold rowE at h; omega

structure BInv (width : Int) (L : List (List Int)) (k : Nat) (A : List Ent) (q : PSt) : Prop where
  chk : q.check = chkOf A
  nxt : q.next = nxtOf A
  bl : q.base.length = k
  b0 : ∀ b ∈ q.base, 0 ≤ b
  us : q.usual = (L.take k).map usualM
  nd : (A.map (·.1)).Nodup
  mem : ∀ x : Ent, x ∈ A ↔ x.2.1 < k ∧ ∃ c, c < (nth L x.2.1).length ∧ nth (nth L x.2.1) c ≠ usualM (nth L x.2.1) ∧ x.1 = (nth q.base x.2.1).toNat + c ∧ x.2.2 = nth (nth L x.2.1) c

theorem mem_colsOf {row : List Int} {u : Int} {c : Nat} : c ∈ colsOf row u ↔ c < row.length ∧ nth row c ≠ u := by simp [colsOf, colsTo]

theorem binv (width : Int) (L : List (List Int)) : ∀ k, k ≤ L.length → ∃ A, BInv width L k A ((L.take k).foldl PSt.lay ⟨width, [], [], [], []⟩) := by
  intro k
  induction k with
  | zero => intro _; exact ⟨[], ⟨rfl, rfl, rfl, by simp, rfl, by simp, fun x => by simp⟩⟩
  | succ k ih =>
    intro hk
    obtain ⟨A, h⟩ := ih (by omega)
    rw [take_nth (by omega), List.foldl_append]
    generalize (L.take k).foldl PSt.lay ⟨width, [], [], [], []⟩ = q at *
    simp only [List.foldl_cons, List.foldl_nil]
    obtain ⟨e1, e2⟩ := lay_ents q A (nth L k) h.chk h.nxt
    obtain ⟨m1, m2, m3⟩ := lay_base q (nth L k)
    have hok := (baseOf_spec q.check (colsOf (nth L k) (usualM (nth L k)))).1
    rw [okBase, List.all_eq_true, h.chk] at hok
    rw [h.chk] at e1 e2 m1
    generalize hb : baseOf (chkOf A) (colsOf (nth L k) (usualM (nth L k))) = b at *
    rw [h.bl] at e1 e2
    have hbase : ∀ r, r < k → nth (q.base ++ [(b : Int)]) r = nth q.base r := fun r hr => by rw [nth_append, if_pos (by rw [h.bl]; exact hr)]
    have hbk : nth (q.base ++ [(b : Int)]) k = b := by rw [nth_append, h.bl, if_neg (Nat.lt_irrefl _), Nat.sub_self, nth_cons0]
    refine ⟨_, ⟨e1, e2, by rw [m1]; simp [h.bl], fun n hn => ?_, by rw [m2, h.us, take_nth (by omega)]; simp, ?_, fun x => ?_⟩⟩
    · rw [m1] at hn
      rcases List.mem_append.1 hn with h1 | h1
      · exact h.b0 n h1
      · simp only [List.mem_singleton] at h1; subst h1; omega
    · rw [List.map_append, List.nodup_append]
      refine ⟨h.nd, ?_, fun s hs s' hs' e => ?_⟩
      · simp only [rowEnts, List.map_map]
        rw [List.nodup_iff_pairwise_ne, List.pairwise_map]
        exact (colsOf_nodup (nth L k) (usualM (nth L k))).imp (fun {a c} hne e => hne (by simpa using e))
      · subst e
        simp only [rowEnts, List.map_map, List.mem_map, Function.comp_apply] at hs'
        obtain ⟨c, hc, rfl⟩ := hs'
        obtain ⟨y, hy, hye⟩ := List.mem_map.1 hs
        have h2 := hok c hc
        rw [free_taken, Bool.not_eq_true'] at h2
        have h3 := List.any_eq_false.1 h2 y hy
        exact h3 (by simp [hye])
    · rw [List.mem_append, h.mem, m1]
      constructor
      · rintro (⟨h1, c, h2, h3, h4, h5⟩ | h1)
        · exact ⟨by omega, c, h2, h3, by rw [hbase _ h1]; exact h4, h5⟩
        · simp only [rowEnts, List.mem_map] at h1
          obtain ⟨c, hc, rfl⟩ := h1
          obtain ⟨c1, c2⟩ := mem_colsOf.1 hc
          exact ⟨by dsimp only; omega, c, c1, c2, by dsimp only; rw [hbk]; simp, rfl⟩
      · rintro ⟨h1, c, h2, h3, h4, h5⟩
        by_cases hr : x.2.1 < k
        · exact .inl ⟨hr, c, h2, h3, by rw [hbase _ hr] at h4; exact h4, h5⟩
        · obtain ⟨x1, x2, x3⟩ := x
          dsimp only at h1 h2 h3 h4 h5 hr
          obtain rfl : x2 = k := by omega
          right
          rw [hbk] at h4
          simp only [rowEnts, List.mem_map]
          exact ⟨c, mem_colsOf.2 ⟨h2, h3⟩, by rw [h4, h5]; simp⟩

theorem nth_map {α β : Type} [Inhabited α] [Inhabited β] {f : α → β} {l : List α} {i : Nat} (h : i < l.length) : nth (l.map f) i = f (nth l i) := by
  rw [nth_eq (by simpa using h), nth_eq h]; simp

theorem getM_pack (width : Int) (L : List (List Int)) (r c : Nat) (hr : r < L.length) (hc : c < (nth L r).length) : getM (packM width L) r c = nth (nth L r) c := by
  obtain ⟨A, h⟩ := binv width L L.length (Nat.le_refl _)
  rw [List.take_length] at h
  have hq : L.foldl PSt.lay ⟨width, [], [], [], []⟩ = packM width L := rfl
  rw [hq] at h
  generalize packM width L = q at *
  have hus : nth q.usual r = usualM (nth L r) := by rw [h.us, List.take_length, nth_map hr]
  unfold getM
  rw [h.chk, h.nxt, chkOf_len, hus]
  by_cases hu : nth (nth L r) c = usualM (nth L r)
  · rw [if_neg, hu]
    rintro ⟨h1, h2⟩
    obtain ⟨x, hx, e1, e2⟩ := chkOf_row h.nd h2 h1
    obtain ⟨g1, c', g2, g3, g4, g5⟩ := (h.mem x).1 hx
    rw [e2] at g2 g3 g4
    have : c' = c := by omega
    subst this
    exact g3 hu
  · have hx : (((nth q.base r).toNat + c, r, nth (nth L r) c) : Ent) ∈ A := (h.mem _).2 ⟨by simpa using hr, c, hc, hu, rfl, rfl⟩
    have h1 := lt_endOf hx
    have h2 := setAll_in rowE A (List.replicate (endOf A) (-1)) h.nd (fun y hy => by simpa using lt_endOf hy) _ hx
    have h3 := setAll_in entE A (List.replicate (endOf A) 0) h.nd (fun y hy => by simpa using lt_endOf hy) _ hx
    dsimp only at h1
    rw [if_pos ⟨h1, h2⟩]
    exact h3

theorem list_nth {α : Type} [Inhabited α] {l l' : List α} (h : l.length = l'.length) (he : ∀ i, i < l.length → nth l i = nth l' i) : l = l' := by
  refine List.ext_getElem h fun i h1 h2 => ?_
  have := he i h1
  rwa [nth_eq h1, nth_eq h2] at this
theorem rowsM_pack (width : Int) (L : List (List Int)) (hbad : packBad width L = false) : rowsM (packM width L) = L := by
  obtain ⟨hw1, hw2, hL, hrows, hrw⟩ := packBad_false hbad
  obtain ⟨s1, s2, s3, s4, s5, _, _⟩ := packM_spec width L hrw
  have hlen : (rowsM (packM width L)).length = L.length := by simp [rowsM, s1]
  refine list_nth hlen fun r hr => ?_
  rw [hlen] at hr
  rw [rowsM, nth_map_range _ _ _ (by rw [s1]; simpa using hr)]
  have h1 := hrows _ (nth_mem hr)
  have hl2 : (rowM (packM width L) r).length = (nth L r).length := by simp [rowM, s5]; omega
  refine list_nth hl2 fun c hc => ?_
  rw [hl2] at hc
  rw [rowM, nth_map_int _ _ _ (by rw [s5]; omega)]
  exact getM_pack width L r c hr hc
end Go.Proofs.Ytahdlfnjnjngaaa
