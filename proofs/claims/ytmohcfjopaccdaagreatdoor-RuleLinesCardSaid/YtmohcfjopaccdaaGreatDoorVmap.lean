/- Maps that a call makes, for the small calculus: a map reads as a list of pairs, in the order in which keys came. Nothing here speaks of a particular program. -/
import Derived.Test.YtmohcfjopaccdaaGreatDoorVm
namespace Go.VL

section
variable {κ ν : Type} {kv : κ → Value} {vv : ν → Value}
structure MapO {κ ν : Type} (kv : κ → Value) (vv : ν → Value) (O : Nat → Nat) (w : World) (i r : Nat) (l : List (κ × ν)) : Prop where
  blk : ∃ es clock, w.heap[r]? = some (.map es clock) ∧ es.toList.map (fun e => (e.key, e.val)) = l.map fun p => (kv p.1, vv p.2)
  tag : O r = i

theorem MapO.upd {S : Nat → Prop} {O O' : Nat → Nat} {w w' : World} {i r : Nat} {l : List (κ × ν)} (h : MapO kv vv O w i r l) (u : Upd S O w O' w') (hi : i ≠ 0) (hS : ¬ S i) : MapO kv vv O' w' i r l := by
  obtain ⟨es, c, h1, h2⟩ := h.blk
  exact ⟨⟨es, c, by rw [u.blk r (heap_lt h1) (by rw [h.tag]; exact hS)]; exact h1, h2⟩, by rw [u.tag r (by rw [h.tag]; exact hi), h.tag]⟩
theorem MapO.new (O : Nat → Nat) (w : World) (i : Nat) : MapO kv vv (own1 O w.heap.size i) (w.alloc (.map #[] 0)) i w.heap.size [] := ⟨⟨#[], 0, heap_alloc_new w _, by simp⟩, own1_at _ _ _⟩

end
section
variable {κ ν : Type} [DecidableEq κ]
def alook : List (κ × ν) → κ → Option ν
  | [], _ => none
  | (a, x) :: r, k => if a = k then some x else alook r k
def aput : List (κ × ν) → κ → ν → List (κ × ν)
  | [], k, x => [(k, x)]
  | (a, y) :: r, k, x => if a = k then (k, x) :: r else (a, y) :: aput r k x
def aidx : List (κ × ν) → κ → Option Nat
  | [], _ => none
  | (a, _) :: r, k => if a = k then some 0 else (aidx r k).map (· + 1)

theorem alook_aput (l : List (κ × ν)) (k k' : κ) (x : ν) : alook (aput l k x) k' = if k = k' then some x else alook l k' := by
  induction l with
  | nil => simp [aput, alook]
  | cons p r ih =>
    obtain ⟨a, y⟩ := p
    simp only [aput]
    by_cases h : a = k
    · subst h
      simp only [if_pos, alook]
      by_cases h2 : a = k' <;> simp [h2]
    · simp only [if_neg h, alook]
      by_cases h2 : a = k'
      · subst h2; simp only [if_true]; rw [if_neg (fun e => h e.symm)]
      · simp [h2, ih]

/-- What the rules want of a type of keys. -/
structure KeyL (P : Program) (K : TypeId) (kv : κ → Value) : Prop where
  check : ∀ b n k w, (Instr.checkKey b (n + 1) K (kv k)).run P w = .ok () w
  find : ∀ k (es : List MapEntry) (ks : List κ) w, es.map (·.key) = ks.map kv → (Instr.findKey K (kv k) es).run P w = .ok ((ks.findIdx? (· = k)).bind fun i => (es[i]?).map fun e => (i, e.val)) w
  same : ∀ k, Instr.sameBits 10000 (kv k) (kv k) = true

theorem KeyL.int {P : Program} {K : TypeId} {q : IntKind} (hK : P.underlying K = some (.int q)) : KeyL P K (fun n : Int => Value.int q n) := by
  refine ⟨fun b n k w => ?_, fun k es ks w h => ?_, fun k => ?_⟩
  · simp [Instr.checkKey, run_underlying hK]
  · have key : ∀ (es : List MapEntry) (ks : List Int) (j : Nat), es.map (·.key) = ks.map (fun n => Value.int q n) →
        Instr.findNow (.int q) (.int q k) es j = some ((ks.findIdx? (· = k)).bind fun i => (es[i]?).map fun e => (j + i, e.val)) := by
      intro es
      induction es with
      | nil => intro ks j h; cases ks with
        | nil => simp [Instr.findNow]
        | cons a r => simp at h
      | cons e es ih =>
        intro ks j h
        cases ks with
        | nil => simp at h
        | cons a r =>
          simp only [List.map_cons, List.cons.injEq] at h
          simp only [Instr.findNow, h.1, Instr.sameNow, if_true]
          by_cases hk : k = a
          · subst hk; simp [List.findIdx?_cons]
          · have : (k == a) = false := by simpa using hk
            rw [this]
            simp only
            rw [ih r (j + 1) h.2]
            simp only [List.findIdx?_cons, decide_eq_true_eq]
            rw [if_neg (fun e => hk e.symm)]
            cases hf : List.findIdx? (fun x => decide (x = k)) r with
            | none => simp
            | some i => simp [Nat.add_assoc, Nat.add_comm 1]
    have := key es ks 0 h
    simp only [Nat.zero_add] at this
    simp [Instr.findKey, run_underlying hK, this]
  · simp [Instr.sameBits]
theorem ba_beq (a b : ByteArray) : (a == b) = decide (a = b) := by
  cases a with | mk a => cases b with | mk b =>
  show (a == b) = _
  by_cases h : a = b
  · subst h; simp
  · have : (a == b) = false := by simpa using h
    rw [this]; symm; simpa using h
theorem KeyL.str {P : Program} {K : TypeId} (hK : P.underlying K = some .string) : KeyL P K Value.string := by
  refine ⟨fun b n k w => ?_, fun k es ks w h => ?_, fun k => ?_⟩
  · simp [Instr.checkKey, run_underlying hK]
  · have key : ∀ (es : List MapEntry) (ks : List ByteArray) (j : Nat), es.map (·.key) = ks.map Value.string →
        Instr.findNow .string (.string k) es j = some ((ks.findIdx? (· = k)).bind fun i => (es[i]?).map fun e => (j + i, e.val)) := by
      intro es
      induction es with
      | nil => intro ks j h; cases ks with
        | nil => simp [Instr.findNow]
        | cons a r => simp at h
      | cons e es ih =>
        intro ks j h
        cases ks with
        | nil => simp at h
        | cons a r =>
          simp only [List.map_cons, List.cons.injEq] at h
          simp only [Instr.findNow, h.1, Instr.sameNow, ba_beq]
          by_cases hk : k = a
          · subst hk; simp [List.findIdx?_cons]
          · have : decide (k = a) = false := by simpa using hk
            rw [this]
            simp only
            rw [ih r (j + 1) h.2]
            simp only [List.findIdx?_cons, decide_eq_true_eq]
            rw [if_neg (fun e => hk e.symm)]
            cases hf : List.findIdx? (fun x => decide (x = k)) r with
            | none => simp
            | some i => simp [Nat.add_assoc, Nat.add_comm 1]
    have := key es ks 0 h
    simp only [Nat.zero_add] at this
    simp [Instr.findKey, run_underlying hK, this]
  · simp [Instr.sameBits, ba_beq]

variable {kv : κ → Value} {vv : ν → Value}
theorem aidx_spec : ∀ (l : List (κ × ν)) (k : κ), (l.map (·.1)).findIdx? (· = k) = aidx l k
  | [], k => rfl
  | (a, x) :: r, k => by
    simp only [List.map_cons, List.findIdx?_cons, aidx, decide_eq_true_eq]
    by_cases h : a = k
    · simp [h]
    · simp only [if_neg h]; rw [aidx_spec r k]

theorem alook_idx : ∀ (l : List (κ × ν)) (k : κ), alook l k = (aidx l k).bind fun i => (l[i]?).map (·.2)
  | [], k => rfl
  | (a, x) :: r, k => by
    simp only [alook, aidx]
    by_cases h : a = k
    · simp [h]
    · simp only [if_neg h]
      rw [alook_idx r k]
      cases aidx r k <;> simp

theorem aput_idx : ∀ (l : List (κ × ν)) (k : κ) (x : ν), aput l k x = match aidx l k with
    | some i => l.set i (k, x)
    | none => l ++ [(k, x)]
  | [], k, x => rfl
  | (a, y) :: r, k, x => by
    simp only [aput, aidx]
    by_cases h : a = k
    · simp [h]
    · simp only [if_neg h]
      rw [aput_idx r k x]
      cases aidx r k <;> simp

theorem aidx_lt : ∀ {l : List (κ × ν)} {k : κ} {i : Nat}, aidx l k = some i → ∃ x, l[i]? = some (k, x)
  | (a, x) :: r, k, i, h => by
    simp only [aidx] at h
    by_cases hk : a = k
    · subst hk; simp at h; subst h; exact ⟨x, rfl⟩
    · rw [if_neg hk] at h
      cases hr : aidx r k with
      | none => rw [hr] at h; simp at h
      | some j =>
        rw [hr] at h; simp at h; subst h
        obtain ⟨y, hy⟩ := aidx_lt hr
        exact ⟨y, by simpa using hy⟩

def agot (vv : ν → Value) (z : Value) : Option ν → Value
  | some x => vv x
  | none => z
/-- With 'ok'. -/
def agotOk (vv : ν → Value) (z : Value) : Option ν → Value
  | some x => .tuple #[vv x, .bool true]
  | none => .tuple #[z, .bool false]

theorem run_lookup_map {P : Program} {T K E : TypeId} (hT : P.underlying T = some (.map K E)) (hK : KeyL P K kv) {O : Nat → Nat} {w : World} {i r : Nat} {l : List (κ × ν)} (h : MapO kv vv O w i r l) {z : Value} (hz : (zeroValue E).run P w = .ok z w) (k : κ) (ok : Bool) :
    (Instr.lookup T (.map (some r)) (kv k) ok).run P w = .ok (match alook l k with
      | some x => if ok then .tuple #[vv x, .bool true] else vv x
      | none => if ok then .tuple #[z, .bool false] else z) w := by
  obtain ⟨es, c, h1, h2⟩ := h.blk
  have hks : es.toList.map (·.key) = (l.map (·.1)).map kv := by
    have := congrArg (List.map Prod.fst) h2
    simpa [Function.comp_def] using this
  have hf := hK.find k es.toList (l.map (·.1)) w hks
  rw [aidx_spec] at hf
  have hc := hK.check es.isEmpty 9999 k w
  simp only [Instr.lookup, Sem.run_bind, run_underlying hT, Result.andThen_ok]
  simp only [getObj, Sem.run, h1, Sem.run_bind, Result.andThen_ok, Sem.run_pure, hc, hf]
  rw [alook_idx]
  cases hi : aidx l k with
  | none => simp [hz]
  | some j =>
    obtain ⟨x, hx⟩ := aidx_lt hi
    have hj : es.toList[j]?.map (fun e => (e.key, e.val)) = some (kv k, vv x) := by
      have := congrArg (fun l => l[j]?) h2
      simpa [hx] using this
    cases he : es.toList[j]? with
    | none => rw [he] at hj; simp at hj
    | some e' =>
      rw [he] at hj
      simp at hj
      simp only [Option.bind_some, he, hx, Option.map_some, hj.2]
      cases ok <;> simp

theorem run_mapUpdate_map {P : Program} {T K E : TypeId} (hT : P.underlying T = some (.map K E)) (hK : KeyL P K kv) {O : Nat → Nat} {w : World} {i r : Nat} {l : List (κ × ν)} (h : MapO kv vv O w i r l) (hi0 : i ≠ 0) (k : κ) (x : ν) :
    ∃ w', (Instr.mapUpdate T (.map (some r)) (kv k) (vv x)).run P w = .ok () w' ∧ MapO kv vv O w' i r (aput l k x) ∧ Upd (fun j => j = i) O w O w' := by
  obtain ⟨es, c, h1, h2⟩ := h.blk
  have hks : es.toList.map (·.key) = (l.map (·.1)).map kv := by
    have := congrArg (List.map Prod.fst) h2
    simpa [Function.comp_def] using this
  have hf := hK.find k es.toList (l.map (·.1)) w hks
  rw [aidx_spec] at hf
  have hc := hK.check false 9999 k w
  have hr := heap_lt h1
  have hlen : es.size = l.length := by have := congrArg List.length h2; simpa using this
  have fin : ∀ (es' : Array MapEntry) (c' : Nat), es'.toList.map (fun e => (e.key, e.val)) = (aput l k x).map (fun p => (kv p.1, vv p.2)) →
      MapO kv vv O { w with heap := w.heap.setIfInBounds r (.map es' c') } i r (aput l k x) ∧ Upd (fun j => j = i) O w O { w with heap := w.heap.setIfInBounds r (.map es' c') } := by
    intro es' c' he
    refine ⟨⟨⟨es', c', by simp [hr], he⟩, h.tag⟩, ⟨rfl, rfl, rfl, by simp, fun b _ hn => ?_, fun _ _ => rfl, fun _ h => .inl h, fun h => hi0 h.symm⟩⟩
    simp only [Array.getElem?_setIfInBounds]
    rw [if_neg (fun e => hn (by rw [← e]; exact h.tag))]
  have hrun : (Instr.mapUpdate T (.map (some r)) (kv k) (vv x)).run P w = ((match ((aidx l k).bind fun i => (es.toList[i]?).map fun e => (i, e.val)) with
      | some (i, _) => do
        let key ← Instr.keyThatStays (((es[i]?).map (·.key)).getD (kv k)) (kv k)
        setObj r (.map (es.modify i fun e => { e with key, val := vv x }) c)
      | none => setObj r (.map (es.push { key := kv k, val := vv x, born := c }) (c + 1)) : Sem Unit)).run P w := by
    simp only [Instr.mapUpdate, Sem.run_bind, run_underlying hT, Result.andThen_ok]
    simp only [getObj, Sem.run, h1, Sem.run_bind, Result.andThen_ok, hc, hf]
    generalize ((aidx l k).bind fun i => Option.map (fun e => (i, e.val)) es.toList[i]?) = q
    cases q with
    | none => rfl
    | some p => rfl
  rw [hrun, aput_idx]
  cases hi : aidx l k with
  | none =>
    refine ⟨_, by simp only [Option.bind_none, setObj, Sem.run, h1]; rfl, ?_⟩
    have := fin (es.push { key := kv k, val := vv x, born := c }) (c + 1) (by rw [aput_idx, hi]; simp [h2])
    rw [aput_idx, hi] at this
    exact this
  | some j =>
    obtain ⟨y, hy⟩ := aidx_lt hi
    have hj : es.toList[j]?.map (fun e => (e.key, e.val)) = some (kv k, vv y) := by
      have := congrArg (fun l => l[j]?) h2
      simpa [hy] using this
    cases he : es.toList[j]? with
    | none => rw [he] at hj; simp at hj
    | some e' =>
      rw [he] at hj
      simp at hj
      have he2 : es[j]? = some e' := by simpa using he
      have hst : (Instr.keyThatStays (kv k) (kv k)) = pure (kv k) := by simp [Instr.keyThatStays, hK.same k]
      refine ⟨_, by simp only [Option.bind_some, he, Option.map_some, he2, hj.1, Option.getD_some, hst, Sem.run_bind, Sem.run_pure, Result.andThen_ok, setObj, Sem.run, h1]; rfl, ?_⟩
      have := fin (es.modify j fun e => { e with key := kv k, val := vv x }) c (by
        rw [aput_idx, hi]
        simp only [Array.toList_modify]
        apply List.ext_getElem?
        intro m
        have h2m := congrArg (fun l => l[m]?) h2
        simp only [List.getElem?_map] at h2m
        simp only [List.getElem?_map, List.getElem?_modify, List.getElem?_set]
        by_cases hm : j = m
        · subst hm
          have hl : j < l.length := (List.getElem?_eq_some_iff.1 hy).1
          simp [he, hl]
        · simp only [if_neg hm]
          simpa using h2m)
      rw [aput_idx, hi] at this
      exact this

section
variable {P : Program} {N : Nat} {ops : Array Oper} {Q : Exit → Act → World → Prop} {rest : List Oper} {st : St} {w : World}
variable {t : TypeId} {p : String} {e : Array Edge} {d : Nat} {x y z : Operand}
theorem WL.makeMap {T : TypeId} (hd : Nat.blt d N = true) (h : WL P N ops Q rest ((d, .map (some w.heap.size)) :: st) (w.alloc (.map #[] 0))) : WL P N ops Q (⟨some d, .makeMap T none, t, p, e, none⟩ :: rest) st w :=
  WL.val hd (fun a ha => by simp only [execOp, Option.map_none, Sem.run_bind]; rfl) h
theorem RV.lookup {T K E : TypeId} {O : Nat → Nat} {i r : Nat} {l : List (κ × ν)} (hm : MapO kv vv O w i r l) (hT : P.underlying T = some (.map K E)) (hK : KeyL P K kv) {z : Value} (hz : (zeroValue E).run P w = .ok z w)
    (k : κ) {kx u : Value} (hx : ev st x = some (.map (some r))) (hy : ev st y = some kx) (hk : kx = kv k) (hu : agot vv z (alook l k) = u) : RV P N (.lookup T x y false) t st w u :=
  fun a ha dst p e g => by
    subst hk; subst hu
    simp only [execOp, ha.ev hx, ha.ev hy, Sem.run_bind, run_lookup_map hT hK hm hz]
    cases alook l k <;> simp [agot]
theorem RV.lookupOk {T K E : TypeId} {O : Nat → Nat} {i r : Nat} {l : List (κ × ν)} (hm : MapO kv vv O w i r l) (hT : P.underlying T = some (.map K E)) (hK : KeyL P K kv) {z : Value} (hz : (zeroValue E).run P w = .ok z w)
    (k : κ) {kx u : Value} (hx : ev st x = some (.map (some r))) (hy : ev st y = some kx) (hk : kx = kv k) (hu : agotOk vv z (alook l k) = u) : RV P N (.lookup T x y true) t st w u :=
  fun a ha dst p e g => by
    subst hk; subst hu
    simp only [execOp, ha.ev hx, ha.ev hy, Sem.run_bind, run_lookup_map hT hK hm hz]
    cases alook l k <;> simp [agotOk]
theorem WL.mapUpdate {T K E : TypeId} {O : Nat → Nat} {i r : Nat} {l : List (κ × ν)} (hm : MapO kv vv O w i r l) (hT : P.underlying T = some (.map K E)) (hK : KeyL P K kv) (hi0 : i ≠ 0)
    (k : κ) (u : ν) {kx ux : Value} (hx : ev st x = some (.map (some r))) (hy : ev st y = some kx) (hz : ev st z = some ux) (hk : kx = kv k) (hu : ux = vv u)
    (h : ∀ w', MapO kv vv O w' i r (aput l k u) → Upd (fun j => j = i) O w O w' → WL P N ops Q rest st w') : WL P N ops Q (⟨none, .mapUpdate T x y z, t, p, e, none⟩ :: rest) st w := by
  subst hk; subst hu
  obtain ⟨w', h1, h2, h3⟩ := run_mapUpdate_map hT hK hm hi0 k u
  exact WL.unit (fun a ha => by simp only [execOp, ha.ev hx, ha.ev hy, ha.ev hz, Sem.run_bind, h1, Result.andThen_ok, Sem.run_pure]) (h w' h2 h3)
end
end
end Go.VL
