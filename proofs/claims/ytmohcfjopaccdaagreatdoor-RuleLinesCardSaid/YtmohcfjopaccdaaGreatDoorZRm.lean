import Derived.Shelf.Sort.Plain
import Derived.Shelf.Slices.In.SortNone
import Derived.Ground.Names2Prog
import Derived.Shelf.Slices.CompactI
import Derived.Test.YtmohcfjopaccdaaGreatDoorProg
import Derived.Sort.OwnSortedInts
import Derived.Test.YtmohcfjopaccdaaGreatDoorRsB
import Derived.Test.YtmohcfjopaccdaaGreatDoorRuE
import Derived.Test.YtmohcfjopaccdaaGreatDoorExU
import Derived.Test.YtmohcfjopaccdaaGreatDoorRuM
import Derived.Test.YtmohcfjopaccdaaGreatDoorRsF0
section
/- slices.Sort and slices.Compact at []int: the contracts of the kit laid at this dump, in plain words (written by the kit's lay-shelf and lay-plain tools; tools/shelf_sort.py). -/
namespace Go.Proofs
open Go.Shelf
def Tryz.lays189_ren : Go.Shelf.Ren := ⟨fun | 189 => 58 | 125 => 87 | 257 => 86 | 128 => 113 | 129 => 114 | 294 => 104 | 295 => 105 | 296 => 106 | 297 => 107 | 298 => 108 | 299 => 109 | 216 => 110 | 300 => 111 | 301 => 112 | 328 => 126 | 329 => 127 | 330 => 128 | 331 => 129 | 332 => 130 | 215 => 131 | 343 => 138 | n => n, fun | 28 => 23 | 3 => 3 | 46 => 133 | 0 => 0 | 51 => 156 | 53 => 158 | 4 => 4 | 183 => 149 | 182 => 148 | 131 => 96 | 5 => 5 | 9 => 9 | 218 => 164 | 222 => 168 | 228 => 184 | 229 => 140 | n => n, fun | n => n⟩
theorem Tryz.lays189 : Go.Proofs.Lays.n189 Tryz.prog Tryz.lays189_ren := {
  mixed := by kernel_rfl
  f125 := Tryz.func87.trans (congrArg some (by kernel_rfl))
  f128 := Tryz.func113.trans (congrArg some (by kernel_rfl))
  f129 := Tryz.func114.trans (congrArg some (by kernel_rfl))
  f189 := Tryz.func58.trans (congrArg some (by kernel_rfl))
  f215 := Tryz.func131.trans (congrArg some (by kernel_rfl))
  f216 := Tryz.func110.trans (congrArg some (by kernel_rfl))
  f257 := Tryz.func86.trans (congrArg some (by kernel_rfl))
  f294 := Tryz.func104.trans (congrArg some (by kernel_rfl))
  f295 := Tryz.func105.trans (congrArg some (by kernel_rfl))
  f296 := Tryz.func106.trans (congrArg some (by kernel_rfl))
  f297 := Tryz.func107.trans (congrArg some (by kernel_rfl))
  f298 := Tryz.func108.trans (congrArg some (by kernel_rfl))
  f299 := Tryz.func109.trans (congrArg some (by kernel_rfl))
  f300 := Tryz.func111.trans (congrArg some (by kernel_rfl))
  f301 := Tryz.func112.trans (congrArg some (by kernel_rfl))
  f328 := Tryz.func126.trans (congrArg some (by kernel_rfl))
  f329 := Tryz.func127.trans (congrArg some (by kernel_rfl))
  f330 := Tryz.func128.trans (congrArg some (by kernel_rfl))
  f331 := Tryz.func129.trans (congrArg some (by kernel_rfl))
  f332 := Tryz.func130.trans (congrArg some (by kernel_rfl))
  f343 := Tryz.func138.trans (congrArg some (by kernel_rfl))
  t0 := Tryz.underlying0
  a0 := Tryz.isAgg0
  z0 := Tryz.sizeOf0
  v0 := Tryz.zeroValue0
  t3 := Tryz.underlying3
  a3 := Tryz.isAgg3
  z3 := Tryz.sizeOf3
  v3 := Tryz.zeroValue3
  t4 := Tryz.underlying4
  a4 := Tryz.isAgg4
  z4 := Tryz.sizeOf4
  v4 := Tryz.zeroValue4
  t5 := Tryz.underlying5
  a5 := Tryz.isAgg5
  z5 := Tryz.sizeOf5
  v5 := Tryz.zeroValue5
  t9 := Tryz.underlying9
  a9 := Tryz.isAgg9
  z9 := Tryz.sizeOf9
  v9 := Tryz.zeroValue9
  t28 := Tryz.underlying23
  a28 := Tryz.isAgg23
  z28 := Tryz.sizeOf23
  v28 := Tryz.zeroValue23
  t46 := Tryz.underlying133
  a46 := Tryz.isAgg133
  z46 := Tryz.sizeOf133
  v46 := Tryz.zeroValue133
  t51 := Tryz.underlying156
  a51 := Tryz.isAgg156
  z51 := Tryz.sizeOf156
  v51 := Tryz.zeroValue156
  t53 := Tryz.underlying158
  a53 := Tryz.isAgg158
  z53 := Tryz.sizeOf158
  v53 := Tryz.zeroValue158
  t131 := Tryz.underlying96
  a131 := Tryz.isAgg96
  z131 := Tryz.sizeOf96
  v131 := Tryz.zeroValue96
  t182 := Tryz.underlying148
  a182 := Tryz.isAgg148
  z182 := Tryz.sizeOf148
  v182 := Tryz.zeroValue148
  t183 := Tryz.underlying149
  a183 := Tryz.isAgg149
  z183 := Tryz.sizeOf149
  v183 := Tryz.zeroValue149
  t218 := Tryz.underlying164
  a218 := Tryz.isAgg164
  z218 := Tryz.sizeOf164
  v218 := Tryz.zeroValue164
  t222 := Tryz.underlying168
  a222 := Tryz.isAgg168
  z222 := Tryz.sizeOf168
  v222 := Tryz.zeroValue168
  t228 := Tryz.underlying184
  a228 := Tryz.isAgg184
  z228 := Tryz.sizeOf184
  v228 := Tryz.zeroValue184
  t229 := Tryz.underlying140
  a229 := Tryz.isAgg140
  z229 := Tryz.sizeOf140
  v229 := Tryz.zeroValue140 }
open Go.Sort Go.RowKit in
theorem Tryz.slices_Sort_int (blk off cap : Nat) (zs : List Int) (w : World) (hH : Holds (Value.int .i64) w blk off zs.toArray) (hblk : blk < w.heap.size) (hsz : zs.length < 4611686018427387904) :
    Calls Tryz.prog 58 #[.slice (some ⟨blk, off, none⟩) zs.length cap] w fun e w' =>
      e = .returned (.tuple #[]) ∧ ∃ n os, w' = grow (putRow (Value.int .i64) (Sort.ahead w n) blk off (zs.mergeSort fun x y => decide (x ≤ y)).toArray) os := Any.slices_Sort_int Tryz.lays189 blk off cap zs w hH hblk hsz
def Tryz.laysNm220_ren : Go.Shelf.Ren := ⟨fun | 20 => 59 | n => n, fun | 22 => 23 | 3 => 3 | 4 => 4 | 0 => 0 | n => n, fun | n => n⟩
theorem Tryz.laysNm220 : Go.Proofs.Lays2.n20 Tryz.prog Tryz.laysNm220_ren := {
  mixed := by kernel_rfl
  f20 := Tryz.func59.trans (congrArg some (by kernel_rfl))
  t0 := Tryz.underlying0
  a0 := Tryz.isAgg0
  z0 := Tryz.sizeOf0
  v0 := Tryz.zeroValue0
  t3 := Tryz.underlying3
  a3 := Tryz.isAgg3
  z3 := Tryz.sizeOf3
  v3 := Tryz.zeroValue3
  t4 := Tryz.underlying4
  a4 := Tryz.isAgg4
  z4 := Tryz.sizeOf4
  v4 := Tryz.zeroValue4
  t22 := Tryz.underlying23
  a22 := Tryz.isAgg23
  z22 := Tryz.sizeOf23
  v22 := Tryz.zeroValue23
  i3 := by kernel_rfl }
open Go.RowKit Go.Lib Go.Sort in
theorem Tryz.slices_Compact_int (blk off cap : Nat) (zs : List Int) (w : World) (hH : Holds (Value.int .i64) w blk off zs.toArray) (hsz : zs.length ≤ 9223372036854775807) (hcap : zs.length ≤ cap) :
    Calls Tryz.prog 59 #[.slice (some ⟨blk, off, none⟩) zs.length cap] w fun e w' => e = .returned (.slice (some ⟨blk, off, none⟩) (Lib.compact zs).length cap) ∧ ∃ q, w' = putRow (Value.int .i64) (Sort.ahead w q) blk off (Lib.compact zs ++ List.replicate (zs.length - (Lib.compact zs).length) 0).toArray := Any.slices_Compact_int Tryz.laysNm220 blk off cap zs w hH hsz hcap
open Go.RowKit Go.Lib Go.Sort in
theorem Tryz.slices_Compact_int_empty (a : Option Addr) (cap : Nat) (w : World) :
    Calls Tryz.prog 59 #[.slice a 0 cap] w fun e w' => e = .returned (.slice a 0 cap) ∧ w' = w := Any.slices_Compact_int_empty Tryz.laysNm220 a cap w
open Go.RowKit Go.Sort in
theorem Tryz.slices_Sort_int_none (p : Option Addr) (cap : Nat) (w : World) :
    Calls Tryz.prog 58 #[.slice p 0 cap] w fun e w' => e = .returned (.tuple #[]) ∧ w' = w := Any.slices_Sort_int_none Tryz.lays189 p cap w
end Go.Proofs
end
section
/- slices.Sort and slices.Compact at rows of integers that someone owns. -/
namespace Go.Proofs.YtmohcfjopaccdaaGreatDoor
open Go.VL Go.Proofs Go.Sort
set_option maxRecDepth 10000

def sortM (l : List Int) : List Int := l.mergeSort fun x y => decide (x ≤ y)
theorem sortM_len (l : List Int) : (sortM l).length = l.length := List.length_mergeSort ..
theorem flat_int (l : List Int) : (l.flatMap encI) = l.map (Value.int .i64) := by induction l <;> simp_all [encI]
theorem upd_row {O : Nat → Nat} {w : World} {i g n : Nat} {os : Array Obj} (d : Array Int) (hi : i ≠ 0) (ho : O g = i) : Upd (fun k => k = i) O w O (grow (putRow (Value.int .i64) (Sort.ahead w n) g 0 d) os) := by
  obtain ⟨h1, h2, h3, h4, h5⟩ := grownBy_sortedI (w := w) (g := g) (n := n) (os := os) d
  exact ⟨h1, h2, h3, h4, fun k hk hn => h5 k hk (fun e => hn (by rw [← ho]; congr 1; exact Option.some.inj e)), fun _ _ => rfl, fun _ h => .inl h, fun e => hi e.symm⟩
theorem sort_ret {B : Nat} {O : Nat → Nat} {i : Nat} {v : Value} {l : List Int} {w : World} (hR : Rng B O w) (hr : RowT encI 3 1 O w i v l) (hi : i ≠ 0) (hl : l.length ≤ 1000000) : Ret Tryz.prog 58 [v] w fun _ w' => RowT encI 3 1 O w' i v (sortM l) ∧ Upd (fun k => k = i) O w O w' ∧ Rng B O w' := by
  rcases hr.1.row.2 with ⟨rfl, h0⟩ | ⟨g, cap, cur, rfl, hb0, hg, hnc, hcm, hcs, ht⟩
  · obtain rfl : l = [] := List.eq_nil_of_length_eq_zero h0
    refine Calls.mono (Tryz.slices_Sort_int_none none 0 w) fun e w' ⟨he, hw⟩ => ?_
    subst he; subst hw
    exact ⟨by rw [List.eq_nil_of_length_eq_zero (sortM_len [])]; exact hr, Upd.refl (fun e => hi e.symm) _ _, hR⟩
  · have htag := hr.1.tag g rfl
    rw [flat_int] at ht
    have hH := holds_of_blockI (ss := l) hg (by simpa using ht)
    have hlt := heap_lt hg
    refine Calls.mono (Tryz.slices_Sort_int g 0 cap l w hH hlt (by omega)) fun e w' ⟨he, n, os, hw⟩ => ?_
    subst he; subst hw
    have hU := upd_row (w := w) (n := n) (os := os) (sortM l).toArray hi htag
    refine ⟨⟨⟨?_, fun g' hg' => by simp [Value.ownBlock] at hg'; subst hg'; exact htag⟩, fun _ _ => rfl⟩, hU, hR.upd hU⟩
    have := ownsRow_sortedI (w := w) (n := n) (os := os) (base := 0) (ss := l) (ts := sortM l) (sortM_len l) (Nat.zero_le _) hg hnc hcm hcs
    rw [flat_int, sortM_len]
    exact this
theorem compact_le (l : List Int) : (Lib.compact l).length ≤ l.length := by
  unfold Lib.compact Lib.compactUpTo
  rw [List.length_map]
  exact Nat.le_trans (List.length_filter_le _ _) (by simp)
theorem compact_ret {B : Nat} {O : Nat → Nat} {i : Nat} {v : Value} {l : List Int} {w : World} (hR : Rng B O w) (hr : RowT encI 3 1 O w i v l) (hi : i ≠ 0) (hl : l.length ≤ 1000000) : Ret Tryz.prog 59 [v] w fun u w' => RowT encI 3 1 O w' i u (Lib.compact l) ∧ Upd (fun k => k = i) O w O w' ∧ Rng B O w' := by
  rcases hr.1.row.2 with ⟨rfl, h0⟩ | ⟨g, cap, cur, rfl, hb0, hg, hnc, hcm, hcs, ht⟩
  · obtain rfl : l = [] := List.eq_nil_of_length_eq_zero h0
    refine Calls.mono (Tryz.slices_Compact_int_empty none 0 w) fun e w' ⟨he, hw⟩ => ?_
    subst he; subst hw
    exact ⟨hr, Upd.refl (fun e => hi e.symm) _ _, hR⟩
  · have htag := hr.1.tag g rfl
    rw [flat_int] at ht
    have hH := holds_of_blockI (ss := l) hg (by simpa using ht)
    have hle := compact_le l
    refine Calls.mono (Tryz.slices_Compact_int g 0 cap l w hH (by omega) hnc) fun e w' ⟨he, n, hw⟩ => ?_
    subst he
    obtain ⟨ts, hts⟩ : ∃ ts, ts = Lib.compact l ++ List.replicate (l.length - (Lib.compact l).length) 0 := ⟨_, rfl⟩
    rw [← hts] at hw
    have htl : ts.length = l.length := by rw [hts]; simp; omega
    have hU := upd_row (w := w) (n := n) (os := #[]) ts.toArray hi htag
    have hhs := heap_sortedI (n := n) (os := #[]) ts.toArray hg
    rw [grow_empty, ← hw] at hU hhs
    refine ⟨⟨⟨⟨by rw [flat_int]; simp, .inr ⟨g, cap, _, rfl, Nat.zero_le _, hhs, by omega, hcm, by simp [putCells]; omega, ?_⟩⟩, fun g' hg' => by simp [Value.ownBlock] at hg'; subst hg'; exact htag⟩, fun _ _ => rfl⟩, hU, hR.upd hU⟩
    have h1 := take_putCellsI cur ts (by omega)
    have h2 := congrArg (List.take (Lib.compact l).length) h1
    rw [List.take_take, Nat.min_eq_left (by omega)] at h2
    rw [flat_int, Nat.mul_one, h2, hts, List.map_append, List.take_append_of_le_length (by simp), List.take_of_length_le (by simp)]
end Go.Proofs.YtmohcfjopaccdaaGreatDoor
end
section
/- Package rule, walked: why a name can't be a macro's. -/
namespace Go.Proofs.YtmohcfjopaccdaaGreatDoor
open Go.VL Go.Proofs
set_option maxRecDepth 10000
abbrev mv (m : M3) : Value := .agg (encM m).toArray
/-- 'slices.IndexFunc[[]virgule/expr.Macro,virgule/expr.Macro]': the first place at which a function says yes; the function may make memory. -/
theorem indexFuncMacro_ret {F : FuncId} (hF : ∀ (args : Array Value) (w : World), (callFunc F args).run Tryz.prog w = .ok (.enter F args) w) (cs : Array Value) (l : List (M3)) (sv : Value) (q : Nat → Bool) (w : World) (h : Sl encM 4 w sv l)
    (hq : ∀ i, i < l.length → ∀ w', Ext w w' → Ret Tryz.prog F ([mv (nth l i)] ++ cs.toList) w' fun v w'' => v = .bool (q i) ∧ Ext w' w'') :
    Ret Tryz.prog 100 [sv, .func (.func F) #[] cs] w fun v w' => v = .int .i64 (firstN q l.length) ∧ Ext w w' := by
  have hl := h.len_le
  refine Ret.enter Tryz.func100 Tryz.ntmps100 rfl rfl ?_
  refine WC.seq ?_
  refine WC.region ?_
  refine WL.v (RV.assign rfl) rfl ?_
  refine WL.nil ?_
  refine QF.seqNext ?_
  refine WC.seq ?_
  refine WC.seq ?_
  refine WC.region ?_
  refine WL.v (RV.move rfl) rfl ?_
  refine WL.v (RV.len (by first | exact h) Tryz.underlying54 rfl) rfl ?_
  refine WL.v (RV.move rfl) rfl ?_
  refine WL.nil ?_
  refine QF.seqNext ?_
  refine WC.block ?_
  refine WC.loop (fun x : Nat × World => [(0, sv), (1, .func (.func F) #[] cs), (7, .int .i64 l.length), (8, .int .i64 x.1)]) (fun x : Nat × World => x.2) (fun x : Nat × World => x.1 ≤ l.length ∧ Ext w x.2 ∧ ∀ i, i < x.1 → q i = false) (fun x : Nat × World => l.length - x.1) (0, w) (⟨Nat.zero_le _, Ext.refl _, fun i hi => absurd hi (Nat.not_lt_zero i)⟩) ⟨rfl, rfl, rfl, rfl, trivial⟩ rfl ?_
  rintro ⟨k, w1⟩ ⟨hk, hE, hno⟩
  dsimp only at hk hE hno ⊢
  have h1 := h.ext hE
  refine WC.seq ?_
  refine WC.region ?_
  refine WL.v (RV.lss rfl rfl) rfl ?_
  refine WL.nil ?_
  refine QF.seqNext ?_
  refine WC.seq ?_
  refine WC.cond rfl ?_ ?_
  · intro hlt
    replace hlt : k < l.length := by have := of_decide_eq_true hlt; omega
    refine WC.skip ?_
    refine QF.seqNext ?_
    refine WC.seq ?_
    refine WC.block ?_
    refine WC.seq ?_
    refine WC.region ?_
    refine WL.v (RV.move rfl) rfl ?_
    refine WL.v (RV.assign rfl) rfl ?_
    refine WL.nil ?_
    refine QF.seqNext ?_
    refine WC.seq ?_
    refine WC.region ?_
    refine WL.v (RV.move rfl) rfl ?_
    refine WL.v (RV.move rfl) rfl ?_
    refine WL.v (RV.move rfl) rfl ?_
    refine WL.v (RV.indexAddr (by first | exact h1) Tryz.underlying54 (Tryz.sizeOf95 _) rfl rfl _ rfl (by omega)) rfl ?_
    refine WL.v (RV.loadAgg (us := encM (nth l k)) (fun j u hu => h1.cell hlt hu) (Tryz.isAgg95 _) (Tryz.sizeOf95 _) rfl) rfl ?_
    refine WL.callV rfl hF rfl (hq k hlt w1 hE) rfl ?_
    rintro v w2 ⟨rfl, hE2⟩
    refine WL.nil ?_
    refine QF.seqNext ?_
    refine WC.cond rfl ?_ ?_
    · intro hy
      refine WC.seq ?_
      refine WC.region ?_
      refine WL.v (RV.move rfl) rfl ?_
      refine WL.v (RV.assign rfl) rfl ?_
      refine WL.nil ?_
      refine QF.seqNext ?_
      refine WC.ret ?_
      refine QF.blockRet ?_
      refine QF.thenRet ?_
      refine QF.thenRet ?_
      refine QF.blockRet ?_
      refine QF.thenRet ?_
      refine QF.done1 rfl rfl (⟨by rw [firstN_yes hlt hy hno], hE.trans hE2⟩)
    · intro hy
      refine WC.skip ?_
      refine QF.blockNormal ?_
      refine QF.seqNext ?_
      refine WC.region ?_
      refine WL.v (RV.add rfl rfl (Fit.i64 (by omega))) rfl ?_
      refine WL.v (RV.move rfl) rfl ?_
      refine WL.nil ?_
      refine QF.next ((k + 1, w2)) (⟨hlt, hE.trans hE2, fun i hi => (Nat.lt_succ_iff_lt_or_eq.1 hi).elim (hno i) (fun e => by rw [e]; exact hy)⟩) (by omega) ⟨rfl, rfl, rfl, rfl, trivial⟩ rfl
  · intro hge
    replace hge : l.length ≤ k := by have := of_decide_eq_false hge; omega
    refine WC.exit ?_
    refine QF.thenExit ?_
    refine QF.thenExit ?_
    refine QF.blockHit ?_
    refine QF.seqNext ?_
    refine WC.seq ?_
    refine WC.region ?_
    refine WL.v (RV.assign rfl) rfl ?_
    refine WL.nil ?_
    refine QF.seqNext ?_
    refine WC.ret ?_
    refine QF.done1 rfl rfl (⟨by rw [firstN_no fun i hi => hno i (by omega)], hE⟩)
theorem containsFuncMacro_ret {F : FuncId} (hF : ∀ (args : Array Value) (w : World), (callFunc F args).run Tryz.prog w = .ok (.enter F args) w) (cs : Array Value) (l : List (M3)) (sv : Value) (q : Nat → Bool) (w : World) (h : Sl encM 4 w sv l)
    (hq : ∀ i, i < l.length → ∀ w', Ext w w' → Ret Tryz.prog F ([mv (nth l i)] ++ cs.toList) w' fun v w'' => v = .bool (q i) ∧ Ext w' w'') :
    Ret Tryz.prog 79 [sv, .func (.func F) #[] cs] w fun v w' => v = .bool (anyN q l.length) ∧ Ext w w' := by
  refine Ret.enter Tryz.func79 Tryz.ntmps79 rfl rfl ?_
  refine WC.seq ?_
  refine WC.region ?_
  refine WL.v (RV.assign rfl) rfl ?_
  refine WL.nil ?_
  refine QF.seqNext ?_
  refine WC.seq ?_
  refine WC.region ?_
  refine WL.v (RV.move rfl) rfl ?_
  refine WL.v (RV.move rfl) rfl ?_
  refine WL.call Tryz.call100 rfl (indexFuncMacro_ret hF cs l sv q w h hq) rfl ?_
  rintro v w1 ⟨rfl, hE⟩
  refine WL.v (RV.geq rfl rfl) rfl ?_
  refine WL.v (RV.assign rfl) rfl ?_
  refine WL.nil ?_
  refine QF.seqNext ?_
  refine WC.ret ?_
  refine QF.done1 rfl rfl (⟨by rw [firstN_any], hE⟩)

theorem taken1_ret (m : M3) (s : List UInt8) (sb : Nat) (w : World) (h : w.cell? ⟨sb, 0, none⟩ = some (.string (bs s))) : Ret Tryz.prog 80 [mv m, .pointer (some ⟨sb, 0, none⟩)] w fun v w' => v = .bool (m.1 == s) ∧ Ext w w' := by
  refine Ret.enter Tryz.func80 Tryz.ntmps80 rfl rfl ?_
  refine WC.seq ?_
  refine WC.region ?_
  refine WL.boxO (Rng.start w) 1 (by omega) rfl rfl ?_
  intro xb w1 O1 hx1 hU1 hR1 hE1
  refine WL.v (RV.assign rfl) rfl ?_
  refine WL.nil ?_
  refine QF.seqNext ?_
  refine WC.seq ?_
  refine WC.region ?_
  refine WL.v (RV.fieldAddr 0 Tryz.underlying95 rfl rfl (Tryz.sizeOf9 _) (by decide) rfl) rfl ?_
  refine WL.v (RV.load (by first | exact hx1.cell 0 rfl | exact hE1.cell h) (Tryz.isAgg9 _) rfl) rfl ?_
  refine WL.v (RV.load (by first | exact hx1.cell 0 rfl | exact hE1.cell h) (Tryz.isAgg9 _) rfl) rfl ?_
  refine WL.v (RV.eqlS rfl rfl) rfl ?_
  refine WL.v (RV.assign rfl) rfl ?_
  refine WL.nil ?_
  refine QF.seqNext ?_
  refine WC.ret ?_
  refine QF.done1 rfl rfl (⟨rfl, hE1⟩)
theorem containsStr_ret (l : List (List UInt8)) (s : List UInt8) (sv : Value) (w : World) (h : Sl encS 1 w sv l) : Ret Tryz.prog 78 [sv, .string (bs s)] w fun v w' => v = .bool (l.contains s) ∧ w' = w := by
  refine Ret.enter Tryz.func78 Tryz.ntmps78 rfl rfl ?_
  refine WC.seq ?_
  refine WC.region ?_
  refine WL.v (RV.assign rfl) rfl ?_
  refine WL.nil ?_
  refine QF.seqNext ?_
  refine WC.seq ?_
  refine WC.region ?_
  refine WL.v (RV.move rfl) rfl ?_
  refine WL.v (RV.move rfl) rfl ?_
  refine WL.call Tryz.call85 rfl (indexStr_ret l s sv w h) rfl ?_
  rintro v w9 ⟨rfl, hw9⟩
  rw [hw9]
  clear hw9 w9
  refine WL.v (RV.geq rfl rfl) rfl ?_
  refine WL.v (RV.assign rfl) rfl ?_
  refine WL.nil ?_
  refine QF.seqNext ?_
  refine WC.ret ?_
  refine QF.done1 rfl rfl (⟨congrArg Value.bool ?_, rfl⟩)
  unfold idxS
  cases hf : l.findIdx? (· == s) with
  | none =>
    have h1 := List.findIdx?_eq_none_iff.1 hf
    rw [decide_eq_false (by decide)]
    symm
    rw [Bool.eq_false_iff]
    intro hc
    have := h1 s (List.contains_iff_mem.1 hc)
    simp at this
  | some k =>
    obtain ⟨hk, h1, _⟩ := List.findIdx?_eq_some_iff_getElem.1 hf
    show decide ((0 : Int) ≤ ((k : Nat) : Int)) = _
    rw [decide_eq_true (by omega)]
    symm
    rw [List.contains_iff_mem, ← eq_of_beq h1]
    exact List.getElem_mem hk
def wordsL : List (List UInt8) := [[108, 101, 116], [105, 103, 110, 111, 114, 101], [107, 101, 101, 112], [97, 110, 121]]
def takenK (kn : Kn) (s : List UInt8) : Int := if ((numM s).isSome || wordsL.contains s) = true then 5 else if kn.any (fun m => m.1 == s) = true then 11 else 0
variable {kn : Kn}
theorem taken_ret (O : Nat → Nat) (w : World) (j jm rb : Nat) (s : LS) (q : List UInt8) (hk : Mac O w jm s.mc kn) (h : Rd6 O w j rb s) :
    Ret Tryz.prog 55 [.pointer (some ⟨rb, 0, none⟩), .string (bs q)] w fun v w' => v = .int .i64 (takenK kn q) ∧ Ext w w' := by
  obtain ⟨ms, hrow, hkl, hke⟩ := hk
  have hs0 := hrow.sl
  refine Ret.enter Tryz.func55 Tryz.ntmps55 rfl rfl ?_
  refine WC.seq ?_
  refine WC.region ?_
  refine WL.boxO (Rng.start w) 1 (by omega) rfl rfl ?_
  intro sb w1 O1 hx1 hU1 hR1 hE1
  have hc1 := hx1.cell 0 rfl
  refine WL.v (RV.assign rfl) rfl ?_
  refine WL.nil ?_
  refine QF.seqNext ?_
  refine WC.seq ?_
  refine WC.region ?_
  refine WL.v (RV.load (by first | exact hc1) (Tryz.isAgg9 _) rfl) rfl ?_
  refine WL.call Tryz.call57 rfl (number_ret q w1) rfl ?_
  rintro v w2 ⟨rfl, hE2⟩
  have hE02 := hE1.trans hE2
  refine WL.v (RV.move rfl) rfl ?_
  refine WL.v (RV.extract rfl rfl) rfl ?_
  refine WL.v (RV.extract rfl rfl) rfl ?_
  refine WL.v (RV.assign rfl) rfl ?_
  refine WL.v (RV.assign rfl) rfl ?_
  refine WL.nil ?_
  refine QF.seqNext ?_
  refine WC.seq ?_
  refine WC.block ?_
  refine WC.seq ?_
  refine WC.region ?_
  refine WL.v (RV.move rfl) rfl ?_
  refine WL.v (RV.move rfl) rfl ?_
  cases hn : (numM q).isSome with
  | true =>
    have hM : takenK kn q = 5 := by unfold takenK; rw [hn]; rfl
    rw [hM]
    refine WL.know (d := 14) rfl (b' := true) (rfl) ?_
    refine WL.off rfl rfl rfl ?_
    refine WL.off rfl rfl rfl ?_
    refine WL.off rfl rfl rfl ?_
    refine WL.v (RV.pickT rfl rfl) rfl ?_
    refine WL.v (RV.assign rfl) rfl ?_
    refine WL.nil ?_
    refine QF.seqNext ?_
    refine WC.condT rfl rfl ?_
    refine WC.seq ?_
    refine WC.region ?_
    refine WL.v (RV.assign rfl) rfl ?_
    refine WL.nil ?_
    refine QF.seqNext ?_
    refine WC.ret ?_
    refine QF.blockRet ?_
    refine QF.thenRet ?_
    refine QF.done1 rfl rfl (⟨rfl, hE02⟩)
  | false =>
    refine WL.know (d := 14) rfl (b' := false) (rfl) ?_
    refine WL.on rfl ?_
    refine WL.buildSl Tryz.underlying44 (Tryz.sizeOf9 _) (Tryz.zeroValue9 _) encS wordsL rfl rfl rfl rfl (by kernel_rfl) (by decide) rfl ?_
    intro sv w3 hs3 hE3
    have hE03 := hE02.trans hE3
    refine WL.on rfl ?_
    refine WL.v (RV.load (by first | exact (hE2.trans hE3).cell hc1) (Tryz.isAgg9 _) rfl) rfl ?_
    refine WL.on rfl ?_
    refine WL.call Tryz.call78 rfl (containsStr_ret wordsL q sv w3 hs3) rfl ?_
    rintro v w9 ⟨rfl, hw9⟩
    rw [hw9]
    clear hw9 w9
    refine WL.v (RV.pickF rfl rfl) rfl ?_
    refine WL.v (RV.assign rfl) rfl ?_
    refine WL.nil ?_
    refine QF.seqNext ?_
    cases hw : wordsL.contains q with
    | true =>
      have hM : takenK kn q = 5 := by unfold takenK; rw [hn, hw]; rfl
      rw [hM]
      refine WC.condT rfl (rfl) ?_
      refine WC.seq ?_
      refine WC.region ?_
      refine WL.v (RV.assign rfl) rfl ?_
      refine WL.nil ?_
      refine QF.seqNext ?_
      refine WC.ret ?_
      refine QF.blockRet ?_
      refine QF.thenRet ?_
      refine QF.done1 rfl rfl (⟨rfl, hE03⟩)
    | false =>
      refine WC.condF rfl (rfl) ?_
      have q9 := hE03.cell h.q9
      refine WC.seq ?_
      refine WC.region ?_
      refine WL.v (RV.move rfl) rfl ?_
      refine WL.v (RV.nilPtr rfl) rfl ?_
      refine WL.v (RV.fieldAddr 9 Tryz.underlying56 rfl rfl (Tryz.sizeOf54 _) (by decide) rfl) rfl ?_
      refine WL.v (RV.load (by first | exact q9) (Tryz.isAgg54 _) rfl) rfl ?_
      refine WL.v (RV.mkFunc rfl rfl) rfl ?_
      refine WL.call Tryz.call79 rfl (containsFuncMacro_ret Tryz.call80 #[.pointer (some ⟨sb, 0, none⟩)] ms s.mc (fun i => (nth ms i).1 == q) w3 (hs0.ext hE03) (fun i hi w' hE => taken1_ret (nth ms i) q sb w' (hE.cell ((hE2.trans hE3).cell hc1)))) rfl ?_
      rintro v w4 ⟨rfl, hE4⟩
      have hany : anyN (fun i => (nth ms i).1 == q) ms.length = kn.any (fun m => m.1 == q) := by
        rw [← hkl, ← anyN_list (l := kn) (p := fun m => m.1 == q)]
        exact anyN_congr fun i hi => by rw [(hke i (by omega)).1]
      rw [hany]
      refine WL.v (RV.assign rfl) rfl ?_
      refine WL.nil ?_
      refine QF.seqNext ?_
      cases ha : kn.any (fun m => m.1 == q) with
      | true =>
        have hM : takenK kn q = 11 := by unfold takenK; rw [hn, hw, ha]; rfl
        rw [hM]
        refine WC.condT rfl (rfl) ?_
        refine WC.seq ?_
        refine WC.region ?_
        refine WL.v (RV.assign rfl) rfl ?_
        refine WL.nil ?_
        refine QF.seqNext ?_
        refine WC.ret ?_
        refine QF.blockRet ?_
        refine QF.thenRet ?_
        refine QF.done1 rfl rfl (⟨rfl, hE03.trans hE4⟩)
      | false =>
        have hM : takenK kn q = 0 := by unfold takenK; rw [hn, hw, ha]; rfl
        rw [hM]
        refine WC.condF rfl (rfl) ?_
        refine WC.skip ?_
        refine QF.blockNormal ?_
        refine QF.seqNext ?_
        refine WC.seq ?_
        refine WC.region ?_
        refine WL.v (RV.assign rfl) rfl ?_
        refine WL.nil ?_
        refine QF.seqNext ?_
        refine WC.ret ?_
        refine QF.done1 rfl rfl (⟨rfl, hE03.trans hE4⟩)
end Go.Proofs.YtmohcfjopaccdaaGreatDoor
end
section
/- Package rule, walked: let. -/
namespace Go.Proofs.YtmohcfjopaccdaaGreatDoor
open Go.VL Go.Proofs
set_option maxRecDepth 10000
variable {kn : Kn}
theorem pl95 : Places Tryz.prog 95 #[(0, 1), (1, 3)] := ⟨_, Tryz.underlying95, fun w => by kernel_rfl⟩
inductive ML where
  | ok (m : List UInt8 × Nd)
  | bad (p : Nat) (e : Int)
def letX (nm r2 : List UInt8) : XR → ML
  | .ok t => .ok (nm, t)
  | .bad p e => .bad (r2.length - 1 - p) e
def letK (kn : Kn) (r : List UInt8) : ML :=
  if (skipB r).takeWhile letterB = [] then .bad (skipB r).length 4
  else if takenK kn ((skipB r).takeWhile letterB) ≠ 0 then .bad (skipB r).length (takenK kn ((skipB r).takeWhile letterB))
  else if (skipB ((skipB r).dropWhile letterB)).headD 0 = 61 then letX ((skipB r).takeWhile letterB) (skipB ((skipB r).dropWhile letterB)) (exprK kn (skipB ((skipB r).dropWhile letterB)).tail)
  else .bad (skipB ((skipB r).dropWhile letterB)).length 4
def PostM (O : Nat → Nat) (w : World) (jm : Nat) (m : Nat) (v : Value) (bad e : Int) (kn : Kn) : ML → Prop
  | .ok x => e = 0 ∧ Mac O w jm v (kn ++ [x])
  | .bad p e' => e = e' ∧ e' ≠ 0 ∧ bad = (m : Int) - (p : Int)
def atX : XR → Int
  | .ok _ => 0
  | .bad p _ => (p : Int)
def errX : XR → Int
  | .ok _ => 0
  | .bad _ e => e
theorem PostX.shape {O : Nat → Nat} {w : World} {v : Value} {M : XR} (h : PostX O w v M) : ∃ x : N3, v = .tuple #[nv x, .int .i64 (atX M), .int .i64 (errX M)] ∧ x.2.2.oneCell' = true ∧ ∀ t, M = .ok t → Nt O w t x := by
  cases M with
  | ok t => obtain ⟨x, rfl, hn⟩ := h; exact ⟨x, rfl, hn.one, fun t e => by cases e; exact hn⟩
  | bad p e => obtain ⟨rfl, _⟩ := h; exact ⟨(0, 0, .slice none 0 0), rfl, rfl, fun t e => by cases e⟩
theorem elM0 : Elem Tryz.prog 54 95 4 56 := elM
theorem encM_ones {m : M3} (h : m.2.2.2.oneCell' = true) : ∀ c ∈ encM m, c.oneCell' = true := fun c hc => by
  simp only [encM, List.mem_cons, List.not_mem_nil, or_false] at hc
  rcases hc with rfl | rfl | rfl | rfl
  · rfl
  · rfl
  · rfl
  · exact h
theorem Mac.snoc {O : Nat → Nat} {w : World} {i : Nat} {v : Value} {ms : List M3} {nm : List UInt8} {x : N3} {t : Nd} (hr : RowT encM 95 4 O w i v (ms ++ [(nm, x)])) (hl : kn.length = ms.length) (hk : ∀ q, q < ms.length → (nth kn q).1 = (nth ms q).1 ∧ Nt O w (nth kn q).2 (nth ms q).2) (hn : Nt O w t x) : Mac O w i v (kn ++ [(nm, t)]) := by
  refine ⟨_, hr, by simp [hl], fun q hq => ?_⟩
  simp only [List.length_append, List.length_singleton] at hq
  by_cases e : q < ms.length
  · rw [nth_eq (by simp; omega), nth_eq (by simp; omega), List.getElem_append_left (by omega), List.getElem_append_left e, ← nth_eq (by omega), ← nth_eq e]
    exact hk q e
  · obtain rfl : q = ms.length := by omega
    rw [nth_eq (by simp; omega), nth_eq (by simp), List.getElem_append_right (by omega), List.getElem_append_right (by omega)]
    simp [hl]
    exact hn
theorem let_ret (B : Nat) (O : Nat → Nat) (w : World) (j jm rb : Nat) (s : LS) (m : Nat) (r : List UInt8) (hR : Rng B O w) (hj : j ≠ 0) (hjm : jm ≠ 0) (hne : j ≠ jm) (hm : m ≤ s.l.length) (hl : s.l.length ≤ 100000) (hto : s.to = (m : Int)) (he : s.e = 0)
    (hr : r <:+ s.l.take m) (hp : s.pos = (m : Int) - (r.length : Int)) (hkl : kn.length ≤ 100000) (hmac : Mac O w jm s.mc kn) (h : Rd6 O w j rb s) :
    Ret Tryz.prog 40 [.pointer (some ⟨rb, 0, none⟩)] w fun _ w' => ∃ O' v pos bad e, Upd (fun k => k = j ∨ k = jm) O w O' w' ∧ Rng B O' w' ∧ Rd6 O' w' j rb {s with pos := pos, bad := bad, e := e, mc := v} ∧ PostM O' w' jm m v bad e kn (letK kn r) := by
  obtain ⟨T0, hT00, hT01⟩ := hR.bound
  obtain ⟨T, hT0, hjmT, hT⟩ : ∃ T, 0 < T ∧ jm < T ∧ ∀ b, O b < T := ⟨T0 + jm + 1, by omega, by omega, fun b => by have := hT01 b; omega⟩
  clear hT00 hT01 T0
  have hjT : j < T := by rw [← h.tag]; exact hT rb
  have hz2 : ¬ (fun q : Nat => q = j ∨ q = jm) 0 := fun e => by rcases e with e | e; exact hj e.symm; exact hjm e.symm
  have hz3 : ¬ (fun q : Nat => q = j ∨ q = jm ∨ T ≤ q) 0 := fun e => by rcases e with e | e | e; exact hj e.symm; exact hjm e.symm; omega
  have hpv : ∀ {O' : Nat → Nat} {w' : World}, Upd (fun q => q = j ∨ q = jm ∨ T ≤ q) O w O' w' → Upd (fun q => q = j ∨ q = jm) O w O w' := fun hU => hU.fgt (S' := fun q => q = j ∨ q = jm) (fun b hb => by rcases hb with hb | hb | hb; exact Or.inl hb; exact Or.inr hb; have := hT b; omega) hz2
  have hLl : (s.l.take m).length = m := by simp; omega
  refine Ret.enter Tryz.func40 Tryz.ntmps40 rfl rfl ?_
  refine WC.seq ?_
  refine WC.region ?_
  refine WL.v (RV.move rfl) rfl ?_
  refine WL.v (RV.nilPtr rfl) rfl ?_
  refine WL.v (RV.fieldAddr 0 Tryz.underlying56 rfl rfl (Tryz.sizeOf53 _) (by decide) rfl) rfl ?_
  refine WL.call Tryz.call38 rfl (rblanks_ret O w j rb s m r hj hm hl hto hr hp h) rfl ?_
  rintro v w1 ⟨rfl, hb1, hU1⟩
  have hs1 := (skipB_suf r).trans hr
  have hm1 := hmac.upd hU1 hjm (fun e => hne e.symm)
  have hR1 := hR.upd hU1
  refine WL.nil ?_
  refine QF.seqNext ?_
  refine WC.seq ?_
  refine WC.region ?_
  refine WL.v (RV.move rfl) rfl ?_
  refine WL.v (RV.nilPtr rfl) rfl ?_
  refine WL.v (RV.fieldAddr 0 Tryz.underlying56 rfl rfl (Tryz.sizeOf53 _) (by decide) rfl) rfl ?_
  refine WL.v (RV.fieldAddr 1 Tryz.underlying53 rfl rfl (Tryz.sizeOf3 _) (by decide) rfl) rfl ?_
  refine WL.v (RV.load (by first | exact hb1.q0 | exact hb1.q1 | exact hb1.q2 | exact hb1.q3 | exact hb1.q4 | exact hb1.q5 | exact hb1.q6 | exact hb1.q7 | exact hb1.q8 | exact hb1.q9 | exact hb1.q10 | exact hb1.q11) (Tryz.isAgg3 _) rfl) rfl ?_
  refine WL.v (RV.assign rfl) rfl ?_
  refine WL.nil ?_
  refine QF.seqNext ?_
  refine WC.seq ?_
  refine WC.region ?_
  refine WL.v (RV.move rfl) rfl ?_
  refine WL.v (RV.nilPtr rfl) rfl ?_
  refine WL.v (RV.fieldAddr 0 Tryz.underlying56 rfl rfl (Tryz.sizeOf53 _) (by decide) rfl) rfl ?_
  refine WL.call Tryz.call39 rfl (rname_ret O w1 j rb ({s with pos := (m : Int) - ((skipB r).length : Int)} : LS) m (skipB r) hj hm hl hto hs1 rfl hb1) rfl ?_
  rintro v w2 ⟨rfl, hb2, hU2⟩
  have hs2 := (List.dropWhile_suffix letterB).trans hs1
  have hm2 := hm1.upd hU2 hjm (fun e => hne e.symm)
  have hR2 := hR1.upd hU2
  have hUt2 := (hU1.trans hU2).mono (S' := fun q => q = j ∨ q = jm ∨ T ≤ q) (fun _ h => .inl h) hz3
  refine WL.v (RV.assign rfl) rfl ?_
  refine WL.nil ?_
  refine QF.seqNext ?_
  refine WC.seq ?_
  refine WC.seq ?_
  refine WC.region ?_
  refine WL.v (RV.move rfl) rfl ?_
  refine WL.v (RV.eqlS rfl rfl) rfl ?_
  refine WL.nil ?_
  refine QF.seqNext ?_
  by_cases hnm : (skipB r).takeWhile letterB = []
  · have hM : letK kn r = .bad (skipB r).length 4 := by unfold letK; rw [if_pos hnm]
    rw [hM]
    refine WC.condT rfl ((by rw [hnm]; rfl)) ?_
    refine WC.seq ?_
    refine WC.region ?_
    refine WL.v (RV.move rfl) rfl ?_
    refine WL.v (RV.nilPtr rfl) rfl ?_
    refine WL.v (RV.fieldAddr 0 Tryz.underlying56 rfl rfl (Tryz.sizeOf53 _) (by decide) rfl) rfl ?_
    refine WL.v (RV.move rfl) rfl ?_
    refine WL.call Tryz.call54 rfl (rfail_ret O w2 j rb ({s with pos := (m : Int) - (((skipB r).dropWhile letterB).length : Int)} : LS) ((m : Int) - ((skipB r).length : Int)) 4 hj he hb2) rfl ?_
    rintro u w3 ⟨hb3, hU3⟩
    refine WL.nil ?_
    refine QF.seqNext ?_
    refine WC.ret ?_
    refine QF.thenRet ?_
    exact QF.done0 rfl ⟨O, s.mc, _, _, _, hpv (hUt2.trans (hU3.mono (fun _ h => .inl h) hz3)), hR2.upd hU3, hb3, rfl, by decide, rfl⟩
  · skip
    refine WC.condF rfl ((by simpa using hnm)) ?_
    refine WC.skip ?_
    refine QF.seqNext ?_
    refine WC.seq ?_
    refine WC.seq ?_
    refine WC.region ?_
    refine WL.v (RV.move rfl) rfl ?_
    refine WL.v (RV.move rfl) rfl ?_
    refine WL.call Tryz.call55 rfl (taken_ret O w2 j jm rb ({s with pos := (m : Int) - (((skipB r).dropWhile letterB).length : Int)} : LS) ((skipB r).takeWhile letterB) hm2 hb2) rfl ?_
    rintro v w3 ⟨rfl, hE3⟩
    have hX3 : Upd (fun _ => False) O w2 O w3 := Upd.of_ext (fun h => h) O hE3
    have hb3 := hb2.upd hX3 hj (fun h => h)
    have hm3 := hm2.upd hX3 hjm (fun h => h)
    have hR3 := hR2.upd hX3
    have hUt3 := hUt2.trans (hX3.mono (fun _ h => h.elim) hz3)
    refine WL.v (RV.assign rfl) rfl ?_
    refine WL.nil ?_
    refine QF.seqNext ?_
    refine WC.seq ?_
    refine WC.region ?_
    refine WL.v (RV.move rfl) rfl ?_
    refine WL.v (RV.neq rfl rfl) rfl ?_
    refine WL.nil ?_
    refine QF.seqNext ?_
    by_cases htk : takenK kn ((skipB r).takeWhile letterB) = 0
    · skip
      refine WC.condF rfl ((by rw [htk]; rfl)) ?_
      have hMK : letK kn r = if (skipB ((skipB r).dropWhile letterB)).headD 0 = 61 then letX ((skipB r).takeWhile letterB) (skipB ((skipB r).dropWhile letterB)) (exprK kn (skipB ((skipB r).dropWhile letterB)).tail) else .bad (skipB ((skipB r).dropWhile letterB)).length 4 := by unfold letK; rw [if_neg hnm, if_neg (by rw [htk]; simp)]
      generalize (skipB r).takeWhile letterB = nm at *
      generalize (skipB r).dropWhile letterB = q at *
      have hs5 := (skipB_suf q).trans hs2
      have hbd := hb3.drew
      have hmd := hm3.upd (Upd.of_ext (S := fun _ => False) (fun h => h) O (Ext.refl w3).drew) hjm (fun h => h)
      have hRd := hR3.drew
      have hUd := hUt3.drew
      refine WC.skip ?_
      refine QF.seqNext ?_
      refine WC.seq ?_
      refine WC.seq ?_
      refine WC.draw (fun V => V.cell? ⟨rb, 0, none⟩ = some (.string (bs s.l))) 19 rfl (by kernel_rfl) ?_
      refine WH.take 0 rfl (by kernel_rfl) (by kernel_rfl) (by kernel_rfl) hbd.q0 (fun w1 hw1 => RV.move rfl) rfl ?_
      refine WH.take 1 rfl (by kernel_rfl) (by kernel_rfl) (by kernel_rfl) hbd.q0 (fun w1 hw1 => RV.nilPtr rfl) rfl ?_
      refine WH.take 2 rfl (by kernel_rfl) (by kernel_rfl) (by kernel_rfl) hbd.q0 (fun w1 hw1 => RV.fieldAddr 0 Tryz.underlying56 rfl rfl (Tryz.sizeOf53 _) (by decide) rfl) rfl ?_
      refine WH.one 3 (by kernel_rfl) rfl ?_
      refine WL.call Tryz.call38 rfl (rblanks_ret O w3.drew j rb ({s with pos := (m : Int) - (q.length : Int)} : LS) m q hj hm hl hto hs2 rfl hbd) rfl ?_
      rintro v w5 ⟨rfl, hb5, hU5⟩
      have hm5 := hmd.upd hU5 hjm (fun e => hne e.symm)
      have hR5 := hRd.upd hU5
      have hUt5 := hUd.trans (hU5.mono (fun _ h => .inl h) hz3)
      generalize skipB q = r2 at *
      have hr2l := hs5.length_le
      rw [hLl] at hr2l
      have hb5' : BlkO O w5 j rb ({s with pos := (m : Int) - (r2.length : Int)} : LS).cells 56 := hb5
      clear hb5
      have hb5 := hb5'
      refine WL.nil ?_
      refine QF.after (hb5.q0) ?_
      refine WH.take 4 rfl (by kernel_rfl) (by kernel_rfl) (by kernel_rfl) (hb5.q0) (fun w1 hw1 => RV.not rfl) rfl ?_
      refine WH.take 5 rfl (by kernel_rfl) (by kernel_rfl) (by kernel_rfl) (hb5.q0) (fun w1 hw1 => RV.move rfl) rfl ?_
      by_cases hr0 : r2.length = 0
      · have hrn : r2 = [] := List.eq_nil_of_length_eq_zero hr0
        have hM : letK kn r = .bad r2.length 4 := by rw [hMK, if_neg (by rw [hrn]; decide)]
        rw [hM]
        refine WH.know (d := 44) rfl (b' := true) ((by rw [decide_eq_false (by omega)]; rfl)) ?_
        have hbe := hb5.drew
        refine WH.takeOff 6 rfl rfl rfl (by kernel_rfl) (by kernel_rfl) (by kernel_rfl) (hb5.q0) rfl ?_
        refine WH.takeOff 7 rfl rfl rfl (by kernel_rfl) (by kernel_rfl) (by kernel_rfl) (hb5.q0) rfl ?_
        refine WH.takeOff 8 rfl rfl rfl (by kernel_rfl) (by kernel_rfl) (by kernel_rfl) (hb5.q0) rfl ?_
        refine WH.takeOff 9 rfl rfl rfl (by kernel_rfl) (by kernel_rfl) (by kernel_rfl) (hb5.q0) rfl ?_
        refine WH.takeOff 10 rfl rfl rfl (by kernel_rfl) (by kernel_rfl) (by kernel_rfl) (hb5.q0) rfl ?_
        refine WH.takeOff 11 rfl rfl rfl (by kernel_rfl) (by kernel_rfl) (by kernel_rfl) (hb5.q0) rfl ?_
        refine WH.takeOff 12 rfl rfl rfl (by kernel_rfl) (by kernel_rfl) (by kernel_rfl) (hb5.q0) rfl ?_
        refine WH.takeOff 13 rfl rfl rfl (by kernel_rfl) (by kernel_rfl) (by kernel_rfl) (hb5.q0) rfl ?_
        refine WH.takeOff 14 rfl rfl rfl (by kernel_rfl) (by kernel_rfl) (by kernel_rfl) (hb5.q0) rfl ?_
        refine WH.takeOff 15 rfl rfl rfl (by kernel_rfl) (by kernel_rfl) (by kernel_rfl) (hb5.q0) rfl ?_
        refine WH.takeOff 16 rfl rfl rfl (by kernel_rfl) (by kernel_rfl) (by kernel_rfl) (hb5.q0) rfl ?_
        refine WH.takeOff 17 rfl rfl rfl (by kernel_rfl) (by kernel_rfl) (by kernel_rfl) (hb5.q0) rfl ?_
        refine WH.take 18 rfl (by kernel_rfl) (by kernel_rfl) (by kernel_rfl) (hb5.q0) (fun w1 hw1 => RV.pickT rfl rfl) rfl ?_
        refine WH.done (by kernel_rfl) ?_
        refine QF.seqNext ?_
        refine WC.condT rfl rfl ?_
        refine WC.seq ?_
        refine WC.tail 8 rfl rfl (by kernel_rfl) (by kernel_rfl) ?_
        refine WS.v (RV.move rfl) rfl ?_
        refine WS.v (RV.nilPtr rfl) rfl ?_
        refine WS.v (RV.fieldAddr 0 Tryz.underlying56 rfl rfl (Tryz.sizeOf53 _) (by decide) rfl) rfl ?_
        refine WS.v (RV.move rfl) rfl ?_
        refine WS.v (RV.nilPtr rfl) rfl ?_
        refine WS.v (RV.fieldAddr 0 Tryz.underlying56 rfl rfl (Tryz.sizeOf53 _) (by decide) rfl) rfl ?_
        refine WS.v (RV.fieldAddr 1 Tryz.underlying53 rfl rfl (Tryz.sizeOf3 _) (by decide) rfl) rfl ?_
        refine WS.v (RV.load (by first | exact hbe.q0 | exact hbe.q1 | exact hbe.q2 | exact hbe.q3 | exact hbe.q4 | exact hbe.q5 | exact hbe.q6 | exact hbe.q7 | exact hbe.q8 | exact hbe.q9 | exact hbe.q10 | exact hbe.q11) (Tryz.isAgg3 _) rfl) rfl ?_
        refine WS.go ?_
        refine WL.call Tryz.call54 rfl (rfail_ret O w5.drew j rb ({s with pos := (m : Int) - (r2.length : Int)} : LS) ((m : Int) - (r2.length : Int)) 4 hj he hbe) rfl ?_
        rintro u w6 ⟨hb6, hU6⟩
        refine WL.nil ?_
        refine QF.seqNext ?_
        refine WC.ret ?_
        refine QF.thenRet ?_
        exact QF.done0 rfl ⟨O, s.mc, _, _, _, hpv ((hUt5.drew).trans (hU6.mono (fun _ h => .inl h) hz3)), hR5.drew.upd hU6, hb6, rfl, by decide, rfl⟩
      · have hrn : r2 ≠ [] := fun e => hr0 (by rw [e]; rfl)
        have hgh := take_get (head_get hs5 hrn)
        rw [hLl] at hgh
        refine WH.know (d := 44) rfl (b' := false) ((by rw [decide_eq_true (by omega)]; rfl)) ?_
        refine WH.takeOn 6 rfl rfl (by kernel_rfl) (by kernel_rfl) (by kernel_rfl) (hb5.q0) (fun w1 hw1 => RV.move rfl) rfl ?_
        refine WH.takeOn 7 rfl rfl (by kernel_rfl) (by kernel_rfl) (by kernel_rfl) (hb5.q0) (fun w1 hw1 => RV.nilPtr rfl) rfl ?_
        refine WH.takeOn 8 rfl rfl (by kernel_rfl) (by kernel_rfl) (by kernel_rfl) (hb5.q0) (fun w1 hw1 => RV.fieldAddr 0 Tryz.underlying56 rfl rfl (Tryz.sizeOf53 _) (by decide) rfl) rfl ?_
        refine WH.takeOn 9 rfl rfl (by kernel_rfl) (by kernel_rfl) (by kernel_rfl) (hb5.q0) (fun w1 hw1 => RV.fieldAddr 0 Tryz.underlying53 rfl rfl (Tryz.sizeOf9 _) (by decide) rfl) rfl ?_
        refine WH.takeOn 10 rfl rfl (by kernel_rfl) (by kernel_rfl) (by kernel_rfl) (hb5.q0) (fun w1 hw1 => RV.load (by first | exact hw1) (Tryz.isAgg9 _) rfl) rfl ?_
        refine WH.takeOn 11 rfl rfl (by kernel_rfl) (by kernel_rfl) (by kernel_rfl) (hb5.q0) (fun w1 hw1 => RV.move rfl) rfl ?_
        refine WH.takeOn 12 rfl rfl (by kernel_rfl) (by kernel_rfl) (by kernel_rfl) (hb5.q0) (fun w1 hw1 => RV.nilPtr rfl) rfl ?_
        refine WH.takeOn 13 rfl rfl (by kernel_rfl) (by kernel_rfl) (by kernel_rfl) (hb5.q0) (fun w1 hw1 => RV.fieldAddr 0 Tryz.underlying56 rfl rfl (Tryz.sizeOf53 _) (by decide) rfl) rfl ?_
        refine WH.takeOn 14 rfl rfl (by kernel_rfl) (by kernel_rfl) (by kernel_rfl) (hb5.q0) (fun w1 hw1 => RV.fieldAddr 1 Tryz.underlying53 rfl rfl (Tryz.sizeOf3 _) (by decide) rfl) rfl ?_
        refine WH.one 15 (by kernel_rfl) rfl ?_
        refine WL.on rfl ?_
        refine WL.v (RV.load hb5.q1 (Tryz.isAgg3 _) rfl) rfl ?_
        refine WL.nil ?_
        refine QF.after (hb5.q0) ?_
        refine WH.takeOn 16 rfl rfl (by kernel_rfl) (by kernel_rfl) (by kernel_rfl) (hb5.q0) (fun w1 hw1 => RV.indexS1 (c := r2.headD 0) Tryz.underlying9 rfl rfl (m - r2.length) (by dsimp only; omega) hgh) rfl ?_
        refine WH.takeOn 17 rfl rfl (by kernel_rfl) (by kernel_rfl) (by kernel_rfl) (hb5.q0) (fun w1 hw1 => RV.neq rfl rfl) rfl ?_
        refine WH.take 18 rfl (by kernel_rfl) (by kernel_rfl) (by kernel_rfl) (hb5.q0) (fun w1 hw1 => RV.pickF rfl rfl) rfl ?_
        refine WH.done (by kernel_rfl) ?_
        refine QF.seqNext ?_
        by_cases hc : r2.headD 0 = 61
        · have hMX : letK kn r = letX nm r2 (exprK kn r2.tail) := by rw [hMK, if_pos hc]
          obtain ⟨k1, k2⟩ := tail_good (r := r2) (by rw [hc]; decide)
          have hts := k1.trans hs5
          refine WC.condF rfl ((by rw [hc]; rfl)) ?_
          have hbe := hb5.drew
          have hme := hm5.upd (Upd.of_ext (S := fun _ => False) (fun h => h) O (Ext.refl w5).drew) hjm (fun h => h)
          have hRe := hR5.drew
          have hUe := hUt5.drew
          have hseg : (s.l.take m).drop (m - r2.tail.length) = r2.tail := by have := suf_eq hts; rwa [hLl] at this
          have hgX := exprK_ne (kn := kn) r2.tail
          generalize hMd : exprK kn r2.tail = M at *
          refine WC.skip ?_
          refine QF.seqNext ?_
          refine WC.seq ?_
          refine WC.mid (fun z : (Nat → Nat) × World × Nat × N3 => [(0, .pointer (some ⟨rb, 0, none⟩)), (3, .string (bs nm)), (5, .pointer (some ⟨z.2.2.1, 0, none⟩)), (6, .int .i64 (atX M)), (7, .int .i64 (errX M))]) (fun z : (Nat → Nat) × World × Nat × N3 => z.2.1) (fun z : (Nat → Nat) × World × Nat × N3 => BlkO z.1 z.2.1 T z.2.2.1 #[.int .i64 z.2.2.2.1, .int .i64 z.2.2.2.2.1, z.2.2.2.2.2] 48 ∧ Rd6 z.1 z.2.1 j rb {s with pos := (m : Int) - (r2.length : Int)} ∧ Mac z.1 z.2.1 jm s.mc kn ∧ Upd (fun q => q = j ∨ q = jm ∨ T ≤ q) O w z.1 z.2.1 ∧ Rng B z.1 z.2.1 ∧ z.2.2.2.2.2.oneCell' = true ∧ ∀ t, M = .ok t → Nt z.1 z.2.1 t z.2.2.2) ?_ ?_
          · intro hN
            refine WC.draw (fun V => V.cell? ⟨rb, 0, none⟩ = some (.string (bs s.l)) ∧ V.cell? ⟨rb, 1, none⟩ = some (.int .i64 ((m : Int) - (r2.length : Int))) ∧ V.cell? ⟨rb, 2, none⟩ = some (.int .i64 s.to) ∧ V.cell? ⟨rb, 9, none⟩ = some s.mc) 30 rfl (by kernel_rfl) ?_
            refine WH.take 0 rfl (by kernel_rfl) (by kernel_rfl) (by kernel_rfl) ⟨hbe.q0, hbe.q1, hbe.q2, hbe.q9⟩ (fun w1 hw1 => RV.move rfl) rfl ?_
            refine WH.take 1 rfl (by kernel_rfl) (by kernel_rfl) (by kernel_rfl) ⟨hbe.q0, hbe.q1, hbe.q2, hbe.q9⟩ (fun w1 hw1 => RV.nilPtr rfl) rfl ?_
            refine WH.take 2 rfl (by kernel_rfl) (by kernel_rfl) (by kernel_rfl) ⟨hbe.q0, hbe.q1, hbe.q2, hbe.q9⟩ (fun w1 hw1 => RV.fieldAddr 0 Tryz.underlying56 rfl rfl (Tryz.sizeOf53 _) (by decide) rfl) rfl ?_
            refine WH.take 3 rfl (by kernel_rfl) (by kernel_rfl) (by kernel_rfl) ⟨hbe.q0, hbe.q1, hbe.q2, hbe.q9⟩ (fun w1 hw1 => RV.fieldAddr 0 Tryz.underlying53 rfl rfl (Tryz.sizeOf9 _) (by decide) rfl) rfl ?_
            refine WH.take 4 rfl (by kernel_rfl) (by kernel_rfl) (by kernel_rfl) ⟨hbe.q0, hbe.q1, hbe.q2, hbe.q9⟩ (fun w1 hw1 => RV.load (by first | exact hw1.1 | exact hw1.2.1 | exact hw1.2.2.1 | exact hw1.2.2.2) (Tryz.isAgg9 _) rfl) rfl ?_
            refine WH.take 5 rfl (by kernel_rfl) (by kernel_rfl) (by kernel_rfl) ⟨hbe.q0, hbe.q1, hbe.q2, hbe.q9⟩ (fun w1 hw1 => RV.move rfl) rfl ?_
            refine WH.take 6 rfl (by kernel_rfl) (by kernel_rfl) (by kernel_rfl) ⟨hbe.q0, hbe.q1, hbe.q2, hbe.q9⟩ (fun w1 hw1 => RV.nilPtr rfl) rfl ?_
            refine WH.take 7 rfl (by kernel_rfl) (by kernel_rfl) (by kernel_rfl) ⟨hbe.q0, hbe.q1, hbe.q2, hbe.q9⟩ (fun w1 hw1 => RV.fieldAddr 0 Tryz.underlying56 rfl rfl (Tryz.sizeOf53 _) (by decide) rfl) rfl ?_
            refine WH.take 8 rfl (by kernel_rfl) (by kernel_rfl) (by kernel_rfl) ⟨hbe.q0, hbe.q1, hbe.q2, hbe.q9⟩ (fun w1 hw1 => RV.fieldAddr 1 Tryz.underlying53 rfl rfl (Tryz.sizeOf3 _) (by decide) rfl) rfl ?_
            refine WH.take 9 rfl (by kernel_rfl) (by kernel_rfl) (by kernel_rfl) ⟨hbe.q0, hbe.q1, hbe.q2, hbe.q9⟩ (fun w1 hw1 => RV.load (by first | exact hw1.1 | exact hw1.2.1 | exact hw1.2.2.1 | exact hw1.2.2.2) (Tryz.isAgg3 _) rfl) rfl ?_
            refine WH.take 10 rfl (by kernel_rfl) (by kernel_rfl) (by kernel_rfl) ⟨hbe.q0, hbe.q1, hbe.q2, hbe.q9⟩ (fun w1 hw1 => RV.add rfl rfl (Fit.i64 (by omega))) rfl ?_
            refine WH.take 11 rfl (by kernel_rfl) (by kernel_rfl) (by kernel_rfl) ⟨hbe.q0, hbe.q1, hbe.q2, hbe.q9⟩ (fun w1 hw1 => RV.move rfl) rfl ?_
            refine WH.take 12 rfl (by kernel_rfl) (by kernel_rfl) (by kernel_rfl) ⟨hbe.q0, hbe.q1, hbe.q2, hbe.q9⟩ (fun w1 hw1 => RV.nilPtr rfl) rfl ?_
            refine WH.take 13 rfl (by kernel_rfl) (by kernel_rfl) (by kernel_rfl) ⟨hbe.q0, hbe.q1, hbe.q2, hbe.q9⟩ (fun w1 hw1 => RV.fieldAddr 0 Tryz.underlying56 rfl rfl (Tryz.sizeOf53 _) (by decide) rfl) rfl ?_
            refine WH.take 14 rfl (by kernel_rfl) (by kernel_rfl) (by kernel_rfl) ⟨hbe.q0, hbe.q1, hbe.q2, hbe.q9⟩ (fun w1 hw1 => RV.fieldAddr 2 Tryz.underlying53 rfl rfl (Tryz.sizeOf3 _) (by decide) rfl) rfl ?_
            refine WH.take 15 rfl (by kernel_rfl) (by kernel_rfl) (by kernel_rfl) ⟨hbe.q0, hbe.q1, hbe.q2, hbe.q9⟩ (fun w1 hw1 => RV.load (by first | exact hw1.1 | exact hw1.2.1 | exact hw1.2.2.1 | exact hw1.2.2.2) (Tryz.isAgg3 _) rfl) rfl ?_
            refine WH.take 16 rfl (by kernel_rfl) (by kernel_rfl) (by kernel_rfl) ⟨hbe.q0, hbe.q1, hbe.q2, hbe.q9⟩ (fun w1 hw1 => RV.sliceS Tryz.underlying9 rfl rfl rfl (m - r2.tail.length) m (by omega) hto (by omega) hm) rfl ?_
            refine WH.take 17 rfl (by kernel_rfl) (by kernel_rfl) (by kernel_rfl) ⟨hbe.q0, hbe.q1, hbe.q2, hbe.q9⟩ (fun w1 hw1 => RV.move rfl) rfl ?_
            refine WH.take 18 rfl (by kernel_rfl) (by kernel_rfl) (by kernel_rfl) ⟨hbe.q0, hbe.q1, hbe.q2, hbe.q9⟩ (fun w1 hw1 => RV.nilPtr rfl) rfl ?_
            refine WH.take 19 rfl (by kernel_rfl) (by kernel_rfl) (by kernel_rfl) ⟨hbe.q0, hbe.q1, hbe.q2, hbe.q9⟩ (fun w1 hw1 => RV.fieldAddr 9 Tryz.underlying56 rfl rfl (Tryz.sizeOf54 _) (by decide) rfl) rfl ?_
            refine WH.take 20 rfl (by kernel_rfl) (by kernel_rfl) (by kernel_rfl) ⟨hbe.q0, hbe.q1, hbe.q2, hbe.q9⟩ (fun w1 hw1 => RV.load (by first | exact hw1.1 | exact hw1.2.1 | exact hw1.2.2.1 | exact hw1.2.2.2) (Tryz.isAgg54 _) rfl) rfl ?_
            rw [hseg]
            refine WH.two 21 26 (by kernel_rfl) rfl rfl ?_ ?_
            · skip
              refine WL.call Tryz.call56 rfl (parse2_ret s.mc r2.tail B O (forget jm O) w5.drew hRe hRe.forget (hme.known hjm hRe)) rfl ?_
              rintro v w6 ⟨hE6, hP6⟩
              rw [hMd] at hP6
              obtain ⟨x, rfl, hxo, hxn⟩ := hP6.shape
              have hX6 : Upd (fun _ => False) O w5.drew O w6 := Upd.of_ext (fun h => h) O hE6
              have hb6 := hbe.upd hX6 hj (fun h => h)
              have hm6 := hme.upd hX6 hjm (fun h => h)
              have hR6 := hRe.upd hX6
              have hU6 := hUe.trans (hX6.mono (fun _ h => h.elim) hz3)
              refine WL.nil ?_
              refine QF.after (⟨hb6.q0, hb6.q1, hb6.q2, hb6.q9⟩) ?_
              refine WH.take 22 rfl (by kernel_rfl) (by kernel_rfl) (by kernel_rfl) (⟨hb6.q0, hb6.q1, hb6.q2, hb6.q9⟩) (fun w1 hw1 => RV.move rfl) rfl ?_
              refine WH.take 23 rfl (by kernel_rfl) (by kernel_rfl) (by kernel_rfl) (⟨hb6.q0, hb6.q1, hb6.q2, hb6.q9⟩) (fun w1 hw1 => RV.extract rfl rfl) rfl ?_
              refine WH.take 24 rfl (by kernel_rfl) (by kernel_rfl) (by kernel_rfl) (⟨hb6.q0, hb6.q1, hb6.q2, hb6.q9⟩) (fun w1 hw1 => RV.extract rfl rfl) rfl ?_
              refine WH.take 25 rfl (by kernel_rfl) (by kernel_rfl) (by kernel_rfl) (⟨hb6.q0, hb6.q1, hb6.q2, hb6.q9⟩) (fun w1 hw1 => RV.extract rfl rfl) rfl ?_
              refine WH.one 26 (by kernel_rfl) rfl ?_
              refine WL.allocO hR6 T (by omega) (Tryz.zeroValue48 _) rfl ?_
              intro nb w7 O7 hn7 hX7 hR7 hE7
              have hb7 := hb6.upd hX7 hj (by omega)
              have hm7 := hm6.upd hX7 hjm (by omega)
              have hU7 := hU6.trans (hX7.mono (fun _ h => .inr (.inr (Nat.le_of_eq h.symm))) hz3)
              refine WL.nil ?_
              refine QF.after (⟨hb7.q0, hb7.q1, hb7.q2, hb7.q9⟩) ?_
              refine WH.one 27 (by kernel_rfl) rfl ?_
              refine WL.storeAgg (us := #[.int .i64 x.1, .int .i64 x.2.1, x.2.2]) hn7 rfl (Tryz.sizeOf48 _) (nv_ok hxo) rfl rfl rfl ?_
              have hnz := BlkO.setRow (us := #[.int .i64 x.1, .int .i64 x.2.1, x.2.2]) hn7
              have hXz : Upd (fun q => q = T) O7 w7 O7 (World.setRow w7 nb #[.int .i64 x.1, .int .i64 x.2.1, x.2.2]) := Upd.setRow (by omega) (BlkO.tag hn7) rfl
              have hbz := BlkO.upd hb7 hXz hj (by omega)
              refine WL.nil ?_
              refine QF.after (⟨hbz.q0, hbz.q1, hbz.q2, hbz.q9⟩) ?_
              refine WH.take 28 rfl (by kernel_rfl) (by kernel_rfl) (by kernel_rfl) (⟨hbz.q0, hbz.q1, hbz.q2, hbz.q9⟩) (fun w1 hw1 => RV.assign rfl) rfl ?_
              refine WH.take 29 rfl (by kernel_rfl) (by kernel_rfl) (by kernel_rfl) (⟨hbz.q0, hbz.q1, hbz.q2, hbz.q9⟩) (fun w1 hw1 => RV.assign rfl) rfl ?_
              refine WH.done (by kernel_rfl) ?_
              exact QF.of (hN ((O7, World.setRow w7 nb #[.int .i64 x.1, .int .i64 x.2.1, x.2.2], nb, x)) (⟨hnz, hbz, Mac.upd hm7 hXz hjm (by omega), Upd.trans hU7 (hXz.mono (fun _ h => .inr (.inr (Nat.le_of_eq h.symm))) hz3), Rng.upd hR7 hXz, hxo, fun t e => Nt.upd ((fun t e => (hxn t e).upd hX7) t e) hXz⟩)) ⟨rfl, rfl, rfl, rfl, rfl, trivial⟩ rfl
            · skip
              refine WL.allocO hRe T (by omega) (Tryz.zeroValue48 _) rfl ?_
              intro nb w6 O6 hn6 hX6 hR6 hE6
              have hb6 := hbe.upd hX6 hj (by omega)
              have hm6 := hme.upd hX6 hjm (by omega)
              have hU6 := hUe.trans (hX6.mono (fun _ h => .inr (.inr (Nat.le_of_eq h.symm))) hz3)
              refine WL.nil ?_
              refine QF.after (⟨hb6.q0, hb6.q1, hb6.q2, hb6.q9⟩) ?_
              refine WH.one 21 (by kernel_rfl) rfl ?_
              refine WL.call Tryz.call56 rfl (parse2_ret s.mc r2.tail B O6 (forget jm O6) w6 hR6 hR6.forget (hm6.known hjm hR6)) rfl ?_
              rintro v w7 ⟨hE7, hP7⟩
              rw [hMd] at hP7
              obtain ⟨x, rfl, hxo, hxn⟩ := hP7.shape
              have hX7 : Upd (fun _ => False) O6 w6 O6 w7 := Upd.of_ext (fun h => h) O6 hE7
              have hn7 := hn6.upd hX7 (by omega) (fun h => h)
              have hb7 := hb6.upd hX7 hj (fun h => h)
              have hm7 := hm6.upd hX7 hjm (fun h => h)
              have hR7 := hR6.upd hX7
              have hU7 := hU6.trans (hX7.mono (fun _ h => h.elim) hz3)
              refine WL.nil ?_
              refine QF.after (⟨hb7.q0, hb7.q1, hb7.q2, hb7.q9⟩) ?_
              refine WH.take 22 rfl (by kernel_rfl) (by kernel_rfl) (by kernel_rfl) (⟨hb7.q0, hb7.q1, hb7.q2, hb7.q9⟩) (fun w1 hw1 => RV.move rfl) rfl ?_
              refine WH.take 23 rfl (by kernel_rfl) (by kernel_rfl) (by kernel_rfl) (⟨hb7.q0, hb7.q1, hb7.q2, hb7.q9⟩) (fun w1 hw1 => RV.extract rfl rfl) rfl ?_
              refine WH.take 24 rfl (by kernel_rfl) (by kernel_rfl) (by kernel_rfl) (⟨hb7.q0, hb7.q1, hb7.q2, hb7.q9⟩) (fun w1 hw1 => RV.extract rfl rfl) rfl ?_
              refine WH.take 25 rfl (by kernel_rfl) (by kernel_rfl) (by kernel_rfl) (⟨hb7.q0, hb7.q1, hb7.q2, hb7.q9⟩) (fun w1 hw1 => RV.extract rfl rfl) rfl ?_
              refine WH.one 27 (by kernel_rfl) rfl ?_
              refine WL.storeAgg (us := #[.int .i64 x.1, .int .i64 x.2.1, x.2.2]) hn7 rfl (Tryz.sizeOf48 _) (nv_ok hxo) rfl rfl rfl ?_
              have hnz := BlkO.setRow (us := #[.int .i64 x.1, .int .i64 x.2.1, x.2.2]) hn7
              have hXz : Upd (fun q => q = T) O6 w7 O6 (World.setRow w7 nb #[.int .i64 x.1, .int .i64 x.2.1, x.2.2]) := Upd.setRow (by omega) (BlkO.tag hn7) rfl
              have hbz := BlkO.upd hb7 hXz hj (by omega)
              refine WL.nil ?_
              refine QF.after (⟨hbz.q0, hbz.q1, hbz.q2, hbz.q9⟩) ?_
              refine WH.take 28 rfl (by kernel_rfl) (by kernel_rfl) (by kernel_rfl) (⟨hbz.q0, hbz.q1, hbz.q2, hbz.q9⟩) (fun w1 hw1 => RV.assign rfl) rfl ?_
              refine WH.take 29 rfl (by kernel_rfl) (by kernel_rfl) (by kernel_rfl) (⟨hbz.q0, hbz.q1, hbz.q2, hbz.q9⟩) (fun w1 hw1 => RV.assign rfl) rfl ?_
              refine WH.done (by kernel_rfl) ?_
              exact QF.of (hN ((O6, World.setRow w7 nb #[.int .i64 x.1, .int .i64 x.2.1, x.2.2], nb, x)) (⟨hnz, hbz, Mac.upd hm7 hXz hjm (by omega), Upd.trans hU7 (hXz.mono (fun _ h => .inr (.inr (Nat.le_of_eq h.symm))) hz3), Rng.upd hR7 hXz, hxo, fun t e => Nt.upd (hxn t e) hXz⟩)) ⟨rfl, rfl, rfl, rfl, rfl, trivial⟩ rfl
          · rintro ⟨O8, w8, nb, x⟩ ⟨hn8, hb8, hm8, hU8, hR8, hxo, hxn⟩
            dsimp only at hn8 hb8 hm8 hU8 hR8 hxo hxn ⊢
            refine QF.seqNext ?_
            refine WC.seq ?_
            refine WC.seq ?_
            refine WC.region ?_
            refine WL.v (RV.move rfl) rfl ?_
            refine WL.v (RV.neq rfl rfl) rfl ?_
            refine WL.nil ?_
            refine QF.seqNext ?_
            cases M with
            | ok t =>
              rw [hMX]
              refine WC.condF rfl (rfl) ?_
              have hnt := hxn t rfl
              obtain ⟨ms, hrow, hkl2, hke⟩ := hm8
              have hrowD := RowT.drew hrow
              have hRD := Rng.drew hR8
              have hbD := BlkO.drew hb8
              have hnD := BlkO.drew hn8
              have hUD := Upd.drew hU8
              refine WC.skip ?_
              refine QF.seqNext ?_
              refine WC.draw (fun V => ∀ (q : Nat) (u : Value), (encN x)[q]? = some u → V.cell? ((⟨nb, 0, none⟩ : Addr).add q) = some u) 13 rfl (by kernel_rfl) ?_
              refine WH.take 0 rfl (by kernel_rfl) (by kernel_rfl) (by kernel_rfl) hnD.cellsAdd (fun w1 hw1 => RV.move rfl) rfl ?_
              refine WH.take 1 rfl (by kernel_rfl) (by kernel_rfl) (by kernel_rfl) hnD.cellsAdd (fun w1 hw1 => RV.move rfl) rfl ?_
              refine WH.take 2 rfl (by kernel_rfl) (by kernel_rfl) (by kernel_rfl) hnD.cellsAdd (fun w1 hw1 => RV.nilPtr rfl) rfl ?_
              refine WH.take 3 rfl (by kernel_rfl) (by kernel_rfl) (by kernel_rfl) hnD.cellsAdd (fun w1 hw1 => RV.fieldAddr 9 Tryz.underlying56 rfl rfl (Tryz.sizeOf54 _) (by decide) rfl) rfl ?_
              refine WH.take 5 rfl (by kernel_rfl) (by kernel_rfl) (by kernel_rfl) hnD.cellsAdd (fun w1 hw1 => RV.move rfl) rfl ?_
              refine WH.take 6 rfl (by kernel_rfl) (by kernel_rfl) (by kernel_rfl) hnD.cellsAdd (fun w1 hw1 => RV.loadAgg (us := encN x) hw1 (Tryz.isAgg48 _) (Tryz.sizeOf48 _) rfl) rfl ?_
              refine WH.take 7 rfl (by kernel_rfl) (by kernel_rfl) (by kernel_rfl) hnD.cellsAdd (fun w1 hw1 => RV.build (vs := [(0, .string (bs nm)), (1, nv x)]) (cells := (encM (nm, x)).toArray) pl95 (Tryz.zeroValue95 _) rfl (by kernel_rfl)) rfl ?_
              refine WH.two 4 8 (by kernel_rfl) rfl rfl ?_ ?_
              · skip
                refine WL.v (RV.load hbD.q9 (Tryz.isAgg54 _) rfl) rfl ?_
                refine WL.nil ?_
                refine QF.after hnD.cellsAdd ?_
                refine WH.one 8 (by kernel_rfl) rfl ?_
                refine WL.buildOne2 elM (enc := encM) (nm, x) rfl rfl rfl (by decide) rfl ?_
                intro w9 h9 hE9
                have hX9 : Upd (fun _ => False) O8 (World.drew w8) O8 w9 := Upd.of_ext (fun h => h) O8 hE9
                have hb9 := hbD.upd hX9 hj (fun h => h)
                have hn9 := hnD.upd hX9 (by omega) (fun h => h)
                have hrow9 := hrowD.upd hX9 hjm (fun h => h)
                have hR9 := hRD.upd hX9
                have hU9 := hUD.trans (hX9.mono (fun _ h => h.elim) hz3)
                refine WL.nil ?_
                refine QF.after hn9.cellsAdd ?_
                have hone9 : ∀ u ∈ [((nm, x) : M3)], ∀ c ∈ encM u, c.oneCell' = true := fun u hu => by
                  rw [List.mem_singleton.1 hu]; exact encM_ones hxo
                refine WH.one 9 (by kernel_rfl) rfl ?_
                refine WL.appendSl elM hrow9 hR9 h9 (by simp) rfl rfl (fun _ _ => rfl) hone9 (by simp; omega) (by simp; omega) (by omega) rfl ?_
                intro lv10 w10 O10 hrow10 hX10 hR10
                have hb10 := BlkO.upd hb9 hX10 hj (by omega)
                have hn10 := BlkO.upd hn9 hX10 (by omega) (by omega)
                have hl10 := hrow10.one
                have hU10 := hU9.trans (hX10.mono (fun _ h => .inr (.inl h)) hz3)
                refine WL.nil ?_
                refine QF.after (hn10.cellsAdd) ?_
                refine WH.take 10 rfl (by kernel_rfl) (by kernel_rfl) (by kernel_rfl) (hn10.cellsAdd) (fun w1 hw1 => RV.nilPtr rfl) rfl ?_
                refine WH.take 11 rfl (by kernel_rfl) (by kernel_rfl) (by kernel_rfl) (hn10.cellsAdd) (fun w1 hw1 => RV.fieldAddr 9 Tryz.underlying56 rfl rfl (Tryz.sizeOf54 _) (by decide) rfl) rfl ?_
                refine WH.one 12 (by kernel_rfl) rfl ?_
                refine WL.storeBlk (j := 9) hb10 rfl (Tryz.sizeOf54 _) hl10 rfl rfl rfl ?_
                have hX11 : Upd (fun q => q = j) O10 w10 O10 (World.setCell w10 ⟨rb, 9, none⟩ lv10) := Upd.set (fun e => hj e.symm) hb10.tag rfl
                have hb11 : BlkO O10 (World.setCell w10 ⟨rb, 9, none⟩ lv10) j rb ({({s with pos := (m : Int) - (r2.length : Int)} : LS) with mc := lv10} : LS).cells 56 := hb10.set 9 lv10
                have hn11 := hn10.upd hX11 (by omega) (by omega)
                have hrow11 := hrow10.upd hX11 hjm (fun e => hne e.symm)
                have hU11 := hU10.trans (hX11.mono (fun _ h => .inl h) hz3)
                have hR11 := hR10.upd hX11
                refine WL.nil ?_
                refine QF.after (hn11.cellsAdd) ?_
                refine WH.done (by kernel_rfl) ?_
                have hUz := Upd.lowT hU11 hT (S' := fun q => q = j ∨ q = jm) (fun b hb => by rcases hb with hb | hb | hb; exact Or.inl hb; exact Or.inr hb; have := hT b; omega) hz2
                exact QF.end0 rfl ⟨lowT O10 T, lv10, _, _, _, hUz, hR11.lowT T, hb11.lowT hjT, he, Mac.snoc (hrow11.lowT hjmT) hkl2 (fun q hq => ⟨(hke q hq).1, (((((hke q hq).2.drew).upd hX9).upd hX10).upd hX11).weak (fun b hb => lowT_z hb)⟩) (((((hnt.drew).upd hX9).upd hX10).upd hX11).weak (fun b hb => lowT_z hb))⟩
              · skip
                refine WL.buildOne2 elM (enc := encM) (nm, x) rfl rfl rfl (by decide) rfl ?_
                intro w9 h9 hE9
                have hX9 : Upd (fun _ => False) O8 (World.drew w8) O8 w9 := Upd.of_ext (fun h => h) O8 hE9
                have hb9 := hbD.upd hX9 hj (fun h => h)
                have hn9 := hnD.upd hX9 (by omega) (fun h => h)
                have hrow9 := hrowD.upd hX9 hjm (fun h => h)
                have hR9 := hRD.upd hX9
                have hU9 := hUD.trans (hX9.mono (fun _ h => h.elim) hz3)
                refine WL.nil ?_
                refine QF.after hn9.cellsAdd ?_
                refine WH.one 4 (by kernel_rfl) rfl ?_
                refine WL.v (RV.load hb9.q9 (Tryz.isAgg54 _) rfl) rfl ?_
                refine WL.nil ?_
                refine QF.after hn9.cellsAdd ?_
                have hone9 : ∀ u ∈ [((nm, x) : M3)], ∀ c ∈ encM u, c.oneCell' = true := fun u hu => by
                  rw [List.mem_singleton.1 hu]; exact encM_ones hxo
                refine WH.one 9 (by kernel_rfl) rfl ?_
                refine WL.appendSl elM hrow9 hR9 h9 (by simp) rfl rfl (fun _ _ => rfl) hone9 (by simp; omega) (by simp; omega) (by omega) rfl ?_
                intro lv10 w10 O10 hrow10 hX10 hR10
                have hb10 := BlkO.upd hb9 hX10 hj (by omega)
                have hn10 := BlkO.upd hn9 hX10 (by omega) (by omega)
                have hl10 := hrow10.one
                have hU10 := hU9.trans (hX10.mono (fun _ h => .inr (.inl h)) hz3)
                refine WL.nil ?_
                refine QF.after (hn10.cellsAdd) ?_
                refine WH.take 10 rfl (by kernel_rfl) (by kernel_rfl) (by kernel_rfl) (hn10.cellsAdd) (fun w1 hw1 => RV.nilPtr rfl) rfl ?_
                refine WH.take 11 rfl (by kernel_rfl) (by kernel_rfl) (by kernel_rfl) (hn10.cellsAdd) (fun w1 hw1 => RV.fieldAddr 9 Tryz.underlying56 rfl rfl (Tryz.sizeOf54 _) (by decide) rfl) rfl ?_
                refine WH.one 12 (by kernel_rfl) rfl ?_
                refine WL.storeBlk (j := 9) hb10 rfl (Tryz.sizeOf54 _) hl10 rfl rfl rfl ?_
                have hX11 : Upd (fun q => q = j) O10 w10 O10 (World.setCell w10 ⟨rb, 9, none⟩ lv10) := Upd.set (fun e => hj e.symm) hb10.tag rfl
                have hb11 : BlkO O10 (World.setCell w10 ⟨rb, 9, none⟩ lv10) j rb ({({s with pos := (m : Int) - (r2.length : Int)} : LS) with mc := lv10} : LS).cells 56 := hb10.set 9 lv10
                have hn11 := hn10.upd hX11 (by omega) (by omega)
                have hrow11 := hrow10.upd hX11 hjm (fun e => hne e.symm)
                have hU11 := hU10.trans (hX11.mono (fun _ h => .inl h) hz3)
                have hR11 := hR10.upd hX11
                refine WL.nil ?_
                refine QF.after (hn11.cellsAdd) ?_
                refine WH.done (by kernel_rfl) ?_
                have hUz := Upd.lowT hU11 hT (S' := fun q => q = j ∨ q = jm) (fun b hb => by rcases hb with hb | hb | hb; exact Or.inl hb; exact Or.inr hb; have := hT b; omega) hz2
                exact QF.end0 rfl ⟨lowT O10 T, lv10, _, _, _, hUz, hR11.lowT T, hb11.lowT hjT, he, Mac.snoc (hrow11.lowT hjmT) hkl2 (fun q hq => ⟨(hke q hq).1, (((((hke q hq).2.drew).upd hX9).upd hX10).upd hX11).weak (fun b hb => lowT_z hb)⟩) (((((hnt.drew).upd hX9).upd hX10).upd hX11).weak (fun b hb => lowT_z hb))⟩
            | bad p e =>
              have hne7 := (hgX p e rfl).1
              have hple := (hgX p e rfl).2
              rw [hMX]
              refine WC.condT rfl ((by simpa [errX] using hne7)) ?_
              have hb8d := hb8.drew
              have hn8d := hn8.drew
              have hm8d := hm8.upd (Upd.of_ext (S := fun _ => False) (fun h => h) O8 (Ext.refl w8).drew) hjm (fun h => h)
              refine WC.tail 12 rfl rfl (by kernel_rfl) (by kernel_rfl) ?_
              refine WS.v (RV.move rfl) rfl ?_
              refine WS.v (RV.nilPtr rfl) rfl ?_
              refine WS.v (RV.fieldAddr 0 Tryz.underlying56 rfl rfl (Tryz.sizeOf53 _) (by decide) rfl) rfl ?_
              refine WS.v (RV.move rfl) rfl ?_
              refine WS.v (RV.nilPtr rfl) rfl ?_
              refine WS.v (RV.fieldAddr 0 Tryz.underlying56 rfl rfl (Tryz.sizeOf53 _) (by decide) rfl) rfl ?_
              refine WS.v (RV.fieldAddr 1 Tryz.underlying53 rfl rfl (Tryz.sizeOf3 _) (by decide) rfl) rfl ?_
              refine WS.v (RV.load (by first | exact hb8d.q0 | exact hb8d.q1 | exact hb8d.q2 | exact hb8d.q3 | exact hb8d.q4 | exact hb8d.q5 | exact hb8d.q6 | exact hb8d.q7 | exact hb8d.q8 | exact hb8d.q9 | exact hb8d.q10 | exact hb8d.q11) (Tryz.isAgg3 _) rfl) rfl ?_
              refine WS.v (RV.add rfl rfl (Fit.i64 (by dsimp only; omega))) rfl ?_
              refine WS.v (RV.move rfl) rfl ?_
              refine WS.v (RV.add rfl rfl (Fit.i64 (by dsimp only [atX]; omega))) rfl ?_
              refine WS.v (RV.move rfl) rfl ?_
              refine WS.go ?_
              refine WL.call Tryz.call54 rfl (rfail_ret O8 w8.drew j rb ({s with pos := (m : Int) - (r2.length : Int)} : LS) (((m : Int) - (r2.length : Int)) + 1 + (p : Int)) e hj he hb8d) rfl ?_
              rintro u wf ⟨hbf, hUf⟩
              have hnf' := hn8d.upd hUf (by omega) (by omega)
              have hmf' := hm8d.upd hUf hjm (fun e => hne e.symm)
              have hRf' := hR8.drew.upd hUf
              have hUf' := (hU8.drew).trans (hUf.mono (S' := fun q => q = j ∨ q = jm ∨ T ≤ q) (fun _ h => .inl h) hz3)
              have hbf' : BlkO O8 wf j rb ({s with pos := (m : Int) - (r2.length : Int), bad := ((m : Int) - (r2.length : Int)) + 1 + (p : Int), e := e} : LS).cells 56 := hbf
              clear hbf
              obtain ⟨ms, hrow, hkl2, hke⟩ := hmf'
              have hrowD := RowT.drew hrow
              have hRD := Rng.drew hRf'
              have hbD := BlkO.drew hbf'
              have hnD := BlkO.drew hnf'
              have hUD := Upd.drew hUf'
              refine WL.nil ?_
              refine QF.seqNext ?_
              refine WC.draw (fun V => ∀ (q : Nat) (u : Value), (encN x)[q]? = some u → V.cell? ((⟨nb, 0, none⟩ : Addr).add q) = some u) 13 rfl (by kernel_rfl) ?_
              refine WH.take 0 rfl (by kernel_rfl) (by kernel_rfl) (by kernel_rfl) hnD.cellsAdd (fun w1 hw1 => RV.move rfl) rfl ?_
              refine WH.take 1 rfl (by kernel_rfl) (by kernel_rfl) (by kernel_rfl) hnD.cellsAdd (fun w1 hw1 => RV.move rfl) rfl ?_
              refine WH.take 2 rfl (by kernel_rfl) (by kernel_rfl) (by kernel_rfl) hnD.cellsAdd (fun w1 hw1 => RV.nilPtr rfl) rfl ?_
              refine WH.take 3 rfl (by kernel_rfl) (by kernel_rfl) (by kernel_rfl) hnD.cellsAdd (fun w1 hw1 => RV.fieldAddr 9 Tryz.underlying56 rfl rfl (Tryz.sizeOf54 _) (by decide) rfl) rfl ?_
              refine WH.take 5 rfl (by kernel_rfl) (by kernel_rfl) (by kernel_rfl) hnD.cellsAdd (fun w1 hw1 => RV.move rfl) rfl ?_
              refine WH.take 6 rfl (by kernel_rfl) (by kernel_rfl) (by kernel_rfl) hnD.cellsAdd (fun w1 hw1 => RV.loadAgg (us := encN x) hw1 (Tryz.isAgg48 _) (Tryz.sizeOf48 _) rfl) rfl ?_
              refine WH.take 7 rfl (by kernel_rfl) (by kernel_rfl) (by kernel_rfl) hnD.cellsAdd (fun w1 hw1 => RV.build (vs := [(0, .string (bs nm)), (1, nv x)]) (cells := (encM (nm, x)).toArray) pl95 (Tryz.zeroValue95 _) rfl (by kernel_rfl)) rfl ?_
              refine WH.two 4 8 (by kernel_rfl) rfl rfl ?_ ?_
              · skip
                refine WL.v (RV.load hbD.q9 (Tryz.isAgg54 _) rfl) rfl ?_
                refine WL.nil ?_
                refine QF.after hnD.cellsAdd ?_
                refine WH.one 8 (by kernel_rfl) rfl ?_
                refine WL.buildOne2 elM (enc := encM) (nm, x) rfl rfl rfl (by decide) rfl ?_
                intro w9 h9 hE9
                have hX9 : Upd (fun _ => False) O8 (World.drew wf) O8 w9 := Upd.of_ext (fun h => h) O8 hE9
                have hb9 := hbD.upd hX9 hj (fun h => h)
                have hn9 := hnD.upd hX9 (by omega) (fun h => h)
                have hrow9 := hrowD.upd hX9 hjm (fun h => h)
                have hR9 := hRD.upd hX9
                have hU9 := hUD.trans (hX9.mono (fun _ h => h.elim) hz3)
                refine WL.nil ?_
                refine QF.after hn9.cellsAdd ?_
                have hone9 : ∀ u ∈ [((nm, x) : M3)], ∀ c ∈ encM u, c.oneCell' = true := fun u hu => by
                  rw [List.mem_singleton.1 hu]; exact encM_ones hxo
                refine WH.one 9 (by kernel_rfl) rfl ?_
                refine WL.appendSl elM hrow9 hR9 h9 (by simp) rfl rfl (fun _ _ => rfl) hone9 (by simp; omega) (by simp; omega) (by omega) rfl ?_
                intro lv10 w10 O10 hrow10 hX10 hR10
                have hb10 := BlkO.upd hb9 hX10 hj (by omega)
                have hn10 := BlkO.upd hn9 hX10 (by omega) (by omega)
                have hl10 := hrow10.one
                have hU10 := hU9.trans (hX10.mono (fun _ h => .inr (.inl h)) hz3)
                refine WL.nil ?_
                refine QF.after (hn10.cellsAdd) ?_
                refine WH.take 10 rfl (by kernel_rfl) (by kernel_rfl) (by kernel_rfl) (hn10.cellsAdd) (fun w1 hw1 => RV.nilPtr rfl) rfl ?_
                refine WH.take 11 rfl (by kernel_rfl) (by kernel_rfl) (by kernel_rfl) (hn10.cellsAdd) (fun w1 hw1 => RV.fieldAddr 9 Tryz.underlying56 rfl rfl (Tryz.sizeOf54 _) (by decide) rfl) rfl ?_
                refine WH.one 12 (by kernel_rfl) rfl ?_
                refine WL.storeBlk (j := 9) hb10 rfl (Tryz.sizeOf54 _) hl10 rfl rfl rfl ?_
                have hX11 : Upd (fun q => q = j) O10 w10 O10 (World.setCell w10 ⟨rb, 9, none⟩ lv10) := Upd.set (fun e => hj e.symm) hb10.tag rfl
                have hb11 : BlkO O10 (World.setCell w10 ⟨rb, 9, none⟩ lv10) j rb ({({s with pos := (m : Int) - (r2.length : Int), bad := ((m : Int) - (r2.length : Int)) + 1 + (p : Int), e := e} : LS) with mc := lv10} : LS).cells 56 := hb10.set 9 lv10
                have hn11 := hn10.upd hX11 (by omega) (by omega)
                have hrow11 := hrow10.upd hX11 hjm (fun e => hne e.symm)
                have hU11 := hU10.trans (hX11.mono (fun _ h => .inl h) hz3)
                have hR11 := hR10.upd hX11
                refine WL.nil ?_
                refine QF.after (hn11.cellsAdd) ?_
                refine WH.done (by kernel_rfl) ?_
                have hUz := Upd.lowT hU11 hT (S' := fun q => q = j ∨ q = jm) (fun b hb => by rcases hb with hb | hb | hb; exact Or.inl hb; exact Or.inr hb; have := hT b; omega) hz2
                exact QF.end0 rfl ⟨lowT O10 T, lv10, _, _, _, hUz, hR11.lowT T, hb11.lowT hjT, rfl, hne7, by dsimp only; omega⟩
              · skip
                refine WL.buildOne2 elM (enc := encM) (nm, x) rfl rfl rfl (by decide) rfl ?_
                intro w9 h9 hE9
                have hX9 : Upd (fun _ => False) O8 (World.drew wf) O8 w9 := Upd.of_ext (fun h => h) O8 hE9
                have hb9 := hbD.upd hX9 hj (fun h => h)
                have hn9 := hnD.upd hX9 (by omega) (fun h => h)
                have hrow9 := hrowD.upd hX9 hjm (fun h => h)
                have hR9 := hRD.upd hX9
                have hU9 := hUD.trans (hX9.mono (fun _ h => h.elim) hz3)
                refine WL.nil ?_
                refine QF.after hn9.cellsAdd ?_
                refine WH.one 4 (by kernel_rfl) rfl ?_
                refine WL.v (RV.load hb9.q9 (Tryz.isAgg54 _) rfl) rfl ?_
                refine WL.nil ?_
                refine QF.after hn9.cellsAdd ?_
                have hone9 : ∀ u ∈ [((nm, x) : M3)], ∀ c ∈ encM u, c.oneCell' = true := fun u hu => by
                  rw [List.mem_singleton.1 hu]; exact encM_ones hxo
                refine WH.one 9 (by kernel_rfl) rfl ?_
                refine WL.appendSl elM hrow9 hR9 h9 (by simp) rfl rfl (fun _ _ => rfl) hone9 (by simp; omega) (by simp; omega) (by omega) rfl ?_
                intro lv10 w10 O10 hrow10 hX10 hR10
                have hb10 := BlkO.upd hb9 hX10 hj (by omega)
                have hn10 := BlkO.upd hn9 hX10 (by omega) (by omega)
                have hl10 := hrow10.one
                have hU10 := hU9.trans (hX10.mono (fun _ h => .inr (.inl h)) hz3)
                refine WL.nil ?_
                refine QF.after (hn10.cellsAdd) ?_
                refine WH.take 10 rfl (by kernel_rfl) (by kernel_rfl) (by kernel_rfl) (hn10.cellsAdd) (fun w1 hw1 => RV.nilPtr rfl) rfl ?_
                refine WH.take 11 rfl (by kernel_rfl) (by kernel_rfl) (by kernel_rfl) (hn10.cellsAdd) (fun w1 hw1 => RV.fieldAddr 9 Tryz.underlying56 rfl rfl (Tryz.sizeOf54 _) (by decide) rfl) rfl ?_
                refine WH.one 12 (by kernel_rfl) rfl ?_
                refine WL.storeBlk (j := 9) hb10 rfl (Tryz.sizeOf54 _) hl10 rfl rfl rfl ?_
                have hX11 : Upd (fun q => q = j) O10 w10 O10 (World.setCell w10 ⟨rb, 9, none⟩ lv10) := Upd.set (fun e => hj e.symm) hb10.tag rfl
                have hb11 : BlkO O10 (World.setCell w10 ⟨rb, 9, none⟩ lv10) j rb ({({s with pos := (m : Int) - (r2.length : Int), bad := ((m : Int) - (r2.length : Int)) + 1 + (p : Int), e := e} : LS) with mc := lv10} : LS).cells 56 := hb10.set 9 lv10
                have hn11 := hn10.upd hX11 (by omega) (by omega)
                have hrow11 := hrow10.upd hX11 hjm (fun e => hne e.symm)
                have hU11 := hU10.trans (hX11.mono (fun _ h => .inl h) hz3)
                have hR11 := hR10.upd hX11
                refine WL.nil ?_
                refine QF.after (hn11.cellsAdd) ?_
                refine WH.done (by kernel_rfl) ?_
                have hUz := Upd.lowT hU11 hT (S' := fun q => q = j ∨ q = jm) (fun b hb => by rcases hb with hb | hb | hb; exact Or.inl hb; exact Or.inr hb; have := hT b; omega) hz2
                exact QF.end0 rfl ⟨lowT O10 T, lv10, _, _, _, hUz, hR11.lowT T, hb11.lowT hjT, rfl, hne7, by dsimp only; omega⟩
        · have hM : letK kn r = .bad r2.length 4 := by rw [hMK, if_neg hc]
          rw [hM]
          refine WC.condT rfl ((byteBne _ 61 (by decide) hc)) ?_
          have hbe := hb5.drew
          refine WC.seq ?_
          refine WC.tail 8 rfl rfl (by kernel_rfl) (by kernel_rfl) ?_
          refine WS.v (RV.move rfl) rfl ?_
          refine WS.v (RV.nilPtr rfl) rfl ?_
          refine WS.v (RV.fieldAddr 0 Tryz.underlying56 rfl rfl (Tryz.sizeOf53 _) (by decide) rfl) rfl ?_
          refine WS.v (RV.move rfl) rfl ?_
          refine WS.v (RV.nilPtr rfl) rfl ?_
          refine WS.v (RV.fieldAddr 0 Tryz.underlying56 rfl rfl (Tryz.sizeOf53 _) (by decide) rfl) rfl ?_
          refine WS.v (RV.fieldAddr 1 Tryz.underlying53 rfl rfl (Tryz.sizeOf3 _) (by decide) rfl) rfl ?_
          refine WS.v (RV.load (by first | exact hbe.q0 | exact hbe.q1 | exact hbe.q2 | exact hbe.q3 | exact hbe.q4 | exact hbe.q5 | exact hbe.q6 | exact hbe.q7 | exact hbe.q8 | exact hbe.q9 | exact hbe.q10 | exact hbe.q11) (Tryz.isAgg3 _) rfl) rfl ?_
          refine WS.go ?_
          refine WL.call Tryz.call54 rfl (rfail_ret O w5.drew j rb ({s with pos := (m : Int) - (r2.length : Int)} : LS) ((m : Int) - (r2.length : Int)) 4 hj he hbe) rfl ?_
          rintro u w6 ⟨hb6, hU6⟩
          refine WL.nil ?_
          refine QF.seqNext ?_
          refine WC.ret ?_
          refine QF.thenRet ?_
          exact QF.done0 rfl ⟨O, s.mc, _, _, _, hpv ((hUt5.drew).trans (hU6.mono (fun _ h => .inl h) hz3)), hR5.drew.upd hU6, hb6, rfl, by decide, rfl⟩
    · have hM : letK kn r = .bad (skipB r).length (takenK kn ((skipB r).takeWhile letterB)) := by unfold letK; rw [if_neg hnm, if_pos htk]
      rw [hM]
      refine WC.condT rfl ((by simpa using htk)) ?_
      refine WC.seq ?_
      refine WC.region ?_
      refine WL.v (RV.move rfl) rfl ?_
      refine WL.v (RV.nilPtr rfl) rfl ?_
      refine WL.v (RV.fieldAddr 0 Tryz.underlying56 rfl rfl (Tryz.sizeOf53 _) (by decide) rfl) rfl ?_
      refine WL.v (RV.move rfl) rfl ?_
      refine WL.v (RV.move rfl) rfl ?_
      refine WL.call Tryz.call54 rfl (rfail_ret O w3 j rb ({s with pos := (m : Int) - (((skipB r).dropWhile letterB).length : Int)} : LS) ((m : Int) - ((skipB r).length : Int)) (takenK kn ((skipB r).takeWhile letterB)) hj he hb3) rfl ?_
      rintro u w4 ⟨hb4, hU4⟩
      refine WL.nil ?_
      refine QF.seqNext ?_
      refine WC.ret ?_
      refine QF.thenRet ?_
      exact QF.done0 rfl ⟨O, s.mc, _, _, _, hpv (hUt3.trans (hU4.mono (fun _ h => .inl h) hz3)), hR3.upd hU4, hb4, rfl, htk, rfl⟩
end Go.Proofs.YtmohcfjopaccdaaGreatDoor
end
section
/- Package rule, walked: a line of classes. -/
namespace Go.Proofs.YtmohcfjopaccdaaGreatDoor
open Go.VL Go.Proofs
set_option maxRecDepth 10000

theorem elI8 : Elem Tryz.prog 23 3 1 8 := ⟨Tryz.underlying23, by kernel_rfl, by decide⟩
inductive LM where
  | ok (l : List Int)
  | bad (p : Nat) (e : Int)
def wordsM : Nat → List Int → List UInt8 → LM
  | 0, acc, _ => .ok acc
  | n + 1, acc, r =>
    if (skipB r).length = 0 then .ok acc
    else if (skipB r).takeWhile letterB = [] then .bad (skipB r).length 4
    else match numM ((skipB r).takeWhile letterB) with
      | none => .bad (skipB r).length 5
      | some c => wordsM n (acc ++ [(c : Int)]) ((skipB r).dropWhile letterB)
def listF : LM → LM
  | .bad p e => .bad p e
  | .ok [] => .bad 0 4
  | .ok (a :: l) => .ok (Lib.compact (sortM (a :: l)))
def listM (r : List UInt8) : LM := listF (wordsM (r.length + 1) [] r)
theorem word_drop {x : List UInt8} (h : x.takeWhile letterB ≠ []) : (x.dropWhile letterB).length < x.length := by
  have := congrArg List.length (List.takeWhile_append_dropWhile (p := letterB) (l := x))
  rw [List.length_append] at this
  have := List.length_pos_iff.2 h
  omega
def PostI (m : Nat) (w' : World) (O' : Nat → Nat) (ji : Nat) (lv : Value) (bad e : Int) : LM → Prop
  | .ok l => e = 0 ∧ RowT encI 3 1 O' w' ji lv l
  | .bad p e' => e = e' ∧ e' ≠ 0 ∧ bad = (m : Int) - (p : Int)
theorem listI2_ret (O : Nat → Nat) (w : World) (j rb : Nat) (s : LS) (hj : j ≠ 0) (he : s.e = 0) (hfl : s.i = true) (h : Rd6 O w j rb s) :
    Ret Tryz.prog 41 [.pointer (some ⟨rb, 0, none⟩), .pointer (some ⟨rb, 6, none⟩), .pointer (some ⟨rb, 10, none⟩)] w fun _ w' => Rd6 O w' j rb {s with bad := s.bg, e := 11} ∧ Upd (fun k => k = j) O w O w' := by
  have q0 := h.q10
  rw [hfl] at q0
  have q3 := h.q3
  have hd := h.drew
  have hU0 : Upd (fun k => k = j) O w O w.drew := (Upd.refl (fun e => hj e.symm) O w).drew
  refine Ret.enter Tryz.func41 Tryz.ntmps41 rfl rfl ?_
  refine WC.seq ?_
  refine WC.seq ?_
  refine WC.region ?_
  refine WL.v (RV.move rfl) rfl ?_
  refine WL.v (RV.nilPtr rfl) rfl ?_
  refine WL.v (RV.load (by first | exact q0 | exact q3) (Tryz.isAgg4 _) rfl) rfl ?_
  refine WL.nil ?_
  refine QF.seqNext ?_
  refine WC.condT rfl (rfl) ?_
  refine WC.seq ?_
  refine WC.tail 8 rfl rfl (by kernel_rfl) (by kernel_rfl) ?_
  refine WS.v (RV.move rfl) rfl ?_
  refine WS.v (RV.nilPtr rfl) rfl ?_
  refine WS.v (RV.fieldAddr 0 Tryz.underlying56 rfl rfl (Tryz.sizeOf53 _) (by decide) rfl) rfl ?_
  refine WS.v (RV.move rfl) rfl ?_
  refine WS.v (RV.nilPtr rfl) rfl ?_
  refine WS.v (RV.fieldAddr 0 Tryz.underlying56 rfl rfl (Tryz.sizeOf53 _) (by decide) rfl) rfl ?_
  refine WS.v (RV.fieldAddr 3 Tryz.underlying53 rfl rfl (Tryz.sizeOf3 _) (by decide) rfl) rfl ?_
  refine WS.v (RV.load (by first | exact q0 | exact q3) (Tryz.isAgg3 _) rfl) rfl ?_
  refine WS.go ?_
  refine WL.call Tryz.call54 rfl (rfail_ret O w.drew j rb s s.bg 11 hj he hd) rfl ?_
  rintro u w1 ⟨hb1, hU1⟩
  refine WL.nil ?_
  refine QF.seqNext ?_
  refine WC.ret ?_
  refine QF.thenRet ?_
  exact QF.done0 rfl ⟨hb1, hU0.trans hU1⟩
theorem listK2_ret (O : Nat → Nat) (w : World) (j rb : Nat) (s : LS) (hj : j ≠ 0) (he : s.e = 0) (hfl : s.k = true) (h : Rd6 O w j rb s) :
    Ret Tryz.prog 41 [.pointer (some ⟨rb, 0, none⟩), .pointer (some ⟨rb, 7, none⟩), .pointer (some ⟨rb, 11, none⟩)] w fun _ w' => Rd6 O w' j rb {s with bad := s.bg, e := 11} ∧ Upd (fun k => k = j) O w O w' := by
  have q0 := h.q11
  rw [hfl] at q0
  have q3 := h.q3
  have hd := h.drew
  have hU0 : Upd (fun k => k = j) O w O w.drew := (Upd.refl (fun e => hj e.symm) O w).drew
  refine Ret.enter Tryz.func41 Tryz.ntmps41 rfl rfl ?_
  refine WC.seq ?_
  refine WC.seq ?_
  refine WC.region ?_
  refine WL.v (RV.move rfl) rfl ?_
  refine WL.v (RV.nilPtr rfl) rfl ?_
  refine WL.v (RV.load (by first | exact q0 | exact q3) (Tryz.isAgg4 _) rfl) rfl ?_
  refine WL.nil ?_
  refine QF.seqNext ?_
  refine WC.condT rfl (rfl) ?_
  refine WC.seq ?_
  refine WC.tail 8 rfl rfl (by kernel_rfl) (by kernel_rfl) ?_
  refine WS.v (RV.move rfl) rfl ?_
  refine WS.v (RV.nilPtr rfl) rfl ?_
  refine WS.v (RV.fieldAddr 0 Tryz.underlying56 rfl rfl (Tryz.sizeOf53 _) (by decide) rfl) rfl ?_
  refine WS.v (RV.move rfl) rfl ?_
  refine WS.v (RV.nilPtr rfl) rfl ?_
  refine WS.v (RV.fieldAddr 0 Tryz.underlying56 rfl rfl (Tryz.sizeOf53 _) (by decide) rfl) rfl ?_
  refine WS.v (RV.fieldAddr 3 Tryz.underlying53 rfl rfl (Tryz.sizeOf3 _) (by decide) rfl) rfl ?_
  refine WS.v (RV.load (by first | exact q0 | exact q3) (Tryz.isAgg3 _) rfl) rfl ?_
  refine WS.go ?_
  refine WL.call Tryz.call54 rfl (rfail_ret O w.drew j rb s s.bg 11 hj he hd) rfl ?_
  rintro u w1 ⟨hb1, hU1⟩
  refine WL.nil ?_
  refine QF.seqNext ?_
  refine WC.ret ?_
  refine QF.thenRet ?_
  exact QF.done0 rfl ⟨hb1, hU0.trans hU1⟩
theorem wordsM_le : ∀ (n : Nat) (acc : List Int) (r : List UInt8) (p : Nat) (e : Int), wordsM n acc r = .bad p e → p ≤ r.length
  | 0, _, _, _, _, h => by cases h
  | n + 1, acc, r, p, e, h => by
    have hs := skipB_le r
    unfold wordsM at h
    split at h
    · cases h
    · split at h
      · cases h; exact hs
      · split at h
        · cases h; exact hs
        · have h1 := wordsM_le n _ _ p e h
          have h2 := (List.dropWhile_suffix (l := skipB r) letterB).length_le
          omega
theorem listM_le {r : List UInt8} {p : Nat} {e : Int} (h : listM r = .bad p e) : p ≤ r.length := by
  unfold listM at h
  cases hw : wordsM (r.length + 1) [] r with
  | bad q f => rw [hw] at h; cases h; exact wordsM_le _ _ _ _ _ hw
  | ok l =>
    rw [hw] at h
    cases l with
    | nil => cases h; exact Nat.zero_le _
    | cons a l => cases h
theorem listI_ret (B : Nat) (O : Nat → Nat) (w : World) (j ji rb : Nat) (s : LS) (m : Nat) (r0 : List UInt8) (hR : Rng B O w) (hj : j ≠ 0) (hji : ji ≠ 0) (hne : j ≠ ji) (hm : m ≤ s.l.length) (hl : s.l.length ≤ 100000) (hto : s.to = (m : Int)) (he : s.e = 0) (hfl : s.i = false) (hfd : s.ig = nilV)
    (hr : r0 <:+ s.l.take m) (hp : s.pos = (m : Int) - (r0.length : Int)) (h : Rd6 O w j rb s) :
    Ret Tryz.prog 41 [.pointer (some ⟨rb, 0, none⟩), .pointer (some ⟨rb, 6, none⟩), .pointer (some ⟨rb, 10, none⟩)] w fun _ w' => ∃ O' lv pos bad e, Upd (fun k => k = j ∨ k = ji) O w O' w' ∧ Rng B O' w' ∧ Rd6 O' w' j rb {s with pos := pos, bad := bad, e := e, ig := lv, i := true} ∧ PostI m w' O' ji lv bad e (listM r0) := by
  have hz2 : ¬ (fun q : Nat => q = j ∨ q = ji) 0 := fun e => by rcases e with e | e; exact hj e.symm; exact hji e.symm
  have hrl : r0.length ≤ m := by have := hr.length_le; simp at this; omega
  have q0 := h.q10
  rw [hfl] at q0
  refine Ret.enter Tryz.func41 Tryz.ntmps41 rfl rfl ?_
  refine WC.seq ?_
  refine WC.seq ?_
  refine WC.region ?_
  refine WL.v (RV.move rfl) rfl ?_
  refine WL.v (RV.nilPtr rfl) rfl ?_
  refine WL.v (RV.load (by first | exact q0) (Tryz.isAgg4 _) rfl) rfl ?_
  refine WL.nil ?_
  refine QF.seqNext ?_
  refine WC.condF rfl (rfl) ?_
  refine WC.skip ?_
  refine QF.seqNext ?_
  refine WC.seq ?_
  refine WC.region ?_
  refine WL.v (RV.move rfl) rfl ?_
  refine WL.v (RV.nilPtr rfl) rfl ?_
  refine WL.storeBlk (j := 10) h rfl (Tryz.sizeOf4 _) rfl rfl rfl rfl ?_
  have hb1 : Rd6 O (w.setCell ⟨rb, 10, none⟩ (.bool true)) j rb {s with i := true} := BlkO.set h 10 _
  have hU1 : Upd (fun k => k = j) O w O (w.setCell ⟨rb, 10, none⟩ (.bool true)) := Upd.set (fun e => hj e.symm) h.tag rfl
  have hR1 := hR.upd hU1
  generalize w.setCell ⟨rb, 10, none⟩ (.bool true) = w1 at *
  obtain ⟨M, hMd⟩ : ∃ M, M = wordsM (r0.length + 1) [] r0 := ⟨_, rfl⟩
  refine WL.nil ?_
  refine QF.seqNext ?_
  refine WC.seq ?_
  refine WC.block ?_
  refine WC.loop (fun y : Nat × List Int × List UInt8 × (Nat → Nat) × World × Value => [(0, .pointer (some ⟨rb, 0, none⟩)), (1, .pointer (some ⟨rb, 6, none⟩))]) (fun y : Nat × List Int × List UInt8 × (Nat → Nat) × World × Value => y.2.2.2.2.1) (fun y : Nat × List Int × List UInt8 × (Nat → Nat) × World × Value => Rd6 y.2.2.2.1 y.2.2.2.2.1 j rb {s with pos := (m : Int) - (y.2.2.1.length : Int), ig := y.2.2.2.2.2, i := true} ∧ RowT encI 3 1 y.2.2.2.1 y.2.2.2.2.1 ji y.2.2.2.2.2 y.2.1 ∧ y.2.2.1 <:+ s.l.take m ∧ wordsM y.1 y.2.1 y.2.2.1 = M ∧ y.2.2.1.length < y.1 ∧ y.2.1.length + y.2.2.1.length ≤ r0.length ∧ Upd (fun k => k = j ∨ k = ji) O w y.2.2.2.1 y.2.2.2.2.1 ∧ Rng B y.2.2.2.1 y.2.2.2.2.1) (fun y : Nat × List Int × List UInt8 × (Nat → Nat) × World × Value => y.1) (r0.length + 1, [], r0, O, w1, nilV) (⟨by dsimp only; rw [← hp, ← hfd]; exact hb1, RowT.nil _ _ _ _ _ _, hr, hMd.symm, Nat.lt_succ_self _, by simp, hU1.mono (fun _ h => .inl h) hz2, hR1⟩) ⟨rfl, rfl, trivial⟩ rfl ?_
  rintro ⟨n, acc, r, O1, w2, lv⟩ ⟨hb2, hrow2, hsuf, hM2, hn, hal, hU2, hR2⟩
  dsimp only at hb2 hrow2 hsuf hM2 hn hal hU2 hR2 ⊢
  obtain ⟨n, rfl⟩ : ∃ q, n = q + 1 := ⟨n - 1, by omega⟩
  have hsl := skipB_le r
  unfold wordsM at hM2
  refine WC.seq ?_
  refine WC.seq ?_
  refine WC.region ?_
  refine WL.v (RV.move rfl) rfl ?_
  refine WL.v (RV.nilPtr rfl) rfl ?_
  refine WL.v (RV.fieldAddr 0 Tryz.underlying56 rfl rfl (Tryz.sizeOf53 _) (by decide) rfl) rfl ?_
  refine WL.call Tryz.call38 rfl (rblanks_ret O1 w2 j rb ({s with pos := (m : Int) - ((r).length : Int), ig := lv, i := true} : LS) m r hj hm hl hto hsuf rfl hb2) rfl ?_
  rintro v w3 ⟨rfl, hb3, hU3⟩
  have hrow3 := hrow2.upd hU3 hji (fun e => hne e.symm)
  have hR3 := hR2.upd hU3
  have hUt3 := hU2.trans (hU3.mono (fun _ h => .inl h) hz2)
  refine WL.nil ?_
  refine QF.seqNext ?_
  by_cases h0 : (skipB r).length = 0
  · rw [if_pos h0] at hM2
    refine WC.condF rfl ((decide_eq_false (by omega))) ?_
    have hq3 := hb3.q6
    have hsl3 := hrow3.sl
    refine WC.exit ?_
    refine QF.thenExit ?_
    refine QF.thenExit ?_
    refine QF.blockHit ?_
    refine QF.seqNext ?_
    refine WC.seq ?_
    refine WC.seq ?_
    refine WC.region ?_
    refine WL.v (RV.move rfl) rfl ?_
    refine WL.v (RV.nilPtr rfl) rfl ?_
    refine WL.v (RV.load (by first | exact hq3) (Tryz.isAgg23 _) rfl) rfl ?_
    refine WL.v (RV.len (by first | exact hsl3) Tryz.underlying23 rfl) rfl ?_
    refine WL.v (RV.eql rfl rfl) rfl ?_
    refine WL.nil ?_
    refine QF.seqNext ?_
    rcases acc with _ | ⟨a, acc⟩
    · have hM : listM r0 = .bad 0 4 := by unfold listM; rw [← hMd, ← hM2]; rfl
      rw [hM]
      refine WC.condT rfl (rfl) ?_
      have hq2 := hb3.q2
      dsimp only at hq2
      rw [hto] at hq2
      have hb3d := hb3.drew
      have hrow3d := hrow3.drew
      have hR3d := hR3.drew
      have hUt3d := hUt3.drew
      refine WC.tail 8 rfl rfl (by kernel_rfl) (by kernel_rfl) ?_
      refine WS.v (RV.move rfl) rfl ?_
      refine WS.v (RV.nilPtr rfl) rfl ?_
      refine WS.v (RV.fieldAddr 0 Tryz.underlying56 rfl rfl (Tryz.sizeOf53 _) (by decide) rfl) rfl ?_
      refine WS.v (RV.move rfl) rfl ?_
      refine WS.v (RV.nilPtr rfl) rfl ?_
      refine WS.v (RV.fieldAddr 0 Tryz.underlying56 rfl rfl (Tryz.sizeOf53 _) (by decide) rfl) rfl ?_
      refine WS.v (RV.fieldAddr 2 Tryz.underlying53 rfl rfl (Tryz.sizeOf3 _) (by decide) rfl) rfl ?_
      refine WS.v (RV.load (by first | exact hq2) (Tryz.isAgg3 _) rfl) rfl ?_
      refine WS.go ?_
      refine WL.call Tryz.call54 rfl (rfail_ret O1 w3.drew j rb ({s with pos := (m : Int) - ((skipB r).length : Int), ig := lv, i := true} : LS) (m : Int) 4 hj he hb3d) rfl ?_
      rintro u w7 ⟨hb7, hU7⟩
      have hrow7 := hrow3d.upd hU7 hji (fun e => hne e.symm)
      have hR7 := hR3d.upd hU7
      have hUt7 := hUt3d.trans (hU7.mono (fun _ h => .inl h) hz2)
      have hq6 := BlkO.q6 hb7
      refine WL.nil ?_
      refine QF.seqNext ?_
      refine WC.seq ?_
      refine WC.region ?_
      refine WL.v (RV.move rfl) rfl ?_
      refine WL.v (RV.nilPtr rfl) rfl ?_
      refine WL.v (RV.load (by first | exact hq6) (Tryz.isAgg23 _) rfl) rfl ?_
      refine WL.call Tryz.call58 rfl (sort_ret hR7 hrow7 hji (by omega)) rfl ?_
      rintro u w8 ⟨hrow8, hU8, hR8⟩
      have hb8 := BlkO.upd hb7 hU8 hj hne
      have hq8 := hb8.q6
      refine WL.nil ?_
      refine QF.seqNext ?_
      refine WC.region ?_
      refine WL.v (RV.move rfl) rfl ?_
      refine WL.v (RV.move rfl) rfl ?_
      refine WL.v (RV.nilPtr rfl) rfl ?_
      refine WL.v (RV.load (by first | exact hq8) (Tryz.isAgg23 _) rfl) rfl ?_
      refine WL.call Tryz.call59 rfl (compact_ret hR8 hrow8 hji (by rw [sortM_len]; omega)) rfl ?_
      rintro u w9 ⟨hrow9, hU9, hR9⟩
      have hb9 := hb8.upd hU9 hj hne
      have hone9 := hrow9.one
      refine WL.v (RV.nilPtr rfl) rfl ?_
      refine WL.storeBlk (j := 6) hb9 rfl (Tryz.sizeOf23 _) hone9 rfl rfl rfl ?_
      have hb10 := hb9.set 6 u
      have hU10 : Upd (fun k => k = j) O1 w9 O1 (w9.setCell ⟨rb, 6, none⟩ u) := Upd.set (fun e => hj e.symm) hb9.tag rfl
      have hUz := ((hUt7.trans (hU8.mono (fun _ h => .inr h) hz2)).trans (hU9.mono (fun _ h => .inr h) hz2)).trans (hU10.mono (fun _ h => .inl h) hz2)
      refine WL.nil ?_
      exact QF.end0 rfl ⟨O1, u, _, (m : Int), 4, hUz, hR9.upd hU10, hb10, ⟨rfl, by decide, by simp⟩⟩
    · have hM : listM r0 = .ok (Lib.compact (sortM (a :: acc))) := by unfold listM; rw [← hMd, ← hM2]; rfl
      rw [hM]
      refine WC.condF rfl ((beq_eq_false_iff_ne.2 (by simp; omega))) ?_
      have hq6 := BlkO.q6 hb3
      refine WC.skip ?_
      refine QF.seqNext ?_
      refine WC.seq ?_
      refine WC.region ?_
      refine WL.v (RV.move rfl) rfl ?_
      refine WL.v (RV.nilPtr rfl) rfl ?_
      refine WL.v (RV.load (by first | exact hq6) (Tryz.isAgg23 _) rfl) rfl ?_
      refine WL.call Tryz.call58 rfl (sort_ret hR3 hrow3 hji (by omega)) rfl ?_
      rintro u w8 ⟨hrow8, hU8, hR8⟩
      have hb8 := BlkO.upd hb3 hU8 hj hne
      have hq8 := hb8.q6
      refine WL.nil ?_
      refine QF.seqNext ?_
      refine WC.region ?_
      refine WL.v (RV.move rfl) rfl ?_
      refine WL.v (RV.move rfl) rfl ?_
      refine WL.v (RV.nilPtr rfl) rfl ?_
      refine WL.v (RV.load (by first | exact hq8) (Tryz.isAgg23 _) rfl) rfl ?_
      refine WL.call Tryz.call59 rfl (compact_ret hR8 hrow8 hji (by rw [sortM_len]; omega)) rfl ?_
      rintro u w9 ⟨hrow9, hU9, hR9⟩
      have hb9 := hb8.upd hU9 hj hne
      have hone9 := hrow9.one
      refine WL.v (RV.nilPtr rfl) rfl ?_
      refine WL.storeBlk (j := 6) hb9 rfl (Tryz.sizeOf23 _) hone9 rfl rfl rfl ?_
      have hb10 := hb9.set 6 u
      have hU10 : Upd (fun k => k = j) O1 w9 O1 (w9.setCell ⟨rb, 6, none⟩ u) := Upd.set (fun e => hj e.symm) hb9.tag rfl
      have hUz := ((hUt3.trans (hU8.mono (fun _ h => .inr h) hz2)).trans (hU9.mono (fun _ h => .inr h) hz2)).trans (hU10.mono (fun _ h => .inl h) hz2)
      refine WL.nil ?_
      exact QF.end0 rfl ⟨O1, u, _, _, _, hUz, hR9.upd hU10, hb10, ⟨he, hrow9.upd hU10 hji (fun e => hne e.symm)⟩⟩
  · rw [if_neg h0] at hM2
    refine WC.condT rfl ((decide_eq_true (by omega))) ?_
    have hq1 := hb3.q1
    have hsuf3 := (skipB_suf r).trans hsuf
    refine WC.skip ?_
    refine QF.seqNext ?_
    refine WC.block ?_
    refine WC.seq ?_
    refine WC.region ?_
    refine WL.v (RV.move rfl) rfl ?_
    refine WL.v (RV.nilPtr rfl) rfl ?_
    refine WL.v (RV.fieldAddr 0 Tryz.underlying56 rfl rfl (Tryz.sizeOf53 _) (by decide) rfl) rfl ?_
    refine WL.v (RV.fieldAddr 1 Tryz.underlying53 rfl rfl (Tryz.sizeOf3 _) (by decide) rfl) rfl ?_
    refine WL.v (RV.load (by first | exact hq1) (Tryz.isAgg3 _) rfl) rfl ?_
    refine WL.v (RV.assign rfl) rfl ?_
    refine WL.nil ?_
    refine QF.seqNext ?_
    refine WC.seq ?_
    refine WC.region ?_
    refine WL.v (RV.move rfl) rfl ?_
    refine WL.v (RV.nilPtr rfl) rfl ?_
    refine WL.v (RV.fieldAddr 0 Tryz.underlying56 rfl rfl (Tryz.sizeOf53 _) (by decide) rfl) rfl ?_
    refine WL.call Tryz.call39 rfl (rname_ret O1 w3 j rb ({s with pos := (m : Int) - ((skipB r).length : Int), ig := lv, i := true} : LS) m (skipB r) hj hm hl hto hsuf3 rfl hb3) rfl ?_
    rintro v w4 ⟨rfl, hb4, hU4⟩
    have hrow4 := hrow3.upd hU4 hji (fun e => hne e.symm)
    have hR4 := hR3.upd hU4
    have hUt4 := hUt3.trans (hU4.mono (fun _ h => .inl h) hz2)
    refine WL.v (RV.assign rfl) rfl ?_
    refine WL.nil ?_
    refine QF.seqNext ?_
    refine WC.seq ?_
    refine WC.region ?_
    refine WL.v (RV.move rfl) rfl ?_
    refine WL.call Tryz.call57 rfl (number_ret ((skipB r).takeWhile letterB) w4) rfl ?_
    rintro v w5 ⟨rfl, hE5⟩
    have hX5 : Upd (fun _ => False) O1 w4 O1 w5 := Upd.of_ext (fun h => h) O1 hE5
    have hb5 := hb4.upd hX5 hj (fun h => h)
    have hrow5 := hrow4.upd hX5 hji (fun h => h)
    have hR5 := hR4.upd hX5
    have hUt5 := hUt4.trans (hX5.mono (fun _ h => h.elim) hz2)
    refine WL.v (RV.move rfl) rfl ?_
    refine WL.v (RV.extract rfl rfl) rfl ?_
    refine WL.v (RV.extract rfl rfl) rfl ?_
    refine WL.v (RV.assign rfl) rfl ?_
    refine WL.v (RV.assign rfl) rfl ?_
    refine WL.nil ?_
    refine QF.seqNext ?_
    refine WC.seq ?_
    refine WC.block ?_
    refine WC.seq ?_
    refine WC.region ?_
    refine WL.v (RV.move rfl) rfl ?_
    refine WL.v (RV.eqlS rfl rfl) rfl ?_
    refine WL.v (RV.assign rfl) rfl ?_
    refine WL.nil ?_
    refine QF.seqNext ?_
    by_cases hnm : (skipB r).takeWhile letterB = []
    · rw [if_pos hnm] at hM2
      have hM : listM r0 = .bad (skipB r).length 4 := by unfold listM; rw [← hMd, ← hM2]; rfl
      rw [hM]
      refine WC.condT rfl ((by simpa using hnm)) ?_
      refine WC.seq ?_
      refine WC.region ?_
      refine WL.v (RV.move rfl) rfl ?_
      refine WL.v (RV.nilPtr rfl) rfl ?_
      refine WL.v (RV.fieldAddr 0 Tryz.underlying56 rfl rfl (Tryz.sizeOf53 _) (by decide) rfl) rfl ?_
      refine WL.v (RV.move rfl) rfl ?_
      refine WL.call Tryz.call54 rfl (rfail_ret O1 w5 j rb ({s with pos := (m : Int) - (((skipB r).dropWhile letterB).length : Int), ig := lv, i := true} : LS) ((m : Int) - ((skipB r).length : Int)) 4 hj he hb5) rfl ?_
      rintro u w6 ⟨hb6, hU6⟩
      refine WL.nil ?_
      refine QF.seqNext ?_
      refine WC.ret ?_
      refine QF.blockRet ?_
      refine QF.thenRet ?_
      refine QF.blockRet ?_
      refine QF.thenRet ?_
      refine QF.blockRet ?_
      refine QF.thenRet ?_
      exact QF.done0 rfl ⟨O1, lv, _, _, _, hUt5.trans (hU6.mono (fun _ h => .inl h) hz2), hR5.upd hU6, hb6, rfl, by decide, rfl⟩
    · rw [if_neg hnm] at hM2
      have hwd := word_drop hnm
      refine WC.condF rfl ((by simpa using hnm)) ?_
      refine WC.seq ?_
      refine WC.region ?_
      refine WL.v (RV.move rfl) rfl ?_
      refine WL.v (RV.not rfl) rfl ?_
      refine WL.v (RV.assign rfl) rfl ?_
      refine WL.nil ?_
      refine QF.seqNext ?_
      cases hnum : numM ((skipB r).takeWhile letterB) with
      | none =>
        rw [hnum] at hM2
        have hM : listM r0 = .bad (skipB r).length 5 := by unfold listM; rw [← hMd, ← hM2]; rfl
        rw [hM]
        refine WC.condT rfl (rfl) ?_
        refine WC.seq ?_
        refine WC.region ?_
        refine WL.v (RV.move rfl) rfl ?_
        refine WL.v (RV.nilPtr rfl) rfl ?_
        refine WL.v (RV.fieldAddr 0 Tryz.underlying56 rfl rfl (Tryz.sizeOf53 _) (by decide) rfl) rfl ?_
        refine WL.v (RV.move rfl) rfl ?_
        refine WL.call Tryz.call54 rfl (rfail_ret O1 w5 j rb ({s with pos := (m : Int) - (((skipB r).dropWhile letterB).length : Int), ig := lv, i := true} : LS) ((m : Int) - ((skipB r).length : Int)) 5 hj he hb5) rfl ?_
        rintro u w6 ⟨hb6, hU6⟩
        refine WL.nil ?_
        refine QF.seqNext ?_
        refine WC.ret ?_
        refine QF.blockRet ?_
        refine QF.thenRet ?_
        refine QF.blockRet ?_
        refine QF.thenRet ?_
        refine QF.blockRet ?_
        refine QF.thenRet ?_
        exact QF.done0 rfl ⟨O1, lv, _, _, _, hUt5.trans (hU6.mono (fun _ h => .inl h) hz2), hR5.upd hU6, hb6, rfl, by decide, rfl⟩
      | some c =>
        rw [hnum] at hM2
        dsimp only at hM2
        have hnv : numV ((skipB r).takeWhile letterB) = (c : Int) := by unfold numV; rw [hnum]
        rw [hnv]
        refine WC.condF rfl (rfl) ?_
        have hq5 := hb5.q6
        refine WC.skip ?_
        refine QF.blockNormal ?_
        refine QF.seqNext ?_
        refine WC.region ?_
        refine WL.v (RV.move rfl) rfl ?_
        refine WL.v (RV.move rfl) rfl ?_
        refine WL.v (RV.nilPtr rfl) rfl ?_
        refine WL.v (RV.load (by first | exact hq5) (Tryz.isAgg23 _) rfl) rfl ?_
        refine WL.v (RV.move rfl) rfl ?_
        refine WL.push elI8 hrow5 hR5 ((c : Int)) (fun _ => rfl) rfl rfl rfl (by simp [Value.oneCell', encI]) (by omega) (by omega) (by omega) (by decide) rfl rfl ?_
        intro lv7 w7 O7 hrow7 hU7 hR7
        have hone7 := hrow7.one
        have hb7 := hb5.upd hU7 hj hne
        refine WL.v (RV.nilPtr rfl) rfl ?_
        refine WL.storeBlk (j := 6) hb7 rfl (Tryz.sizeOf23 _) hone7 rfl rfl rfl ?_
        have hb8 := hb7.set 6 lv7
        have hU8 : Upd (fun k => k = j) O7 w7 O7 (w7.setCell ⟨rb, 6, none⟩ lv7) := Upd.set (fun e => hj e.symm) hb7.tag rfl
        have hUt8 := (hUt5.trans (hU7.mono (fun _ h => .inr h) hz2)).trans (hU8.mono (fun _ h => .inl h) hz2)
        refine WL.nil ?_
        refine QF.blockNormal ?_
        refine QF.next ((n, acc ++ [(c : Int)], (skipB r).dropWhile letterB, O7, (w7.setCell ⟨rb, 6, none⟩ lv7), lv7)) (⟨hb8, hrow7.upd hU8 hji (fun e => hne e.symm), (List.dropWhile_suffix _).trans hsuf3, hM2, by dsimp only; omega, by simp; omega, hUt8, hR7.upd hU8⟩) (by dsimp only; omega) ⟨rfl, rfl, trivial⟩ rfl
theorem listK_ret (B : Nat) (O : Nat → Nat) (w : World) (j ji rb : Nat) (s : LS) (m : Nat) (r0 : List UInt8) (hR : Rng B O w) (hj : j ≠ 0) (hji : ji ≠ 0) (hne : j ≠ ji) (hm : m ≤ s.l.length) (hl : s.l.length ≤ 100000) (hto : s.to = (m : Int)) (he : s.e = 0) (hfl : s.k = false) (hfd : s.kp = nilV)
    (hr : r0 <:+ s.l.take m) (hp : s.pos = (m : Int) - (r0.length : Int)) (h : Rd6 O w j rb s) :
    Ret Tryz.prog 41 [.pointer (some ⟨rb, 0, none⟩), .pointer (some ⟨rb, 7, none⟩), .pointer (some ⟨rb, 11, none⟩)] w fun _ w' => ∃ O' lv pos bad e, Upd (fun k => k = j ∨ k = ji) O w O' w' ∧ Rng B O' w' ∧ Rd6 O' w' j rb {s with pos := pos, bad := bad, e := e, kp := lv, k := true} ∧ PostI m w' O' ji lv bad e (listM r0) := by
  have hz2 : ¬ (fun q : Nat => q = j ∨ q = ji) 0 := fun e => by rcases e with e | e; exact hj e.symm; exact hji e.symm
  have hrl : r0.length ≤ m := by have := hr.length_le; simp at this; omega
  have q0 := h.q11
  rw [hfl] at q0
  refine Ret.enter Tryz.func41 Tryz.ntmps41 rfl rfl ?_
  refine WC.seq ?_
  refine WC.seq ?_
  refine WC.region ?_
  refine WL.v (RV.move rfl) rfl ?_
  refine WL.v (RV.nilPtr rfl) rfl ?_
  refine WL.v (RV.load (by first | exact q0) (Tryz.isAgg4 _) rfl) rfl ?_
  refine WL.nil ?_
  refine QF.seqNext ?_
  refine WC.condF rfl (rfl) ?_
  refine WC.skip ?_
  refine QF.seqNext ?_
  refine WC.seq ?_
  refine WC.region ?_
  refine WL.v (RV.move rfl) rfl ?_
  refine WL.v (RV.nilPtr rfl) rfl ?_
  refine WL.storeBlk (j := 11) h rfl (Tryz.sizeOf4 _) rfl rfl rfl rfl ?_
  have hb1 : Rd6 O (w.setCell ⟨rb, 11, none⟩ (.bool true)) j rb {s with k := true} := BlkO.set h 11 _
  have hU1 : Upd (fun k => k = j) O w O (w.setCell ⟨rb, 11, none⟩ (.bool true)) := Upd.set (fun e => hj e.symm) h.tag rfl
  have hR1 := hR.upd hU1
  generalize w.setCell ⟨rb, 11, none⟩ (.bool true) = w1 at *
  obtain ⟨M, hMd⟩ : ∃ M, M = wordsM (r0.length + 1) [] r0 := ⟨_, rfl⟩
  refine WL.nil ?_
  refine QF.seqNext ?_
  refine WC.seq ?_
  refine WC.block ?_
  refine WC.loop (fun y : Nat × List Int × List UInt8 × (Nat → Nat) × World × Value => [(0, .pointer (some ⟨rb, 0, none⟩)), (1, .pointer (some ⟨rb, 7, none⟩))]) (fun y : Nat × List Int × List UInt8 × (Nat → Nat) × World × Value => y.2.2.2.2.1) (fun y : Nat × List Int × List UInt8 × (Nat → Nat) × World × Value => Rd6 y.2.2.2.1 y.2.2.2.2.1 j rb {s with pos := (m : Int) - (y.2.2.1.length : Int), kp := y.2.2.2.2.2, k := true} ∧ RowT encI 3 1 y.2.2.2.1 y.2.2.2.2.1 ji y.2.2.2.2.2 y.2.1 ∧ y.2.2.1 <:+ s.l.take m ∧ wordsM y.1 y.2.1 y.2.2.1 = M ∧ y.2.2.1.length < y.1 ∧ y.2.1.length + y.2.2.1.length ≤ r0.length ∧ Upd (fun k => k = j ∨ k = ji) O w y.2.2.2.1 y.2.2.2.2.1 ∧ Rng B y.2.2.2.1 y.2.2.2.2.1) (fun y : Nat × List Int × List UInt8 × (Nat → Nat) × World × Value => y.1) (r0.length + 1, [], r0, O, w1, nilV) (⟨by dsimp only; rw [← hp, ← hfd]; exact hb1, RowT.nil _ _ _ _ _ _, hr, hMd.symm, Nat.lt_succ_self _, by simp, hU1.mono (fun _ h => .inl h) hz2, hR1⟩) ⟨rfl, rfl, trivial⟩ rfl ?_
  rintro ⟨n, acc, r, O1, w2, lv⟩ ⟨hb2, hrow2, hsuf, hM2, hn, hal, hU2, hR2⟩
  dsimp only at hb2 hrow2 hsuf hM2 hn hal hU2 hR2 ⊢
  obtain ⟨n, rfl⟩ : ∃ q, n = q + 1 := ⟨n - 1, by omega⟩
  have hsl := skipB_le r
  unfold wordsM at hM2
  refine WC.seq ?_
  refine WC.seq ?_
  refine WC.region ?_
  refine WL.v (RV.move rfl) rfl ?_
  refine WL.v (RV.nilPtr rfl) rfl ?_
  refine WL.v (RV.fieldAddr 0 Tryz.underlying56 rfl rfl (Tryz.sizeOf53 _) (by decide) rfl) rfl ?_
  refine WL.call Tryz.call38 rfl (rblanks_ret O1 w2 j rb ({s with pos := (m : Int) - ((r).length : Int), kp := lv, k := true} : LS) m r hj hm hl hto hsuf rfl hb2) rfl ?_
  rintro v w3 ⟨rfl, hb3, hU3⟩
  have hrow3 := hrow2.upd hU3 hji (fun e => hne e.symm)
  have hR3 := hR2.upd hU3
  have hUt3 := hU2.trans (hU3.mono (fun _ h => .inl h) hz2)
  refine WL.nil ?_
  refine QF.seqNext ?_
  by_cases h0 : (skipB r).length = 0
  · rw [if_pos h0] at hM2
    refine WC.condF rfl ((decide_eq_false (by omega))) ?_
    have hq3 := hb3.q7
    have hsl3 := hrow3.sl
    refine WC.exit ?_
    refine QF.thenExit ?_
    refine QF.thenExit ?_
    refine QF.blockHit ?_
    refine QF.seqNext ?_
    refine WC.seq ?_
    refine WC.seq ?_
    refine WC.region ?_
    refine WL.v (RV.move rfl) rfl ?_
    refine WL.v (RV.nilPtr rfl) rfl ?_
    refine WL.v (RV.load (by first | exact hq3) (Tryz.isAgg23 _) rfl) rfl ?_
    refine WL.v (RV.len (by first | exact hsl3) Tryz.underlying23 rfl) rfl ?_
    refine WL.v (RV.eql rfl rfl) rfl ?_
    refine WL.nil ?_
    refine QF.seqNext ?_
    rcases acc with _ | ⟨a, acc⟩
    · have hM : listM r0 = .bad 0 4 := by unfold listM; rw [← hMd, ← hM2]; rfl
      rw [hM]
      refine WC.condT rfl (rfl) ?_
      have hq2 := hb3.q2
      dsimp only at hq2
      rw [hto] at hq2
      have hb3d := hb3.drew
      have hrow3d := hrow3.drew
      have hR3d := hR3.drew
      have hUt3d := hUt3.drew
      refine WC.tail 8 rfl rfl (by kernel_rfl) (by kernel_rfl) ?_
      refine WS.v (RV.move rfl) rfl ?_
      refine WS.v (RV.nilPtr rfl) rfl ?_
      refine WS.v (RV.fieldAddr 0 Tryz.underlying56 rfl rfl (Tryz.sizeOf53 _) (by decide) rfl) rfl ?_
      refine WS.v (RV.move rfl) rfl ?_
      refine WS.v (RV.nilPtr rfl) rfl ?_
      refine WS.v (RV.fieldAddr 0 Tryz.underlying56 rfl rfl (Tryz.sizeOf53 _) (by decide) rfl) rfl ?_
      refine WS.v (RV.fieldAddr 2 Tryz.underlying53 rfl rfl (Tryz.sizeOf3 _) (by decide) rfl) rfl ?_
      refine WS.v (RV.load (by first | exact hq2) (Tryz.isAgg3 _) rfl) rfl ?_
      refine WS.go ?_
      refine WL.call Tryz.call54 rfl (rfail_ret O1 w3.drew j rb ({s with pos := (m : Int) - ((skipB r).length : Int), kp := lv, k := true} : LS) (m : Int) 4 hj he hb3d) rfl ?_
      rintro u w7 ⟨hb7, hU7⟩
      have hrow7 := hrow3d.upd hU7 hji (fun e => hne e.symm)
      have hR7 := hR3d.upd hU7
      have hUt7 := hUt3d.trans (hU7.mono (fun _ h => .inl h) hz2)
      have hq6 := BlkO.q7 hb7
      refine WL.nil ?_
      refine QF.seqNext ?_
      refine WC.seq ?_
      refine WC.region ?_
      refine WL.v (RV.move rfl) rfl ?_
      refine WL.v (RV.nilPtr rfl) rfl ?_
      refine WL.v (RV.load (by first | exact hq6) (Tryz.isAgg23 _) rfl) rfl ?_
      refine WL.call Tryz.call58 rfl (sort_ret hR7 hrow7 hji (by omega)) rfl ?_
      rintro u w8 ⟨hrow8, hU8, hR8⟩
      have hb8 := BlkO.upd hb7 hU8 hj hne
      have hq8 := hb8.q7
      refine WL.nil ?_
      refine QF.seqNext ?_
      refine WC.region ?_
      refine WL.v (RV.move rfl) rfl ?_
      refine WL.v (RV.move rfl) rfl ?_
      refine WL.v (RV.nilPtr rfl) rfl ?_
      refine WL.v (RV.load (by first | exact hq8) (Tryz.isAgg23 _) rfl) rfl ?_
      refine WL.call Tryz.call59 rfl (compact_ret hR8 hrow8 hji (by rw [sortM_len]; omega)) rfl ?_
      rintro u w9 ⟨hrow9, hU9, hR9⟩
      have hb9 := hb8.upd hU9 hj hne
      have hone9 := hrow9.one
      refine WL.v (RV.nilPtr rfl) rfl ?_
      refine WL.storeBlk (j := 7) hb9 rfl (Tryz.sizeOf23 _) hone9 rfl rfl rfl ?_
      have hb10 := hb9.set 7 u
      have hU10 : Upd (fun k => k = j) O1 w9 O1 (w9.setCell ⟨rb, 7, none⟩ u) := Upd.set (fun e => hj e.symm) hb9.tag rfl
      have hUz := ((hUt7.trans (hU8.mono (fun _ h => .inr h) hz2)).trans (hU9.mono (fun _ h => .inr h) hz2)).trans (hU10.mono (fun _ h => .inl h) hz2)
      refine WL.nil ?_
      exact QF.end0 rfl ⟨O1, u, _, (m : Int), 4, hUz, hR9.upd hU10, hb10, ⟨rfl, by decide, by simp⟩⟩
    · have hM : listM r0 = .ok (Lib.compact (sortM (a :: acc))) := by unfold listM; rw [← hMd, ← hM2]; rfl
      rw [hM]
      refine WC.condF rfl ((beq_eq_false_iff_ne.2 (by simp; omega))) ?_
      have hq6 := BlkO.q7 hb3
      refine WC.skip ?_
      refine QF.seqNext ?_
      refine WC.seq ?_
      refine WC.region ?_
      refine WL.v (RV.move rfl) rfl ?_
      refine WL.v (RV.nilPtr rfl) rfl ?_
      refine WL.v (RV.load (by first | exact hq6) (Tryz.isAgg23 _) rfl) rfl ?_
      refine WL.call Tryz.call58 rfl (sort_ret hR3 hrow3 hji (by omega)) rfl ?_
      rintro u w8 ⟨hrow8, hU8, hR8⟩
      have hb8 := BlkO.upd hb3 hU8 hj hne
      have hq8 := hb8.q7
      refine WL.nil ?_
      refine QF.seqNext ?_
      refine WC.region ?_
      refine WL.v (RV.move rfl) rfl ?_
      refine WL.v (RV.move rfl) rfl ?_
      refine WL.v (RV.nilPtr rfl) rfl ?_
      refine WL.v (RV.load (by first | exact hq8) (Tryz.isAgg23 _) rfl) rfl ?_
      refine WL.call Tryz.call59 rfl (compact_ret hR8 hrow8 hji (by rw [sortM_len]; omega)) rfl ?_
      rintro u w9 ⟨hrow9, hU9, hR9⟩
      have hb9 := hb8.upd hU9 hj hne
      have hone9 := hrow9.one
      refine WL.v (RV.nilPtr rfl) rfl ?_
      refine WL.storeBlk (j := 7) hb9 rfl (Tryz.sizeOf23 _) hone9 rfl rfl rfl ?_
      have hb10 := hb9.set 7 u
      have hU10 : Upd (fun k => k = j) O1 w9 O1 (w9.setCell ⟨rb, 7, none⟩ u) := Upd.set (fun e => hj e.symm) hb9.tag rfl
      have hUz := ((hUt3.trans (hU8.mono (fun _ h => .inr h) hz2)).trans (hU9.mono (fun _ h => .inr h) hz2)).trans (hU10.mono (fun _ h => .inl h) hz2)
      refine WL.nil ?_
      exact QF.end0 rfl ⟨O1, u, _, _, _, hUz, hR9.upd hU10, hb10, ⟨he, hrow9.upd hU10 hji (fun e => hne e.symm)⟩⟩
  · rw [if_neg h0] at hM2
    refine WC.condT rfl ((decide_eq_true (by omega))) ?_
    have hq1 := hb3.q1
    have hsuf3 := (skipB_suf r).trans hsuf
    refine WC.skip ?_
    refine QF.seqNext ?_
    refine WC.block ?_
    refine WC.seq ?_
    refine WC.region ?_
    refine WL.v (RV.move rfl) rfl ?_
    refine WL.v (RV.nilPtr rfl) rfl ?_
    refine WL.v (RV.fieldAddr 0 Tryz.underlying56 rfl rfl (Tryz.sizeOf53 _) (by decide) rfl) rfl ?_
    refine WL.v (RV.fieldAddr 1 Tryz.underlying53 rfl rfl (Tryz.sizeOf3 _) (by decide) rfl) rfl ?_
    refine WL.v (RV.load (by first | exact hq1) (Tryz.isAgg3 _) rfl) rfl ?_
    refine WL.v (RV.assign rfl) rfl ?_
    refine WL.nil ?_
    refine QF.seqNext ?_
    refine WC.seq ?_
    refine WC.region ?_
    refine WL.v (RV.move rfl) rfl ?_
    refine WL.v (RV.nilPtr rfl) rfl ?_
    refine WL.v (RV.fieldAddr 0 Tryz.underlying56 rfl rfl (Tryz.sizeOf53 _) (by decide) rfl) rfl ?_
    refine WL.call Tryz.call39 rfl (rname_ret O1 w3 j rb ({s with pos := (m : Int) - ((skipB r).length : Int), kp := lv, k := true} : LS) m (skipB r) hj hm hl hto hsuf3 rfl hb3) rfl ?_
    rintro v w4 ⟨rfl, hb4, hU4⟩
    have hrow4 := hrow3.upd hU4 hji (fun e => hne e.symm)
    have hR4 := hR3.upd hU4
    have hUt4 := hUt3.trans (hU4.mono (fun _ h => .inl h) hz2)
    refine WL.v (RV.assign rfl) rfl ?_
    refine WL.nil ?_
    refine QF.seqNext ?_
    refine WC.seq ?_
    refine WC.region ?_
    refine WL.v (RV.move rfl) rfl ?_
    refine WL.call Tryz.call57 rfl (number_ret ((skipB r).takeWhile letterB) w4) rfl ?_
    rintro v w5 ⟨rfl, hE5⟩
    have hX5 : Upd (fun _ => False) O1 w4 O1 w5 := Upd.of_ext (fun h => h) O1 hE5
    have hb5 := hb4.upd hX5 hj (fun h => h)
    have hrow5 := hrow4.upd hX5 hji (fun h => h)
    have hR5 := hR4.upd hX5
    have hUt5 := hUt4.trans (hX5.mono (fun _ h => h.elim) hz2)
    refine WL.v (RV.move rfl) rfl ?_
    refine WL.v (RV.extract rfl rfl) rfl ?_
    refine WL.v (RV.extract rfl rfl) rfl ?_
    refine WL.v (RV.assign rfl) rfl ?_
    refine WL.v (RV.assign rfl) rfl ?_
    refine WL.nil ?_
    refine QF.seqNext ?_
    refine WC.seq ?_
    refine WC.block ?_
    refine WC.seq ?_
    refine WC.region ?_
    refine WL.v (RV.move rfl) rfl ?_
    refine WL.v (RV.eqlS rfl rfl) rfl ?_
    refine WL.v (RV.assign rfl) rfl ?_
    refine WL.nil ?_
    refine QF.seqNext ?_
    by_cases hnm : (skipB r).takeWhile letterB = []
    · rw [if_pos hnm] at hM2
      have hM : listM r0 = .bad (skipB r).length 4 := by unfold listM; rw [← hMd, ← hM2]; rfl
      rw [hM]
      refine WC.condT rfl ((by simpa using hnm)) ?_
      refine WC.seq ?_
      refine WC.region ?_
      refine WL.v (RV.move rfl) rfl ?_
      refine WL.v (RV.nilPtr rfl) rfl ?_
      refine WL.v (RV.fieldAddr 0 Tryz.underlying56 rfl rfl (Tryz.sizeOf53 _) (by decide) rfl) rfl ?_
      refine WL.v (RV.move rfl) rfl ?_
      refine WL.call Tryz.call54 rfl (rfail_ret O1 w5 j rb ({s with pos := (m : Int) - (((skipB r).dropWhile letterB).length : Int), kp := lv, k := true} : LS) ((m : Int) - ((skipB r).length : Int)) 4 hj he hb5) rfl ?_
      rintro u w6 ⟨hb6, hU6⟩
      refine WL.nil ?_
      refine QF.seqNext ?_
      refine WC.ret ?_
      refine QF.blockRet ?_
      refine QF.thenRet ?_
      refine QF.blockRet ?_
      refine QF.thenRet ?_
      refine QF.blockRet ?_
      refine QF.thenRet ?_
      exact QF.done0 rfl ⟨O1, lv, _, _, _, hUt5.trans (hU6.mono (fun _ h => .inl h) hz2), hR5.upd hU6, hb6, rfl, by decide, rfl⟩
    · rw [if_neg hnm] at hM2
      have hwd := word_drop hnm
      refine WC.condF rfl ((by simpa using hnm)) ?_
      refine WC.seq ?_
      refine WC.region ?_
      refine WL.v (RV.move rfl) rfl ?_
      refine WL.v (RV.not rfl) rfl ?_
      refine WL.v (RV.assign rfl) rfl ?_
      refine WL.nil ?_
      refine QF.seqNext ?_
      cases hnum : numM ((skipB r).takeWhile letterB) with
      | none =>
        rw [hnum] at hM2
        have hM : listM r0 = .bad (skipB r).length 5 := by unfold listM; rw [← hMd, ← hM2]; rfl
        rw [hM]
        refine WC.condT rfl (rfl) ?_
        refine WC.seq ?_
        refine WC.region ?_
        refine WL.v (RV.move rfl) rfl ?_
        refine WL.v (RV.nilPtr rfl) rfl ?_
        refine WL.v (RV.fieldAddr 0 Tryz.underlying56 rfl rfl (Tryz.sizeOf53 _) (by decide) rfl) rfl ?_
        refine WL.v (RV.move rfl) rfl ?_
        refine WL.call Tryz.call54 rfl (rfail_ret O1 w5 j rb ({s with pos := (m : Int) - (((skipB r).dropWhile letterB).length : Int), kp := lv, k := true} : LS) ((m : Int) - ((skipB r).length : Int)) 5 hj he hb5) rfl ?_
        rintro u w6 ⟨hb6, hU6⟩
        refine WL.nil ?_
        refine QF.seqNext ?_
        refine WC.ret ?_
        refine QF.blockRet ?_
        refine QF.thenRet ?_
        refine QF.blockRet ?_
        refine QF.thenRet ?_
        refine QF.blockRet ?_
        refine QF.thenRet ?_
        exact QF.done0 rfl ⟨O1, lv, _, _, _, hUt5.trans (hU6.mono (fun _ h => .inl h) hz2), hR5.upd hU6, hb6, rfl, by decide, rfl⟩
      | some c =>
        rw [hnum] at hM2
        dsimp only at hM2
        have hnv : numV ((skipB r).takeWhile letterB) = (c : Int) := by unfold numV; rw [hnum]
        rw [hnv]
        refine WC.condF rfl (rfl) ?_
        have hq5 := hb5.q7
        refine WC.skip ?_
        refine QF.blockNormal ?_
        refine QF.seqNext ?_
        refine WC.region ?_
        refine WL.v (RV.move rfl) rfl ?_
        refine WL.v (RV.move rfl) rfl ?_
        refine WL.v (RV.nilPtr rfl) rfl ?_
        refine WL.v (RV.load (by first | exact hq5) (Tryz.isAgg23 _) rfl) rfl ?_
        refine WL.v (RV.move rfl) rfl ?_
        refine WL.push elI8 hrow5 hR5 ((c : Int)) (fun _ => rfl) rfl rfl rfl (by simp [Value.oneCell', encI]) (by omega) (by omega) (by omega) (by decide) rfl rfl ?_
        intro lv7 w7 O7 hrow7 hU7 hR7
        have hone7 := hrow7.one
        have hb7 := hb5.upd hU7 hj hne
        refine WL.v (RV.nilPtr rfl) rfl ?_
        refine WL.storeBlk (j := 7) hb7 rfl (Tryz.sizeOf23 _) hone7 rfl rfl rfl ?_
        have hb8 := hb7.set 7 lv7
        have hU8 : Upd (fun k => k = j) O7 w7 O7 (w7.setCell ⟨rb, 7, none⟩ lv7) := Upd.set (fun e => hj e.symm) hb7.tag rfl
        have hUt8 := (hUt5.trans (hU7.mono (fun _ h => .inr h) hz2)).trans (hU8.mono (fun _ h => .inl h) hz2)
        refine WL.nil ?_
        refine QF.blockNormal ?_
        refine QF.next ((n, acc ++ [(c : Int)], (skipB r).dropWhile letterB, O7, (w7.setCell ⟨rb, 7, none⟩ lv7), lv7)) (⟨hb8, hrow7.upd hU8 hji (fun e => hne e.symm), (List.dropWhile_suffix _).trans hsuf3, hM2, by dsimp only; omega, by simp; omega, hUt8, hR7.upd hU8⟩) (by dsimp only; omega) ⟨rfl, rfl, trivial⟩ rfl
end Go.Proofs.YtmohcfjopaccdaaGreatDoor
end
section
/- Package rule, walked: a line, with lines of classes; Parse. -/
namespace Go.Proofs.YtmohcfjopaccdaaGreatDoor
open Go.VL Go.Proofs
set_option maxRecDepth 10000

/-- What has been read so far. -/
structure St where
  ts : List R3
  li : List Int
  lk : List Int
  hi : Bool
  hk : Bool
inductive RS where
  | go (s : St)
  | bad (p : Nat) (e : Int)
  | other
def addI (st : St) (d : Nat) : LM → RS
  | .ok l => .go {st with li := l, hi := true}
  | .bad p e => .bad (d - p) e
def addK (st : St) (d : Nat) : LM → RS
  | .ok l => .go {st with lk := l, hk := true}
  | .bad p e => .bad (d - p) e
def addR (st : St) (d : Nat) : LR → RS
  | .ok t => .go {st with ts := st.ts ++ [t]}
  | .bad p e => .bad (d + p) e
def readS (st : St) (seg : List UInt8) : RS :=
  if (lineR seg).length = 0 then .go st
  else if ((lineR seg).takeWhile letterB == [108, 101, 116]) = true then .other
  else if ((lineR seg).takeWhile letterB == [105, 103, 110, 111, 114, 101]) = true then
    (if st.hi = true then .bad ((bareL seg).length - (lineR seg).length) 11 else addI st (bareL seg).length (listM ((lineR seg).dropWhile letterB)))
  else if ((lineR seg).takeWhile letterB == [107, 101, 101, 112]) = true then
    (if st.hk = true then .bad ((bareL seg).length - (lineR seg).length) 11 else addK st (bareL seg).length (listM ((lineR seg).dropWhile letterB)))
  else addR st ((bareL seg).length - (lineR seg).length) (if st.ts.length = 40 then LR.bad 0 3 else ruleM (lineR seg))
/-- What has been read, in memory. -/
structure Mem (O : Nat → Nat) (w : World) (jr ji jk : Nat) (s : LS) (st : St) : Prop where
  ru : ∃ xs, RowT encR 50 7 O w jr s.ru xs ∧ st.ts.length = xs.length ∧ xs.length ≤ 40 ∧ ∀ i, i < xs.length → Rt O w (nth st.ts i) (nth xs i)
  ig : RowT encI 3 1 O w ji s.ig st.li
  kp : RowT encI 3 1 O w jk s.kp st.lk
  fi : s.i = st.hi
  fk : s.k = st.hk
  ni : st.hi = false → s.ig = nilV
  nk : st.hk = false → s.kp = nilV
theorem Mem.upd {S : Nat → Prop} {O O' : Nat → Nat} {w w' : World} {jr ji jk : Nat} {s : LS} {st : St} (h : Mem O w jr ji jk s st) (u : Upd S O w O' w') (h1 : jr ≠ 0) (h2 : ji ≠ 0) (h3 : jk ≠ 0) (g1 : ¬ S jr) (g2 : ¬ S ji) (g3 : ¬ S jk) : Mem O' w' jr ji jk s st := by
  obtain ⟨⟨xs, a1, a2, a3, a4⟩, b, c, d, e, f, g⟩ := h
  exact ⟨⟨xs, a1.upd u h1 g1, a2, a3, fun i hi => (a4 i hi).upd u⟩, b.upd u h2 g2, c.upd u h3 g3, d, e, f, g⟩
/-- The rows alone. -/
theorem Mem.with {O : Nat → Nat} {w : World} {jr ji jk : Nat} {s s' : LS} {st : St} (h : Mem O w jr ji jk s st) (e1 : s'.ru = s.ru) (e2 : s'.ig = s.ig) (e3 : s'.kp = s.kp) (e4 : s'.i = s.i) (e5 : s'.k = s.k) : Mem O w jr ji jk s' st := by
  obtain ⟨a, b, c, d, e, f, g⟩ := h
  exact ⟨by rw [e1]; exact a, by rw [e2]; exact b, by rw [e3]; exact c, by rw [e4]; exact d, by rw [e5]; exact e, by rw [e2]; exact f, by rw [e3]; exact g⟩
theorem Mem.push {O : Nat → Nat} {w : World} {jr ji jk : Nat} {s s' : LS} {st : St} {xs : List X3} {x : X3} {t : R3} (h : Mem O w jr ji jk s st) (hr : RowT encR 50 7 O w jr s'.ru (xs ++ [x])) (h1 : st.ts.length = xs.length) (h2 : xs.length < 40) (h3 : ∀ i, i < xs.length → Rt O w (nth st.ts i) (nth xs i)) (h4 : Rt O w t x) (e2 : s'.ig = s.ig) (e3 : s'.kp = s.kp) (e4 : s'.i = s.i) (e5 : s'.k = s.k) : Mem O w jr ji jk s' {st with ts := st.ts ++ [t]} := by
  obtain ⟨q1, q2, q3, q4⟩ := RowsT.push (ts := st.ts) hr h1 h2 h3 h4
  exact ⟨⟨xs ++ [x], q1, q2, q3, q4⟩, by rw [e2]; exact h.ig, by rw [e3]; exact h.kp, by rw [e4]; exact h.fi, by rw [e5]; exact h.fk, by rw [e2]; exact h.ni, by rw [e3]; exact h.nk⟩
def PostN (B : Nat) (O : Nat → Nat) (w w' : World) (j jr ji jk rb : Nat) (s : LS) (fr : Nat) (M : RS) : Prop :=
  ∃ O' s', Upd (fun k => k = j ∨ k = jr ∨ k = ji ∨ k = jk) O w O' w' ∧ Rng B O' w' ∧ Rd6 O' w' j rb s' ∧ s'.l = s.l ∧ s'.mc = s.mc ∧
    match M with
    | .go st' => s'.e = 0 ∧ Mem O' w' jr ji jk s' st'
    | .bad p e => e ≠ 0 ∧ s'.e = e ∧ s'.bad = (fr : Int) + (p : Int)
    | .other => False
theorem read2_ret (B : Nat) (O : Nat → Nat) (w : World) (j jr ji jk rb : Nat) (s : LS) (fr to : Nat) (seg : List UInt8) (st : St) (hR : Rng B O w) (hj : j ≠ 0) (hjr : jr ≠ 0) (hji : ji ≠ 0) (hjk : jk ≠ 0) (hd1 : j ≠ jr) (hd2 : j ≠ ji) (hd3 : j ≠ jk) (hd4 : jr ≠ ji) (hd5 : jr ≠ jk) (hd6 : ji ≠ jk) (hft : fr ≤ to) (htl : to ≤ s.l.length) (hl' : s.l.length ≤ 100000) (he : s.e = 0) (hmc : s.mc = .slice none 0 0)
    (hseg : (s.l.take to).drop fr = seg) (ha : asciiL seg) (hmem : Mem O w jr ji jk s st) (hother : readS st seg ≠ .other) (h : Rd6 O w j rb s) :
    Ret Tryz.prog 19 [.pointer (some ⟨rb, 0, none⟩), .int .i64 fr, .int .i64 to] w fun _ w' => PostN B O w w' j jr ji jk rb s fr (readS st seg) := by
  have hz4 : ¬ (fun q : Nat => q = j ∨ q = jr ∨ q = ji ∨ q = jk) 0 := fun e => by rcases e with e | e | e | e; exact hj e.symm; exact hjr e.symm; exact hji e.symm; exact hjk e.symm
  have hz1 : ¬ (fun q : Nat => q = j) 0 := fun e => hj e.symm
  have hsl : seg.length = to - fr := by rw [← hseg]; simp; omega
  have hRl : (lineR seg).length ≤ (bareL seg).length := skipB_le _
  have hBl : (bareL seg).length ≤ seg.length := (List.takeWhile_prefix (l := seg) _).length_le
  obtain ⟨m, hmd⟩ : ∃ m, m = fr + (bareL seg).length := ⟨_, rfl⟩
  have hm' : m ≤ s.l.length := by omega
  have hbare : (s.l.take m).drop fr = bareL seg := by
    have h1 : bareL seg = seg.take (bareL seg).length := List.prefix_iff_eq_take.1 (List.takeWhile_prefix _)
    have h2 : (seg.take (bareL seg).length) = (s.l.take m).drop fr := by
      conv => lhs; arg 2; rw [← hseg]
      rw [List.take_drop, List.take_take, Nat.min_eq_left (by omega), hmd]
    rw [← h2, ← h1]
  have hsufB : bareL seg <:+ s.l.take m := by rw [← hbare]; exact List.drop_suffix _ _
  have hsufR : lineR seg <:+ s.l.take m := (skipB_suf _).trans hsufB
  have hposB : (fr : Int) = (m : Int) - ((bareL seg).length : Int) := by omega
  have hbgR : (m : Int) - ((skipB (bareL seg)).length : Int) = ((m - (lineR seg).length : Nat) : Int) := by
    have : (skipB (bareL seg)).length = (lineR seg).length := rfl
    omega
  have haR : asciiL (lineR seg) := fun c hc => ha c ((List.takeWhile_prefix (l := seg) _).subset ((skipB_suf _).subset hc))
  refine Ret.enter Tryz.func19 Tryz.ntmps19 rfl rfl ?_
  refine WC.seq ?_
  refine WC.region ?_
  refine WL.v (RV.move rfl) rfl ?_
  refine WL.v (RV.move rfl) rfl ?_
  refine WL.v (RV.move rfl) rfl ?_
  refine WL.v (RV.move rfl) rfl ?_
  refine WL.v (RV.nilPtr rfl) rfl ?_
  refine WL.v (RV.fieldAddr 0 Tryz.underlying56 rfl rfl (Tryz.sizeOf53 _) (by decide) rfl) rfl ?_
  refine WL.v (RV.fieldAddr 1 Tryz.underlying53 rfl rfl (Tryz.sizeOf3 _) (by decide) rfl) rfl ?_
  refine WL.storeBlk (j := 1) h rfl (Tryz.sizeOf3 _) rfl rfl rfl rfl ?_
  have hb1 := h.s_pos (fr : Int)
  have hU1 : Upd (fun k => k = j) O w O (w.setCell ⟨rb, 1, none⟩ (.int .i64 (fr : Int))) := Upd.set hz1 h.tag rfl
  refine WL.v (RV.nilPtr rfl) rfl ?_
  refine WL.v (RV.fieldAddr 0 Tryz.underlying56 rfl rfl (Tryz.sizeOf53 _) (by decide) rfl) rfl ?_
  refine WL.v (RV.fieldAddr 2 Tryz.underlying53 rfl rfl (Tryz.sizeOf3 _) (by decide) rfl) rfl ?_
  refine WL.storeBlk (j := 2) hb1 rfl (Tryz.sizeOf3 _) rfl rfl rfl rfl ?_
  have hb2 := hb1.s_to (to : Int)
  have hU2 : Upd (fun k => k = j) O (w.setCell ⟨rb, 1, none⟩ (.int .i64 (fr : Int))) O ((w.setCell ⟨rb, 1, none⟩ (.int .i64 (fr : Int))).setCell ⟨rb, 2, none⟩ (.int .i64 (to : Int))) := Upd.set hz1 hb1.tag rfl
  have hU12 := hU1.trans hU2
  have hmem2 := hmem.upd hU12 hjr hji hjk (fun e => hd1 e.symm) (fun e => hd2 e.symm) (fun e => hd3 e.symm)
  have hR2 := hR.upd hU12
  generalize (w.setCell ⟨rb, 1, none⟩ (.int .i64 (fr : Int))).setCell ⟨rb, 2, none⟩ (.int .i64 (to : Int)) = w2 at *
  refine WL.nil ?_
  refine QF.seqNext ?_
  refine WC.seq ?_
  refine WC.seq ?_
  refine WC.region ?_
  refine WL.v (RV.move rfl) rfl ?_
  refine WL.v (RV.nilPtr rfl) rfl ?_
  refine WL.v (RV.fieldAddr 0 Tryz.underlying56 rfl rfl (Tryz.sizeOf53 _) (by decide) rfl) rfl ?_
  refine WL.v (RV.fieldAddr 0 Tryz.underlying53 rfl rfl (Tryz.sizeOf9 _) (by decide) rfl) rfl ?_
  refine WL.v (RV.load (by first | exact hb2.q0 | exact hb2.q1 | exact hb2.q2 | exact hb2.q3 | exact hb2.q4 | exact hb2.q5 | exact hb2.q6 | exact hb2.q7 | exact hb2.q8 | exact hb2.q9 | exact hb2.q10 | exact hb2.q11) (Tryz.isAgg9 _) rfl) rfl ?_
  refine WL.v (RV.move rfl) rfl ?_
  refine WL.v (RV.move rfl) rfl ?_
  refine WL.v (RV.sliceS Tryz.underlying9 rfl rfl rfl fr to rfl rfl hft htl) rfl ?_
  rw [show ({s with pos := (fr : Int), to := (to : Int)} : LS).l = s.l from rfl, hseg]
  refine WL.call Tryz.call18 rfl (indexByte_ret seg 35 w2) rfl ?_
  rintro v w9 ⟨rfl, hw9⟩
  rw [hw9]
  clear hw9 w9
  cases hf : seg.findIdx? (· == 35) with
  | none =>
    have hi : idxB seg 35 = -1 := by unfold idxB; rw [hf]
    have hbe := bareL_none hf
    rw [hi]
    obtain rfl : m = to := by rw [hmd, hbe, hsl]; omega
    refine WL.v (RV.assign rfl) rfl ?_
    refine WL.nil ?_
    refine QF.seqNext ?_
    refine WC.seq ?_
    refine WC.region ?_
    refine WL.v (RV.move rfl) rfl ?_
    refine WL.v (RV.geq rfl rfl) rfl ?_
    refine WL.nil ?_
    refine QF.seqNext ?_
    refine WC.condF rfl (rfl) ?_
    have hmem3 := hmem2
    have hR3 := hR2
    have hUt3 := hU12.mono (S' := fun k => k = j ∨ k = jr ∨ k = ji ∨ k = jk) (fun _ h => .inl h) hz4
    refine WC.skip ?_
    refine QF.seqNext ?_
    refine WC.seq ?_
    refine WC.seq ?_
    refine WC.region ?_
    refine WL.v (RV.move rfl) rfl ?_
    refine WL.v (RV.nilPtr rfl) rfl ?_
    refine WL.v (RV.fieldAddr 0 Tryz.underlying56 rfl rfl (Tryz.sizeOf53 _) (by decide) rfl) rfl ?_
    refine WL.call Tryz.call38 rfl (rblanks_ret O w2 j rb ({s with pos := (fr : Int), to := (m : Int)} : LS) m (bareL seg) hj hm' hl' rfl hsufB hposB hb2) rfl ?_
    rintro v w4 ⟨rfl, hb4, hU4⟩
    have hmem4 := hmem3.upd hU4 hjr hji hjk (fun e => hd1 e.symm) (fun e => hd2 e.symm) (fun e => hd3 e.symm)
    have hR4 := hR3.upd hU4
    have hUt4 := hUt3.trans (hU4.mono (fun _ h => .inl h) hz4)
    refine WL.v (RV.not rfl) rfl ?_
    refine WL.nil ?_
    refine QF.seqNext ?_
    by_cases h0 : (lineR seg).length = 0
    · have hM : readS st seg = .go st := by unfold readS; rw [if_pos h0]
      rw [hM]
      refine WC.condT rfl ((by have h0' : (skipB (bareL seg)).length = 0 := h0; simp [h0'])) ?_
      refine WC.ret ?_
      refine QF.thenRet ?_
      exact QF.done0 rfl ⟨O, _, hUt4, hR4, hb4, rfl, rfl, he, hmem4.with rfl rfl rfl rfl rfl⟩
    · have h0' : (skipB (bareL seg)).length = (lineR seg).length := rfl
      refine WC.condF rfl ((by rw [h0', decide_eq_true (by omega)]; rfl)) ?_
      refine WC.skip ?_
      refine QF.seqNext ?_
      refine WC.seq ?_
      refine WC.region ?_
      refine WL.v (RV.move rfl) rfl ?_
      refine WL.v (RV.move rfl) rfl ?_
      refine WL.v (RV.nilPtr rfl) rfl ?_
      refine WL.v (RV.fieldAddr 0 Tryz.underlying56 rfl rfl (Tryz.sizeOf53 _) (by decide) rfl) rfl ?_
      refine WL.v (RV.fieldAddr 1 Tryz.underlying53 rfl rfl (Tryz.sizeOf3 _) (by decide) rfl) rfl ?_
      refine WL.v (RV.load (by first | exact hb4.q0 | exact hb4.q1 | exact hb4.q2 | exact hb4.q3 | exact hb4.q4 | exact hb4.q5 | exact hb4.q6 | exact hb4.q7 | exact hb4.q8 | exact hb4.q9 | exact hb4.q10 | exact hb4.q11) (Tryz.isAgg3 _) rfl) rfl ?_
      refine WL.v (RV.nilPtr rfl) rfl ?_
      refine WL.v (RV.fieldAddr 0 Tryz.underlying56 rfl rfl (Tryz.sizeOf53 _) (by decide) rfl) rfl ?_
      refine WL.v (RV.fieldAddr 3 Tryz.underlying53 rfl rfl (Tryz.sizeOf3 _) (by decide) rfl) rfl ?_
      refine WL.storeBlk (j := 3) hb4 rfl (Tryz.sizeOf3 _) rfl rfl rfl rfl ?_
      have hb5 := hb4.s_bg ((m : Int) - ((skipB (bareL seg)).length : Int))
      have hU5 : Upd (fun k => k = j) O w4 O (w4.setCell ⟨rb, 3, none⟩ (.int .i64 ((m : Int) - ((skipB (bareL seg)).length : Int)))) := Upd.set (fun e => hj e.symm) hb4.tag rfl
      have hmem5 := hmem4.upd hU5 hjr hji hjk (fun e => hd1 e.symm) (fun e => hd2 e.symm) (fun e => hd3 e.symm)
      have hR5 := hR4.upd hU5
      have hUt5 := hUt4.trans (hU5.mono (fun _ h => .inl h) hz4)
      generalize w4.setCell ⟨rb, 3, none⟩ (.int .i64 ((m : Int) - ((skipB (bareL seg)).length : Int))) = w5 at *
      refine WL.nil ?_
      refine QF.seqNext ?_
      refine WC.seq ?_
      refine WC.region ?_
      refine WL.v (RV.move rfl) rfl ?_
      refine WL.v (RV.nilPtr rfl) rfl ?_
      refine WL.v (RV.fieldAddr 0 Tryz.underlying56 rfl rfl (Tryz.sizeOf53 _) (by decide) rfl) rfl ?_
      refine WL.call Tryz.call39 rfl (rname_ret O w5 j rb ({s with pos := ((m : Int) - ((skipB (bareL seg)).length : Int)), to := (m : Int), bg := ((m : Int) - ((skipB (bareL seg)).length : Int))} : LS) m (lineR seg) hj hm' hl' rfl hsufR rfl hb5) rfl ?_
      rintro v w6 ⟨rfl, hb6, hU6⟩
      have hmem6 := hmem5.upd hU6 hjr hji hjk (fun e => hd1 e.symm) (fun e => hd2 e.symm) (fun e => hd3 e.symm)
      have hR6 := hR5.upd hU6
      have hUt6 := hUt5.trans (hU6.mono (fun _ h => .inl h) hz4)
      have hdl := (List.dropWhile_suffix (l := lineR seg) letterB).length_le
      have hk1 : ((lineR seg).takeWhile letterB == [108, 101, 116]) = false := by
        cases hk : ((lineR seg).takeWhile letterB == [108, 101, 116]) with
        | false => rfl
        | true => exact absurd (by unfold readS; rw [if_neg h0, if_pos hk]) hother
      refine WL.nil ?_
      refine QF.seqNext ?_
      refine WC.block ?_
      refine WC.seq ?_
      refine WC.region ?_
      refine WL.v (RV.eqlS rfl rfl) rfl ?_
      refine WL.v (RV.assign rfl) rfl ?_
      refine WL.nil ?_
      refine QF.seqNext ?_
      refine WC.condF rfl (hk1) ?_
      refine WC.seq ?_
      refine WC.region ?_
      refine WL.v (RV.eqlS rfl rfl) rfl ?_
      refine WL.v (RV.assign rfl) rfl ?_
      refine WL.nil ?_
      refine QF.seqNext ?_
      cases hk2 : ((lineR seg).takeWhile letterB == [105, 103, 110, 111, 114, 101]) with
      | true =>
        refine WC.condT rfl (rfl) ?_
        have hb6d := hb6.drew
        have hmem6d := hmem6.upd (Upd.of_ext (S := fun _ => False) (fun h => h) O (Ext.refl w6).drew) hjr hji hjk (fun h => h) (fun h => h) (fun h => h)
        have hR6d := hR6.drew
        have hUt6d := hUt6.drew
        refine WC.tail 8 rfl rfl (by kernel_rfl) (by kernel_rfl) ?_
        refine WS.v (RV.move rfl) rfl ?_
        refine WS.v (RV.move rfl) rfl ?_
        refine WS.v (RV.nilPtr rfl) rfl ?_
        refine WS.v (RV.fieldAddr 6 Tryz.underlying56 rfl rfl (Tryz.sizeOf26 _) (by decide) rfl) rfl ?_
        refine WS.v (RV.fieldAddr 0 Tryz.underlying26 rfl rfl (Tryz.sizeOf23 _) (by decide) rfl) rfl ?_
        refine WS.v (RV.move rfl) rfl ?_
        refine WS.v (RV.nilPtr rfl) rfl ?_
        refine WS.v (RV.fieldAddr 10 Tryz.underlying56 rfl rfl (Tryz.sizeOf4 _) (by decide) rfl) rfl ?_
        refine WS.go ?_
        cases hfl : st.hi with
        | true =>
          have hM : readS st seg = .bad ((bareL seg).length - (lineR seg).length) 11 := by unfold readS; rw [if_neg h0, if_neg (by rw [hk1]; decide), if_pos hk2, if_pos hfl]
          rw [hM]
          refine WL.call Tryz.call41 rfl (listI2_ret O w6.drew j rb ({s with pos := (m : Int) - (((lineR seg).dropWhile letterB).length : Int), to := (m : Int), bg := ((m : Int) - ((skipB (bareL seg)).length : Int))} : LS) hj he (hmem6d.fi.trans hfl) hb6d) rfl ?_
          rintro u w7 ⟨hb7, hU7⟩
          refine WL.nil ?_
          refine QF.blockNormal ?_
          exact QF.end0 rfl ⟨O, _, hUt6d.trans (hU7.mono (fun _ h => .inl h) hz4), hR6d.upd hU7, hb7, rfl, rfl, by decide, rfl, by dsimp only; rw [h0']; omega⟩
        | false =>
          have hM : readS st seg = addI st (bareL seg).length (listM ((lineR seg).dropWhile letterB)) := by unfold readS; rw [if_neg h0, if_neg (by rw [hk1]; decide), if_pos hk2, if_neg (by rw [hfl]; decide)]
          rw [hM]
          refine WL.call Tryz.call41 rfl (listI_ret B O w6.drew j ji rb ({s with pos := (m : Int) - (((lineR seg).dropWhile letterB).length : Int), to := (m : Int), bg := ((m : Int) - ((skipB (bareL seg)).length : Int))} : LS) m ((lineR seg).dropWhile letterB) hR6d hj hji hd2 hm' hl' rfl he (hmem6d.fi.trans hfl) (hmem6d.ni hfl) ((List.dropWhile_suffix _).trans hsufR) rfl hb6d) rfl ?_
          rintro u w7 ⟨O7, lv, pos, bad, e, hU7, hR7, hb7, hP7⟩
          have hUt7 := hUt6d.trans (hU7.mono (S' := fun k => k = j ∨ k = jr ∨ k = ji ∨ k = jk) (fun _ h => by rcases h with h | h; exact .inl h; exact .inr (.inr (.inl h))) hz4)
          refine WL.nil ?_
          refine QF.blockNormal ?_
          cases hq : listM ((lineR seg).dropWhile letterB) with
          | ok l =>
            rw [hq] at hP7
            obtain ⟨he7, hrow7⟩ := hP7
            obtain ⟨⟨xs, a1, a2, a3, a4⟩, mb, mc, md, me, mf, mg⟩ := hmem6d
            exact QF.end0 rfl ⟨O7, _, hUt7, hR7, hb7, rfl, rfl, he7, ⟨⟨xs, a1.upd hU7 hjr (fun h => by rcases h with h | h; exact hd1 h.symm; exact hd4 h), a2, a3, fun i hi => (a4 i hi).upd hU7⟩, hrow7, mc.upd hU7 hjk (fun h => by rcases h with h | h; exact hd3 h.symm; exact hd6 h.symm), rfl, me, (fun h => by cases h), mg⟩⟩
          | bad p e' =>
            rw [hq] at hP7
            obtain ⟨he7, hne7, hbad7⟩ := hP7
            have hple := listM_le hq
            exact QF.end0 rfl ⟨O7, _, hUt7, hR7, hb7, rfl, rfl, hne7, he7, by dsimp only; rw [hbad7]; omega⟩
      | false =>
        refine WC.condF rfl (rfl) ?_
        refine WC.seq ?_
        refine WC.region ?_
        refine WL.v (RV.eqlS rfl rfl) rfl ?_
        refine WL.v (RV.assign rfl) rfl ?_
        refine WL.nil ?_
        refine QF.seqNext ?_
        cases hk3 : ((lineR seg).takeWhile letterB == [107, 101, 101, 112]) with
        | true =>
          refine WC.condT rfl (rfl) ?_
          have hb6d := hb6.drew
          have hmem6d := hmem6.upd (Upd.of_ext (S := fun _ => False) (fun h => h) O (Ext.refl w6).drew) hjr hji hjk (fun h => h) (fun h => h) (fun h => h)
          have hR6d := hR6.drew
          have hUt6d := hUt6.drew
          refine WC.tail 8 rfl rfl (by kernel_rfl) (by kernel_rfl) ?_
          refine WS.v (RV.move rfl) rfl ?_
          refine WS.v (RV.move rfl) rfl ?_
          refine WS.v (RV.nilPtr rfl) rfl ?_
          refine WS.v (RV.fieldAddr 6 Tryz.underlying56 rfl rfl (Tryz.sizeOf26 _) (by decide) rfl) rfl ?_
          refine WS.v (RV.fieldAddr 1 Tryz.underlying26 rfl rfl (Tryz.sizeOf23 _) (by decide) rfl) rfl ?_
          refine WS.v (RV.move rfl) rfl ?_
          refine WS.v (RV.nilPtr rfl) rfl ?_
          refine WS.v (RV.fieldAddr 11 Tryz.underlying56 rfl rfl (Tryz.sizeOf4 _) (by decide) rfl) rfl ?_
          refine WS.go ?_
          cases hfl : st.hk with
          | true =>
            have hM : readS st seg = .bad ((bareL seg).length - (lineR seg).length) 11 := by unfold readS; rw [if_neg h0, if_neg (by rw [hk1]; decide), if_neg (by rw [hk2]; decide), if_pos hk3, if_pos hfl]
            rw [hM]
            refine WL.call Tryz.call41 rfl (listK2_ret O w6.drew j rb ({s with pos := (m : Int) - (((lineR seg).dropWhile letterB).length : Int), to := (m : Int), bg := ((m : Int) - ((skipB (bareL seg)).length : Int))} : LS) hj he (hmem6d.fk.trans hfl) hb6d) rfl ?_
            rintro u w7 ⟨hb7, hU7⟩
            refine WL.nil ?_
            refine QF.blockNormal ?_
            exact QF.end0 rfl ⟨O, _, hUt6d.trans (hU7.mono (fun _ h => .inl h) hz4), hR6d.upd hU7, hb7, rfl, rfl, by decide, rfl, by dsimp only; rw [h0']; omega⟩
          | false =>
            have hM : readS st seg = addK st (bareL seg).length (listM ((lineR seg).dropWhile letterB)) := by unfold readS; rw [if_neg h0, if_neg (by rw [hk1]; decide), if_neg (by rw [hk2]; decide), if_pos hk3, if_neg (by rw [hfl]; decide)]
            rw [hM]
            refine WL.call Tryz.call41 rfl (listK_ret B O w6.drew j jk rb ({s with pos := (m : Int) - (((lineR seg).dropWhile letterB).length : Int), to := (m : Int), bg := ((m : Int) - ((skipB (bareL seg)).length : Int))} : LS) m ((lineR seg).dropWhile letterB) hR6d hj hjk hd3 hm' hl' rfl he (hmem6d.fk.trans hfl) (hmem6d.nk hfl) ((List.dropWhile_suffix _).trans hsufR) rfl hb6d) rfl ?_
            rintro u w7 ⟨O7, lv, pos, bad, e, hU7, hR7, hb7, hP7⟩
            have hUt7 := hUt6d.trans (hU7.mono (S' := fun k => k = j ∨ k = jr ∨ k = ji ∨ k = jk) (fun _ h => by rcases h with h | h; exact .inl h; exact .inr (.inr (.inr h))) hz4)
            refine WL.nil ?_
            refine QF.blockNormal ?_
            cases hq : listM ((lineR seg).dropWhile letterB) with
            | ok l =>
              rw [hq] at hP7
              obtain ⟨he7, hrow7⟩ := hP7
              obtain ⟨⟨xs, a1, a2, a3, a4⟩, mb, mc, md, me, mf, mg⟩ := hmem6d
              exact QF.end0 rfl ⟨O7, _, hUt7, hR7, hb7, rfl, rfl, he7, ⟨⟨xs, a1.upd hU7 hjr (fun h => by rcases h with h | h; exact hd1 h.symm; exact hd5 h), a2, a3, fun i hi => (a4 i hi).upd hU7⟩, mb.upd hU7 hji (fun h => by rcases h with h | h; exact hd2 h.symm; exact hd6 h), hrow7, md, rfl, mf, (fun h => by cases h)⟩⟩
            | bad p e' =>
              rw [hq] at hP7
              obtain ⟨he7, hne7, hbad7⟩ := hP7
              have hple := listM_le hq
              exact QF.end0 rfl ⟨O7, _, hUt7, hR7, hb7, rfl, rfl, hne7, he7, by dsimp only; rw [hbad7]; omega⟩
        | false =>
          have hM : readS st seg = addR st ((bareL seg).length - (lineR seg).length) (if st.ts.length = 40 then LR.bad 0 3 else ruleM (lineR seg)) := by unfold readS; rw [if_neg h0, if_neg (by rw [hk1]; decide), if_neg (by rw [hk2]; decide), if_neg (by rw [hk3]; decide)]
          refine WC.condF rfl (rfl) ?_
          obtain ⟨xs, hrow6, hxe, hxl, hxr⟩ := hmem6.ru
          refine WC.region ?_
          refine WL.v (RV.move rfl) rfl ?_
          refine WL.call Tryz.call42 rfl (rule_ret B O w6 j jr rb ({s with pos := (m : Int) - (((lineR seg).dropWhile letterB).length : Int), to := (m : Int), bg := ((m : Int) - ((skipB (bareL seg)).length : Int))} : LS) m (lineR seg) xs hR6 hj hjr hd1 hm' hl' rfl hbgR he hmc hsufR haR hrow6 hxl hb6) rfl ?_
          rintro v w7 ⟨O7, rv, hU7, hR7, hP7⟩
          have hUt7 := hUt6.trans (hU7.mono (S' := fun k => k = j ∨ k = jr ∨ k = ji ∨ k = jk) (fun _ h => by rcases h with h | h; exact .inl h; exact .inr (.inl h)) hz4)
          refine WL.nil ?_
          refine QF.blockNormal ?_
          rw [hM, hxe]
          cases hq : (if xs.length = 40 then LR.bad 0 3 else ruleM (lineR seg)) with
          | ok t =>
            rw [hq] at hP7
            obtain ⟨x, hrow7, hRt7, hb7⟩ := hP7
            have h40 : xs.length ≠ 40 := fun e => by rw [if_pos e] at hq; cases hq
            obtain ⟨_, mb, mc, md, me, mf, mg⟩ := hmem6
            obtain ⟨q1, q2, q3, q4⟩ := RowsT.push (ts := st.ts) hrow7 hxe (by omega) (fun i hi => (hxr i hi).upd hU7) hRt7
            exact QF.end0 rfl ⟨O7, _, hUt7, hR7, hb7, rfl, rfl, he, ⟨⟨xs ++ [x], q1, q2, q3, q4⟩, mb.upd hU7 hji (fun h => by rcases h with h | h; exact hd2 h.symm; exact hd4 h.symm), mc.upd hU7 hjk (fun h => by rcases h with h | h; exact hd3 h.symm; exact hd5 h.symm), md, me, mf, mg⟩⟩
          | bad p e =>
            rw [hq] at hP7
            obtain ⟨hne7, hb7⟩ := hP7
            exact QF.end0 rfl ⟨O7, _, hUt7, hR7, hb7, rfl, rfl, hne7, rfl, by dsimp only; rw [h0']; omega⟩
  | some k =>
    have hi : idxB seg 35 = (k : Nat) := by unfold idxB; rw [hf]
    obtain ⟨hbe, hkl⟩ := bareL_some hf
    rw [hi]
    have hmk : m = fr + k := by rw [hmd, hbe]; simp; omega
    refine WL.v (RV.assign rfl) rfl ?_
    refine WL.nil ?_
    refine QF.seqNext ?_
    refine WC.seq ?_
    refine WC.region ?_
    refine WL.v (RV.move rfl) rfl ?_
    refine WL.v (RV.geq rfl rfl) rfl ?_
    refine WL.nil ?_
    refine QF.seqNext ?_
    refine WC.condT rfl ((decide_eq_true (by omega))) ?_
    refine WC.region ?_
    refine WL.v (RV.move rfl) rfl ?_
    refine WL.v (RV.move rfl) rfl ?_
    refine WL.v (RV.move rfl) rfl ?_
    refine WL.v (RV.add rfl rfl (Fit.i64 (by omega))) rfl ?_
    refine WL.v (RV.nilPtr rfl) rfl ?_
    refine WL.v (RV.fieldAddr 0 Tryz.underlying56 rfl rfl (Tryz.sizeOf53 _) (by decide) rfl) rfl ?_
    refine WL.v (RV.fieldAddr 2 Tryz.underlying53 rfl rfl (Tryz.sizeOf3 _) (by decide) rfl) rfl ?_
    refine WL.storeBlk (j := 2) hb2 rfl (Tryz.sizeOf3 _) rfl rfl rfl rfl ?_
    rw [show (fr : Int) + ((k : Nat) : Int) = (m : Int) from by omega]
    have hb3 := hb2.s_to (m : Int)
    have hU3 : Upd (fun k => k = j) O w2 O (w2.setCell ⟨rb, 2, none⟩ (.int .i64 (m : Int))) := Upd.set hz1 hb2.tag rfl
    have hmem3 := hmem2.upd hU3 hjr hji hjk (fun e => hd1 e.symm) (fun e => hd2 e.symm) (fun e => hd3 e.symm)
    have hR3 := hR2.upd hU3
    have hUt3 := (hU12.trans hU3).mono (S' := fun k => k = j ∨ k = jr ∨ k = ji ∨ k = jk) (fun _ h => .inl h) hz4
    generalize w2.setCell ⟨rb, 2, none⟩ (.int .i64 (m : Int)) = w3 at *
    refine WL.nil ?_
    refine QF.seqNext ?_
    refine WC.seq ?_
    refine WC.seq ?_
    refine WC.region ?_
    refine WL.v (RV.move rfl) rfl ?_
    refine WL.v (RV.nilPtr rfl) rfl ?_
    refine WL.v (RV.fieldAddr 0 Tryz.underlying56 rfl rfl (Tryz.sizeOf53 _) (by decide) rfl) rfl ?_
    refine WL.call Tryz.call38 rfl (rblanks_ret O w3 j rb ({s with pos := (fr : Int), to := (m : Int)} : LS) m (bareL seg) hj hm' hl' rfl hsufB hposB hb3) rfl ?_
    rintro v w4 ⟨rfl, hb4, hU4⟩
    have hmem4 := hmem3.upd hU4 hjr hji hjk (fun e => hd1 e.symm) (fun e => hd2 e.symm) (fun e => hd3 e.symm)
    have hR4 := hR3.upd hU4
    have hUt4 := hUt3.trans (hU4.mono (fun _ h => .inl h) hz4)
    refine WL.v (RV.not rfl) rfl ?_
    refine WL.nil ?_
    refine QF.seqNext ?_
    by_cases h0 : (lineR seg).length = 0
    · have hM : readS st seg = .go st := by unfold readS; rw [if_pos h0]
      rw [hM]
      refine WC.condT rfl ((by have h0' : (skipB (bareL seg)).length = 0 := h0; simp [h0'])) ?_
      refine WC.ret ?_
      refine QF.thenRet ?_
      exact QF.done0 rfl ⟨O, _, hUt4, hR4, hb4, rfl, rfl, he, hmem4.with rfl rfl rfl rfl rfl⟩
    · have h0' : (skipB (bareL seg)).length = (lineR seg).length := rfl
      refine WC.condF rfl ((by rw [h0', decide_eq_true (by omega)]; rfl)) ?_
      refine WC.skip ?_
      refine QF.seqNext ?_
      refine WC.seq ?_
      refine WC.region ?_
      refine WL.v (RV.move rfl) rfl ?_
      refine WL.v (RV.move rfl) rfl ?_
      refine WL.v (RV.nilPtr rfl) rfl ?_
      refine WL.v (RV.fieldAddr 0 Tryz.underlying56 rfl rfl (Tryz.sizeOf53 _) (by decide) rfl) rfl ?_
      refine WL.v (RV.fieldAddr 1 Tryz.underlying53 rfl rfl (Tryz.sizeOf3 _) (by decide) rfl) rfl ?_
      refine WL.v (RV.load (by first | exact hb4.q0 | exact hb4.q1 | exact hb4.q2 | exact hb4.q3 | exact hb4.q4 | exact hb4.q5 | exact hb4.q6 | exact hb4.q7 | exact hb4.q8 | exact hb4.q9 | exact hb4.q10 | exact hb4.q11) (Tryz.isAgg3 _) rfl) rfl ?_
      refine WL.v (RV.nilPtr rfl) rfl ?_
      refine WL.v (RV.fieldAddr 0 Tryz.underlying56 rfl rfl (Tryz.sizeOf53 _) (by decide) rfl) rfl ?_
      refine WL.v (RV.fieldAddr 3 Tryz.underlying53 rfl rfl (Tryz.sizeOf3 _) (by decide) rfl) rfl ?_
      refine WL.storeBlk (j := 3) hb4 rfl (Tryz.sizeOf3 _) rfl rfl rfl rfl ?_
      have hb5 := hb4.s_bg ((m : Int) - ((skipB (bareL seg)).length : Int))
      have hU5 : Upd (fun k => k = j) O w4 O (w4.setCell ⟨rb, 3, none⟩ (.int .i64 ((m : Int) - ((skipB (bareL seg)).length : Int)))) := Upd.set (fun e => hj e.symm) hb4.tag rfl
      have hmem5 := hmem4.upd hU5 hjr hji hjk (fun e => hd1 e.symm) (fun e => hd2 e.symm) (fun e => hd3 e.symm)
      have hR5 := hR4.upd hU5
      have hUt5 := hUt4.trans (hU5.mono (fun _ h => .inl h) hz4)
      generalize w4.setCell ⟨rb, 3, none⟩ (.int .i64 ((m : Int) - ((skipB (bareL seg)).length : Int))) = w5 at *
      refine WL.nil ?_
      refine QF.seqNext ?_
      refine WC.seq ?_
      refine WC.region ?_
      refine WL.v (RV.move rfl) rfl ?_
      refine WL.v (RV.nilPtr rfl) rfl ?_
      refine WL.v (RV.fieldAddr 0 Tryz.underlying56 rfl rfl (Tryz.sizeOf53 _) (by decide) rfl) rfl ?_
      refine WL.call Tryz.call39 rfl (rname_ret O w5 j rb ({s with pos := ((m : Int) - ((skipB (bareL seg)).length : Int)), to := (m : Int), bg := ((m : Int) - ((skipB (bareL seg)).length : Int))} : LS) m (lineR seg) hj hm' hl' rfl hsufR rfl hb5) rfl ?_
      rintro v w6 ⟨rfl, hb6, hU6⟩
      have hmem6 := hmem5.upd hU6 hjr hji hjk (fun e => hd1 e.symm) (fun e => hd2 e.symm) (fun e => hd3 e.symm)
      have hR6 := hR5.upd hU6
      have hUt6 := hUt5.trans (hU6.mono (fun _ h => .inl h) hz4)
      have hdl := (List.dropWhile_suffix (l := lineR seg) letterB).length_le
      have hk1 : ((lineR seg).takeWhile letterB == [108, 101, 116]) = false := by
        cases hk : ((lineR seg).takeWhile letterB == [108, 101, 116]) with
        | false => rfl
        | true => exact absurd (by unfold readS; rw [if_neg h0, if_pos hk]) hother
      refine WL.nil ?_
      refine QF.seqNext ?_
      refine WC.block ?_
      refine WC.seq ?_
      refine WC.region ?_
      refine WL.v (RV.eqlS rfl rfl) rfl ?_
      refine WL.v (RV.assign rfl) rfl ?_
      refine WL.nil ?_
      refine QF.seqNext ?_
      refine WC.condF rfl (hk1) ?_
      refine WC.seq ?_
      refine WC.region ?_
      refine WL.v (RV.eqlS rfl rfl) rfl ?_
      refine WL.v (RV.assign rfl) rfl ?_
      refine WL.nil ?_
      refine QF.seqNext ?_
      cases hk2 : ((lineR seg).takeWhile letterB == [105, 103, 110, 111, 114, 101]) with
      | true =>
        refine WC.condT rfl (rfl) ?_
        have hb6d := hb6.drew
        have hmem6d := hmem6.upd (Upd.of_ext (S := fun _ => False) (fun h => h) O (Ext.refl w6).drew) hjr hji hjk (fun h => h) (fun h => h) (fun h => h)
        have hR6d := hR6.drew
        have hUt6d := hUt6.drew
        refine WC.tail 8 rfl rfl (by kernel_rfl) (by kernel_rfl) ?_
        refine WS.v (RV.move rfl) rfl ?_
        refine WS.v (RV.move rfl) rfl ?_
        refine WS.v (RV.nilPtr rfl) rfl ?_
        refine WS.v (RV.fieldAddr 6 Tryz.underlying56 rfl rfl (Tryz.sizeOf26 _) (by decide) rfl) rfl ?_
        refine WS.v (RV.fieldAddr 0 Tryz.underlying26 rfl rfl (Tryz.sizeOf23 _) (by decide) rfl) rfl ?_
        refine WS.v (RV.move rfl) rfl ?_
        refine WS.v (RV.nilPtr rfl) rfl ?_
        refine WS.v (RV.fieldAddr 10 Tryz.underlying56 rfl rfl (Tryz.sizeOf4 _) (by decide) rfl) rfl ?_
        refine WS.go ?_
        cases hfl : st.hi with
        | true =>
          have hM : readS st seg = .bad ((bareL seg).length - (lineR seg).length) 11 := by unfold readS; rw [if_neg h0, if_neg (by rw [hk1]; decide), if_pos hk2, if_pos hfl]
          rw [hM]
          refine WL.call Tryz.call41 rfl (listI2_ret O w6.drew j rb ({s with pos := (m : Int) - (((lineR seg).dropWhile letterB).length : Int), to := (m : Int), bg := ((m : Int) - ((skipB (bareL seg)).length : Int))} : LS) hj he (hmem6d.fi.trans hfl) hb6d) rfl ?_
          rintro u w7 ⟨hb7, hU7⟩
          refine WL.nil ?_
          refine QF.blockNormal ?_
          exact QF.end0 rfl ⟨O, _, hUt6d.trans (hU7.mono (fun _ h => .inl h) hz4), hR6d.upd hU7, hb7, rfl, rfl, by decide, rfl, by dsimp only; rw [h0']; omega⟩
        | false =>
          have hM : readS st seg = addI st (bareL seg).length (listM ((lineR seg).dropWhile letterB)) := by unfold readS; rw [if_neg h0, if_neg (by rw [hk1]; decide), if_pos hk2, if_neg (by rw [hfl]; decide)]
          rw [hM]
          refine WL.call Tryz.call41 rfl (listI_ret B O w6.drew j ji rb ({s with pos := (m : Int) - (((lineR seg).dropWhile letterB).length : Int), to := (m : Int), bg := ((m : Int) - ((skipB (bareL seg)).length : Int))} : LS) m ((lineR seg).dropWhile letterB) hR6d hj hji hd2 hm' hl' rfl he (hmem6d.fi.trans hfl) (hmem6d.ni hfl) ((List.dropWhile_suffix _).trans hsufR) rfl hb6d) rfl ?_
          rintro u w7 ⟨O7, lv, pos, bad, e, hU7, hR7, hb7, hP7⟩
          have hUt7 := hUt6d.trans (hU7.mono (S' := fun k => k = j ∨ k = jr ∨ k = ji ∨ k = jk) (fun _ h => by rcases h with h | h; exact .inl h; exact .inr (.inr (.inl h))) hz4)
          refine WL.nil ?_
          refine QF.blockNormal ?_
          cases hq : listM ((lineR seg).dropWhile letterB) with
          | ok l =>
            rw [hq] at hP7
            obtain ⟨he7, hrow7⟩ := hP7
            obtain ⟨⟨xs, a1, a2, a3, a4⟩, mb, mc, md, me, mf, mg⟩ := hmem6d
            exact QF.end0 rfl ⟨O7, _, hUt7, hR7, hb7, rfl, rfl, he7, ⟨⟨xs, a1.upd hU7 hjr (fun h => by rcases h with h | h; exact hd1 h.symm; exact hd4 h), a2, a3, fun i hi => (a4 i hi).upd hU7⟩, hrow7, mc.upd hU7 hjk (fun h => by rcases h with h | h; exact hd3 h.symm; exact hd6 h.symm), rfl, me, (fun h => by cases h), mg⟩⟩
          | bad p e' =>
            rw [hq] at hP7
            obtain ⟨he7, hne7, hbad7⟩ := hP7
            have hple := listM_le hq
            exact QF.end0 rfl ⟨O7, _, hUt7, hR7, hb7, rfl, rfl, hne7, he7, by dsimp only; rw [hbad7]; omega⟩
      | false =>
        refine WC.condF rfl (rfl) ?_
        refine WC.seq ?_
        refine WC.region ?_
        refine WL.v (RV.eqlS rfl rfl) rfl ?_
        refine WL.v (RV.assign rfl) rfl ?_
        refine WL.nil ?_
        refine QF.seqNext ?_
        cases hk3 : ((lineR seg).takeWhile letterB == [107, 101, 101, 112]) with
        | true =>
          refine WC.condT rfl (rfl) ?_
          have hb6d := hb6.drew
          have hmem6d := hmem6.upd (Upd.of_ext (S := fun _ => False) (fun h => h) O (Ext.refl w6).drew) hjr hji hjk (fun h => h) (fun h => h) (fun h => h)
          have hR6d := hR6.drew
          have hUt6d := hUt6.drew
          refine WC.tail 8 rfl rfl (by kernel_rfl) (by kernel_rfl) ?_
          refine WS.v (RV.move rfl) rfl ?_
          refine WS.v (RV.move rfl) rfl ?_
          refine WS.v (RV.nilPtr rfl) rfl ?_
          refine WS.v (RV.fieldAddr 6 Tryz.underlying56 rfl rfl (Tryz.sizeOf26 _) (by decide) rfl) rfl ?_
          refine WS.v (RV.fieldAddr 1 Tryz.underlying26 rfl rfl (Tryz.sizeOf23 _) (by decide) rfl) rfl ?_
          refine WS.v (RV.move rfl) rfl ?_
          refine WS.v (RV.nilPtr rfl) rfl ?_
          refine WS.v (RV.fieldAddr 11 Tryz.underlying56 rfl rfl (Tryz.sizeOf4 _) (by decide) rfl) rfl ?_
          refine WS.go ?_
          cases hfl : st.hk with
          | true =>
            have hM : readS st seg = .bad ((bareL seg).length - (lineR seg).length) 11 := by unfold readS; rw [if_neg h0, if_neg (by rw [hk1]; decide), if_neg (by rw [hk2]; decide), if_pos hk3, if_pos hfl]
            rw [hM]
            refine WL.call Tryz.call41 rfl (listK2_ret O w6.drew j rb ({s with pos := (m : Int) - (((lineR seg).dropWhile letterB).length : Int), to := (m : Int), bg := ((m : Int) - ((skipB (bareL seg)).length : Int))} : LS) hj he (hmem6d.fk.trans hfl) hb6d) rfl ?_
            rintro u w7 ⟨hb7, hU7⟩
            refine WL.nil ?_
            refine QF.blockNormal ?_
            exact QF.end0 rfl ⟨O, _, hUt6d.trans (hU7.mono (fun _ h => .inl h) hz4), hR6d.upd hU7, hb7, rfl, rfl, by decide, rfl, by dsimp only; rw [h0']; omega⟩
          | false =>
            have hM : readS st seg = addK st (bareL seg).length (listM ((lineR seg).dropWhile letterB)) := by unfold readS; rw [if_neg h0, if_neg (by rw [hk1]; decide), if_neg (by rw [hk2]; decide), if_pos hk3, if_neg (by rw [hfl]; decide)]
            rw [hM]
            refine WL.call Tryz.call41 rfl (listK_ret B O w6.drew j jk rb ({s with pos := (m : Int) - (((lineR seg).dropWhile letterB).length : Int), to := (m : Int), bg := ((m : Int) - ((skipB (bareL seg)).length : Int))} : LS) m ((lineR seg).dropWhile letterB) hR6d hj hjk hd3 hm' hl' rfl he (hmem6d.fk.trans hfl) (hmem6d.nk hfl) ((List.dropWhile_suffix _).trans hsufR) rfl hb6d) rfl ?_
            rintro u w7 ⟨O7, lv, pos, bad, e, hU7, hR7, hb7, hP7⟩
            have hUt7 := hUt6d.trans (hU7.mono (S' := fun k => k = j ∨ k = jr ∨ k = ji ∨ k = jk) (fun _ h => by rcases h with h | h; exact .inl h; exact .inr (.inr (.inr h))) hz4)
            refine WL.nil ?_
            refine QF.blockNormal ?_
            cases hq : listM ((lineR seg).dropWhile letterB) with
            | ok l =>
              rw [hq] at hP7
              obtain ⟨he7, hrow7⟩ := hP7
              obtain ⟨⟨xs, a1, a2, a3, a4⟩, mb, mc, md, me, mf, mg⟩ := hmem6d
              exact QF.end0 rfl ⟨O7, _, hUt7, hR7, hb7, rfl, rfl, he7, ⟨⟨xs, a1.upd hU7 hjr (fun h => by rcases h with h | h; exact hd1 h.symm; exact hd5 h), a2, a3, fun i hi => (a4 i hi).upd hU7⟩, mb.upd hU7 hji (fun h => by rcases h with h | h; exact hd2 h.symm; exact hd6 h), hrow7, md, rfl, mf, (fun h => by cases h)⟩⟩
            | bad p e' =>
              rw [hq] at hP7
              obtain ⟨he7, hne7, hbad7⟩ := hP7
              have hple := listM_le hq
              exact QF.end0 rfl ⟨O7, _, hUt7, hR7, hb7, rfl, rfl, hne7, he7, by dsimp only; rw [hbad7]; omega⟩
        | false =>
          have hM : readS st seg = addR st ((bareL seg).length - (lineR seg).length) (if st.ts.length = 40 then LR.bad 0 3 else ruleM (lineR seg)) := by unfold readS; rw [if_neg h0, if_neg (by rw [hk1]; decide), if_neg (by rw [hk2]; decide), if_neg (by rw [hk3]; decide)]
          refine WC.condF rfl (rfl) ?_
          obtain ⟨xs, hrow6, hxe, hxl, hxr⟩ := hmem6.ru
          refine WC.region ?_
          refine WL.v (RV.move rfl) rfl ?_
          refine WL.call Tryz.call42 rfl (rule_ret B O w6 j jr rb ({s with pos := (m : Int) - (((lineR seg).dropWhile letterB).length : Int), to := (m : Int), bg := ((m : Int) - ((skipB (bareL seg)).length : Int))} : LS) m (lineR seg) xs hR6 hj hjr hd1 hm' hl' rfl hbgR he hmc hsufR haR hrow6 hxl hb6) rfl ?_
          rintro v w7 ⟨O7, rv, hU7, hR7, hP7⟩
          have hUt7 := hUt6.trans (hU7.mono (S' := fun k => k = j ∨ k = jr ∨ k = ji ∨ k = jk) (fun _ h => by rcases h with h | h; exact .inl h; exact .inr (.inl h)) hz4)
          refine WL.nil ?_
          refine QF.blockNormal ?_
          rw [hM, hxe]
          cases hq : (if xs.length = 40 then LR.bad 0 3 else ruleM (lineR seg)) with
          | ok t =>
            rw [hq] at hP7
            obtain ⟨x, hrow7, hRt7, hb7⟩ := hP7
            have h40 : xs.length ≠ 40 := fun e => by rw [if_pos e] at hq; cases hq
            obtain ⟨_, mb, mc, md, me, mf, mg⟩ := hmem6
            obtain ⟨q1, q2, q3, q4⟩ := RowsT.push (ts := st.ts) hrow7 hxe (by omega) (fun i hi => (hxr i hi).upd hU7) hRt7
            exact QF.end0 rfl ⟨O7, _, hUt7, hR7, hb7, rfl, rfl, he, ⟨⟨xs ++ [x], q1, q2, q3, q4⟩, mb.upd hU7 hji (fun h => by rcases h with h | h; exact hd2 h.symm; exact hd4 h.symm), mc.upd hU7 hjk (fun h => by rcases h with h | h; exact hd3 h.symm; exact hd5 h.symm), md, me, mf, mg⟩⟩
          | bad p e =>
            rw [hq] at hP7
            obtain ⟨hne7, hb7⟩ := hP7
            exact QF.end0 rfl ⟨O7, _, hUt7, hR7, hb7, rfl, rfl, hne7, rfl, by dsimp only; rw [h0']; omega⟩
end Go.Proofs.YtmohcfjopaccdaaGreatDoor
end
section
/- Package rule, walked: a line, with lists and macros. -/
namespace Go.Proofs.YtmohcfjopaccdaaGreatDoor
open Go.VL Go.Proofs
set_option maxRecDepth 10000
variable {kn : Kn}
inductive RK where
  | go (kn : Kn) (st : St)
  | bad (p : Nat) (e : Int)
def liftK (kn : Kn) : RS → RK
  | .go st => .go kn st
  | .bad p e => .bad p e
  | .other => .bad 0 0
def addL (kn : Kn) (st : St) (d : Nat) : ML → RK
  | .ok x => .go (kn ++ [x]) st
  | .bad p e => .bad (d - p) e
def readK (kn : Kn) (st : St) (seg : List UInt8) : RK :=
  if (lineR seg).length = 0 then .go kn st
  else if ((lineR seg).takeWhile letterB == [108, 101, 116]) = true then addL kn st (bareL seg).length (letK kn ((lineR seg).dropWhile letterB))
  else if ((lineR seg).takeWhile letterB == [105, 103, 110, 111, 114, 101]) = true then
    (if st.hi = true then .bad ((bareL seg).length - (lineR seg).length) 11 else liftK kn (addI st (bareL seg).length (listM ((lineR seg).dropWhile letterB))))
  else if ((lineR seg).takeWhile letterB == [107, 101, 101, 112]) = true then
    (if st.hk = true then .bad ((bareL seg).length - (lineR seg).length) 11 else liftK kn (addK st (bareL seg).length (listM ((lineR seg).dropWhile letterB))))
  else liftK kn (addR st ((bareL seg).length - (lineR seg).length) (if st.ts.length = 40 then LR.bad 0 3 else ruleK kn (lineR seg)))
def PostK (B : Nat) (O : Nat → Nat) (w w' : World) (j jr ji jk jm rb : Nat) (s : LS) (fr : Nat) (M : RK) : Prop :=
  ∃ O' s', Upd (fun k => k = j ∨ k = jr ∨ k = ji ∨ k = jk ∨ k = jm) O w O' w' ∧ Rng B O' w' ∧ Rd6 O' w' j rb s' ∧ s'.l = s.l ∧
    match M with
    | .go kn' st' => s'.e = 0 ∧ Mem O' w' jr ji jk s' st' ∧ Mac O' w' jm s'.mc kn'
    | .bad p e => e ≠ 0 ∧ s'.e = e ∧ s'.bad = (fr : Int) + (p : Int)
theorem letK_le {r : List UInt8} {p : Nat} {e : Int} (h : letK kn r = .bad p e) : p ≤ r.length := by
  have h1 := skipB_le r
  have h2 := (List.dropWhile_suffix (l := skipB r) letterB).length_le
  have h3 := skipB_le ((skipB r).dropWhile letterB)
  unfold letK at h
  split at h
  · cases h; omega
  · split at h
    · cases h; omega
    · split at h
      · cases hx : exprK kn (skipB ((skipB r).dropWhile letterB)).tail with
        | ok t => rw [hx] at h; cases h
        | bad q f => rw [hx] at h; cases h; omega
      · cases h; omega
theorem read3_ret (B : Nat) (O : Nat → Nat) (w : World) (j jr ji jk jm rb : Nat) (s : LS) (fr to : Nat) (seg : List UInt8) (st : St) (hR : Rng B O w) (hj : j ≠ 0) (hjr : jr ≠ 0) (hji : ji ≠ 0) (hjk : jk ≠ 0) (hd1 : j ≠ jr) (hd2 : j ≠ ji) (hd3 : j ≠ jk) (hd4 : jr ≠ ji) (hd5 : jr ≠ jk) (hd6 : ji ≠ jk) (hjm : jm ≠ 0) (hd7 : j ≠ jm) (hd8 : jr ≠ jm) (hd9 : ji ≠ jm) (hd10 : jk ≠ jm) (hknl : kn.length ≤ 100000) (hft : fr ≤ to) (htl : to ≤ s.l.length) (hl' : s.l.length ≤ 100000) (he : s.e = 0)
    (hseg : (s.l.take to).drop fr = seg) (hmem : Mem O w jr ji jk s st) (hmac : Mac O w jm s.mc kn) (h : Rd6 O w j rb s) :
    Ret Tryz.prog 19 [.pointer (some ⟨rb, 0, none⟩), .int .i64 fr, .int .i64 to] w fun _ w' => PostK B O w w' j jr ji jk jm rb s fr (readK kn st seg) := by
  have hz4 : ¬ (fun q : Nat => q = j ∨ q = jr ∨ q = ji ∨ q = jk ∨ q = jm) 0 := fun e => by rcases e with e | e | e | e | e; exact hj e.symm; exact hjr e.symm; exact hji e.symm; exact hjk e.symm; exact hjm e.symm
  have hz1 : ¬ (fun q : Nat => q = j) 0 := fun e => hj e.symm
  have hsl : seg.length = to - fr := by rw [← hseg]; simp; omega
  have hRl : (lineR seg).length ≤ (bareL seg).length := skipB_le _
  have hBl : (bareL seg).length ≤ seg.length := (List.takeWhile_prefix (l := seg) _).length_le
  obtain ⟨m, hmd⟩ : ∃ m, m = fr + (bareL seg).length := ⟨_, rfl⟩
  have hm' : m ≤ s.l.length := by omega
  have hbare : (s.l.take m).drop fr = bareL seg := by
    have h1 : bareL seg = seg.take (bareL seg).length := List.prefix_iff_eq_take.1 (List.takeWhile_prefix _)
    have h2 : (seg.take (bareL seg).length) = (s.l.take m).drop fr := by
      conv => lhs; arg 2; rw [← hseg]
      rw [List.take_drop, List.take_take, Nat.min_eq_left (by omega), hmd]
    rw [← h2, ← h1]
  have hsufB : bareL seg <:+ s.l.take m := by rw [← hbare]; exact List.drop_suffix _ _
  have hsufR : lineR seg <:+ s.l.take m := (skipB_suf _).trans hsufB
  have hposB : (fr : Int) = (m : Int) - ((bareL seg).length : Int) := by omega
  have hbgR : (m : Int) - ((skipB (bareL seg)).length : Int) = ((m - (lineR seg).length : Nat) : Int) := by
    have : (skipB (bareL seg)).length = (lineR seg).length := rfl
    omega
  refine Ret.enter Tryz.func19 Tryz.ntmps19 rfl rfl ?_
  refine WC.seq ?_
  refine WC.region ?_
  refine WL.v (RV.move rfl) rfl ?_
  refine WL.v (RV.move rfl) rfl ?_
  refine WL.v (RV.move rfl) rfl ?_
  refine WL.v (RV.move rfl) rfl ?_
  refine WL.v (RV.nilPtr rfl) rfl ?_
  refine WL.v (RV.fieldAddr 0 Tryz.underlying56 rfl rfl (Tryz.sizeOf53 _) (by decide) rfl) rfl ?_
  refine WL.v (RV.fieldAddr 1 Tryz.underlying53 rfl rfl (Tryz.sizeOf3 _) (by decide) rfl) rfl ?_
  refine WL.storeBlk (j := 1) h rfl (Tryz.sizeOf3 _) rfl rfl rfl rfl ?_
  have hb1 := h.s_pos (fr : Int)
  have hU1 : Upd (fun k => k = j) O w O (w.setCell ⟨rb, 1, none⟩ (.int .i64 (fr : Int))) := Upd.set hz1 h.tag rfl
  refine WL.v (RV.nilPtr rfl) rfl ?_
  refine WL.v (RV.fieldAddr 0 Tryz.underlying56 rfl rfl (Tryz.sizeOf53 _) (by decide) rfl) rfl ?_
  refine WL.v (RV.fieldAddr 2 Tryz.underlying53 rfl rfl (Tryz.sizeOf3 _) (by decide) rfl) rfl ?_
  refine WL.storeBlk (j := 2) hb1 rfl (Tryz.sizeOf3 _) rfl rfl rfl rfl ?_
  have hb2 := hb1.s_to (to : Int)
  have hU2 : Upd (fun k => k = j) O (w.setCell ⟨rb, 1, none⟩ (.int .i64 (fr : Int))) O ((w.setCell ⟨rb, 1, none⟩ (.int .i64 (fr : Int))).setCell ⟨rb, 2, none⟩ (.int .i64 (to : Int))) := Upd.set hz1 hb1.tag rfl
  have hU12 := hU1.trans hU2
  have hmem2 := hmem.upd hU12 hjr hji hjk (fun e => hd1 e.symm) (fun e => hd2 e.symm) (fun e => hd3 e.symm)
  have hmac2 := hmac.upd hU12 hjm (fun e => hd7 e.symm)
  have hR2 := hR.upd hU12
  generalize (w.setCell ⟨rb, 1, none⟩ (.int .i64 (fr : Int))).setCell ⟨rb, 2, none⟩ (.int .i64 (to : Int)) = w2 at *
  refine WL.nil ?_
  refine QF.seqNext ?_
  refine WC.seq ?_
  refine WC.seq ?_
  refine WC.region ?_
  refine WL.v (RV.move rfl) rfl ?_
  refine WL.v (RV.nilPtr rfl) rfl ?_
  refine WL.v (RV.fieldAddr 0 Tryz.underlying56 rfl rfl (Tryz.sizeOf53 _) (by decide) rfl) rfl ?_
  refine WL.v (RV.fieldAddr 0 Tryz.underlying53 rfl rfl (Tryz.sizeOf9 _) (by decide) rfl) rfl ?_
  refine WL.v (RV.load (by first | exact hb2.q0 | exact hb2.q1 | exact hb2.q2 | exact hb2.q3 | exact hb2.q4 | exact hb2.q5 | exact hb2.q6 | exact hb2.q7 | exact hb2.q8 | exact hb2.q9 | exact hb2.q10 | exact hb2.q11) (Tryz.isAgg9 _) rfl) rfl ?_
  refine WL.v (RV.move rfl) rfl ?_
  refine WL.v (RV.move rfl) rfl ?_
  refine WL.v (RV.sliceS Tryz.underlying9 rfl rfl rfl fr to rfl rfl hft htl) rfl ?_
  rw [show ({s with pos := (fr : Int), to := (to : Int)} : LS).l = s.l from rfl, hseg]
  refine WL.call Tryz.call18 rfl (indexByte_ret seg 35 w2) rfl ?_
  rintro v w9 ⟨rfl, hw9⟩
  rw [hw9]
  clear hw9 w9
  cases hf : seg.findIdx? (· == 35) with
  | none =>
    have hi : idxB seg 35 = -1 := by unfold idxB; rw [hf]
    have hbe := bareL_none hf
    rw [hi]
    obtain rfl : m = to := by rw [hmd, hbe, hsl]; omega
    refine WL.v (RV.assign rfl) rfl ?_
    refine WL.nil ?_
    refine QF.seqNext ?_
    refine WC.seq ?_
    refine WC.region ?_
    refine WL.v (RV.move rfl) rfl ?_
    refine WL.v (RV.geq rfl rfl) rfl ?_
    refine WL.nil ?_
    refine QF.seqNext ?_
    refine WC.condF rfl (rfl) ?_
    have hmem3 := hmem2
    have hmac3 := hmac2
    have hR3 := hR2
    have hUt3 := hU12.mono (S' := fun k => k = j ∨ k = jr ∨ k = ji ∨ k = jk ∨ k = jm) (fun _ h => .inl h) hz4
    refine WC.skip ?_
    refine QF.seqNext ?_
    refine WC.seq ?_
    refine WC.seq ?_
    refine WC.region ?_
    refine WL.v (RV.move rfl) rfl ?_
    refine WL.v (RV.nilPtr rfl) rfl ?_
    refine WL.v (RV.fieldAddr 0 Tryz.underlying56 rfl rfl (Tryz.sizeOf53 _) (by decide) rfl) rfl ?_
    refine WL.call Tryz.call38 rfl (rblanks_ret O w2 j rb ({s with pos := (fr : Int), to := (m : Int)} : LS) m (bareL seg) hj hm' hl' rfl hsufB hposB hb2) rfl ?_
    rintro v w4 ⟨rfl, hb4, hU4⟩
    have hmem4 := hmem3.upd hU4 hjr hji hjk (fun e => hd1 e.symm) (fun e => hd2 e.symm) (fun e => hd3 e.symm)
    have hmac4 := hmac3.upd hU4 hjm (fun e => hd7 e.symm)
    have hR4 := hR3.upd hU4
    have hUt4 := hUt3.trans (hU4.mono (fun _ h => .inl h) hz4)
    refine WL.v (RV.not rfl) rfl ?_
    refine WL.nil ?_
    refine QF.seqNext ?_
    by_cases h0 : (lineR seg).length = 0
    · have hM : readK kn st seg = .go kn st := by unfold readK; rw [if_pos h0]
      rw [hM]
      refine WC.condT rfl ((by have h0' : (skipB (bareL seg)).length = 0 := h0; simp [h0'])) ?_
      refine WC.ret ?_
      refine QF.thenRet ?_
      exact QF.done0 rfl ⟨O, _, hUt4, hR4, hb4, rfl, he, hmem4.with rfl rfl rfl rfl rfl, hmac4⟩
    · have h0' : (skipB (bareL seg)).length = (lineR seg).length := rfl
      refine WC.condF rfl ((by rw [h0', decide_eq_true (by omega)]; rfl)) ?_
      refine WC.skip ?_
      refine QF.seqNext ?_
      refine WC.seq ?_
      refine WC.region ?_
      refine WL.v (RV.move rfl) rfl ?_
      refine WL.v (RV.move rfl) rfl ?_
      refine WL.v (RV.nilPtr rfl) rfl ?_
      refine WL.v (RV.fieldAddr 0 Tryz.underlying56 rfl rfl (Tryz.sizeOf53 _) (by decide) rfl) rfl ?_
      refine WL.v (RV.fieldAddr 1 Tryz.underlying53 rfl rfl (Tryz.sizeOf3 _) (by decide) rfl) rfl ?_
      refine WL.v (RV.load (by first | exact hb4.q0 | exact hb4.q1 | exact hb4.q2 | exact hb4.q3 | exact hb4.q4 | exact hb4.q5 | exact hb4.q6 | exact hb4.q7 | exact hb4.q8 | exact hb4.q9 | exact hb4.q10 | exact hb4.q11) (Tryz.isAgg3 _) rfl) rfl ?_
      refine WL.v (RV.nilPtr rfl) rfl ?_
      refine WL.v (RV.fieldAddr 0 Tryz.underlying56 rfl rfl (Tryz.sizeOf53 _) (by decide) rfl) rfl ?_
      refine WL.v (RV.fieldAddr 3 Tryz.underlying53 rfl rfl (Tryz.sizeOf3 _) (by decide) rfl) rfl ?_
      refine WL.storeBlk (j := 3) hb4 rfl (Tryz.sizeOf3 _) rfl rfl rfl rfl ?_
      have hb5 := hb4.s_bg ((m : Int) - ((skipB (bareL seg)).length : Int))
      have hU5 : Upd (fun k => k = j) O w4 O (w4.setCell ⟨rb, 3, none⟩ (.int .i64 ((m : Int) - ((skipB (bareL seg)).length : Int)))) := Upd.set (fun e => hj e.symm) hb4.tag rfl
      have hmem5 := hmem4.upd hU5 hjr hji hjk (fun e => hd1 e.symm) (fun e => hd2 e.symm) (fun e => hd3 e.symm)
      have hmac5 := hmac4.upd hU5 hjm (fun e => hd7 e.symm)
      have hR5 := hR4.upd hU5
      have hUt5 := hUt4.trans (hU5.mono (fun _ h => .inl h) hz4)
      generalize w4.setCell ⟨rb, 3, none⟩ (.int .i64 ((m : Int) - ((skipB (bareL seg)).length : Int))) = w5 at *
      refine WL.nil ?_
      refine QF.seqNext ?_
      refine WC.seq ?_
      refine WC.region ?_
      refine WL.v (RV.move rfl) rfl ?_
      refine WL.v (RV.nilPtr rfl) rfl ?_
      refine WL.v (RV.fieldAddr 0 Tryz.underlying56 rfl rfl (Tryz.sizeOf53 _) (by decide) rfl) rfl ?_
      refine WL.call Tryz.call39 rfl (rname_ret O w5 j rb ({s with pos := ((m : Int) - ((skipB (bareL seg)).length : Int)), to := (m : Int), bg := ((m : Int) - ((skipB (bareL seg)).length : Int))} : LS) m (lineR seg) hj hm' hl' rfl hsufR rfl hb5) rfl ?_
      rintro v w6 ⟨rfl, hb6, hU6⟩
      have hmem6 := hmem5.upd hU6 hjr hji hjk (fun e => hd1 e.symm) (fun e => hd2 e.symm) (fun e => hd3 e.symm)
      have hmac6 := hmac5.upd hU6 hjm (fun e => hd7 e.symm)
      have hR6 := hR5.upd hU6
      have hUt6 := hUt5.trans (hU6.mono (fun _ h => .inl h) hz4)
      have hdl := (List.dropWhile_suffix (l := lineR seg) letterB).length_le
      refine WL.nil ?_
      refine QF.seqNext ?_
      refine WC.block ?_
      refine WC.seq ?_
      refine WC.region ?_
      refine WL.v (RV.eqlS rfl rfl) rfl ?_
      refine WL.v (RV.assign rfl) rfl ?_
      refine WL.nil ?_
      refine QF.seqNext ?_
      cases hk1 : ((lineR seg).takeWhile letterB == [108, 101, 116]) with
      | true =>
        have hM : readK kn st seg = addL kn st (bareL seg).length (letK kn ((lineR seg).dropWhile letterB)) := by unfold readK; rw [if_neg h0, if_pos hk1]
        rw [hM]
        refine WC.condT rfl (rfl) ?_
        refine WC.region ?_
        refine WL.v (RV.move rfl) rfl ?_
        refine WL.call Tryz.call40 rfl (let_ret B O w6 j jm rb ({s with pos := (m : Int) - (((lineR seg).dropWhile letterB).length : Int), to := (m : Int), bg := ((m : Int) - ((skipB (bareL seg)).length : Int))} : LS) m ((lineR seg).dropWhile letterB) hR6 hj hjm hd7 hm' hl' rfl he ((List.dropWhile_suffix _).trans hsufR) rfl hknl hmac6 hb6) rfl ?_
        rintro u w7 ⟨O7, v7, pos, bad, e, hU7, hR7, hb7, hP7⟩
        have hUt7 := hUt6.trans (hU7.mono (S' := fun k => k = j ∨ k = jr ∨ k = ji ∨ k = jk ∨ k = jm) (fun _ h => by rcases h with h | h; exact .inl h; exact .inr (.inr (.inr (.inr h)))) hz4)
        have hmem7 := hmem6.upd hU7 hjr hji hjk (fun h => by rcases h with h | h; exact hd1 h.symm; exact hd8 h) (fun h => by rcases h with h | h; exact hd2 h.symm; exact hd9 h) (fun h => by rcases h with h | h; exact hd3 h.symm; exact hd10 h)
        refine WL.nil ?_
        refine QF.blockNormal ?_
        cases hq : letK kn ((lineR seg).dropWhile letterB) with
        | ok x =>
          rw [hq] at hP7
          obtain ⟨he7, hmac7⟩ := hP7
          exact QF.end0 rfl ⟨O7, _, hUt7, hR7, hb7, rfl, he7, hmem7.with rfl rfl rfl rfl rfl, hmac7⟩
        | bad p e' =>
          rw [hq] at hP7
          obtain ⟨he7, hne7, hbad7⟩ := hP7
          have hple := letK_le hq
          exact QF.end0 rfl ⟨O7, _, hUt7, hR7, hb7, rfl, hne7, he7, by dsimp only; rw [hbad7]; omega⟩
      | false =>
      refine WC.condF rfl (rfl) ?_
      refine WC.seq ?_
      refine WC.region ?_
      refine WL.v (RV.eqlS rfl rfl) rfl ?_
      refine WL.v (RV.assign rfl) rfl ?_
      refine WL.nil ?_
      refine QF.seqNext ?_
      cases hk2 : ((lineR seg).takeWhile letterB == [105, 103, 110, 111, 114, 101]) with
      | true =>
        refine WC.condT rfl (rfl) ?_
        have hb6d := hb6.drew
        have hmem6d := hmem6.upd (Upd.of_ext (S := fun _ => False) (fun h => h) O (Ext.refl w6).drew) hjr hji hjk (fun h => h) (fun h => h) (fun h => h)
        have hmac6d := hmac6.upd (Upd.of_ext (S := fun _ => False) (fun h => h) O (Ext.refl w6).drew) hjm (fun h => h)
        have hR6d := hR6.drew
        have hUt6d := hUt6.drew
        refine WC.tail 8 rfl rfl (by kernel_rfl) (by kernel_rfl) ?_
        refine WS.v (RV.move rfl) rfl ?_
        refine WS.v (RV.move rfl) rfl ?_
        refine WS.v (RV.nilPtr rfl) rfl ?_
        refine WS.v (RV.fieldAddr 6 Tryz.underlying56 rfl rfl (Tryz.sizeOf26 _) (by decide) rfl) rfl ?_
        refine WS.v (RV.fieldAddr 0 Tryz.underlying26 rfl rfl (Tryz.sizeOf23 _) (by decide) rfl) rfl ?_
        refine WS.v (RV.move rfl) rfl ?_
        refine WS.v (RV.nilPtr rfl) rfl ?_
        refine WS.v (RV.fieldAddr 10 Tryz.underlying56 rfl rfl (Tryz.sizeOf4 _) (by decide) rfl) rfl ?_
        refine WS.go ?_
        cases hfl : st.hi with
        | true =>
          have hM : readK kn st seg = .bad ((bareL seg).length - (lineR seg).length) 11 := by unfold readK; rw [if_neg h0, if_neg (by rw [hk1]; decide), if_pos hk2, if_pos hfl]
          rw [hM]
          refine WL.call Tryz.call41 rfl (listI2_ret O w6.drew j rb ({s with pos := (m : Int) - (((lineR seg).dropWhile letterB).length : Int), to := (m : Int), bg := ((m : Int) - ((skipB (bareL seg)).length : Int))} : LS) hj he (hmem6d.fi.trans hfl) hb6d) rfl ?_
          rintro u w7 ⟨hb7, hU7⟩
          refine WL.nil ?_
          refine QF.blockNormal ?_
          exact QF.end0 rfl ⟨O, _, hUt6d.trans (hU7.mono (fun _ h => .inl h) hz4), hR6d.upd hU7, hb7, rfl, by decide, rfl, by dsimp only; rw [h0']; omega⟩
        | false =>
          have hM : readK kn st seg = liftK kn (addI st (bareL seg).length (listM ((lineR seg).dropWhile letterB))) := by unfold readK; rw [if_neg h0, if_neg (by rw [hk1]; decide), if_pos hk2, if_neg (by rw [hfl]; decide)]
          rw [hM]
          refine WL.call Tryz.call41 rfl (listI_ret B O w6.drew j ji rb ({s with pos := (m : Int) - (((lineR seg).dropWhile letterB).length : Int), to := (m : Int), bg := ((m : Int) - ((skipB (bareL seg)).length : Int))} : LS) m ((lineR seg).dropWhile letterB) hR6d hj hji hd2 hm' hl' rfl he (hmem6d.fi.trans hfl) (hmem6d.ni hfl) ((List.dropWhile_suffix _).trans hsufR) rfl hb6d) rfl ?_
          rintro u w7 ⟨O7, lv, pos, bad, e, hU7, hR7, hb7, hP7⟩
          have hUt7 := hUt6d.trans (hU7.mono (S' := fun k => k = j ∨ k = jr ∨ k = ji ∨ k = jk ∨ k = jm) (fun _ h => by rcases h with h | h; exact .inl h; exact .inr (.inr (.inl h))) hz4)
          refine WL.nil ?_
          refine QF.blockNormal ?_
          cases hq : listM ((lineR seg).dropWhile letterB) with
          | ok l =>
            rw [hq] at hP7
            obtain ⟨he7, hrow7⟩ := hP7
            obtain ⟨⟨xs, a1, a2, a3, a4⟩, mb, mc, md, me, mf, mg⟩ := hmem6d
            exact QF.end0 rfl ⟨O7, _, hUt7, hR7, hb7, rfl, he7, ⟨⟨xs, a1.upd hU7 hjr (fun h => by rcases h with h | h; exact hd1 h.symm; exact hd4 h), a2, a3, fun i hi => (a4 i hi).upd hU7⟩, hrow7, mc.upd hU7 hjk (fun h => by rcases h with h | h; exact hd3 h.symm; exact hd6 h.symm), rfl, me, (fun h => by cases h), mg⟩, hmac6d.upd hU7 hjm (fun h => by rcases h with h | h; exact hd7 h.symm; exact hd9 h.symm)⟩
          | bad p e' =>
            rw [hq] at hP7
            obtain ⟨he7, hne7, hbad7⟩ := hP7
            have hple := listM_le hq
            exact QF.end0 rfl ⟨O7, _, hUt7, hR7, hb7, rfl, hne7, he7, by dsimp only; rw [hbad7]; omega⟩
      | false =>
        refine WC.condF rfl (rfl) ?_
        refine WC.seq ?_
        refine WC.region ?_
        refine WL.v (RV.eqlS rfl rfl) rfl ?_
        refine WL.v (RV.assign rfl) rfl ?_
        refine WL.nil ?_
        refine QF.seqNext ?_
        cases hk3 : ((lineR seg).takeWhile letterB == [107, 101, 101, 112]) with
        | true =>
          refine WC.condT rfl (rfl) ?_
          have hb6d := hb6.drew
          have hmem6d := hmem6.upd (Upd.of_ext (S := fun _ => False) (fun h => h) O (Ext.refl w6).drew) hjr hji hjk (fun h => h) (fun h => h) (fun h => h)
          have hmac6d := hmac6.upd (Upd.of_ext (S := fun _ => False) (fun h => h) O (Ext.refl w6).drew) hjm (fun h => h)
          have hR6d := hR6.drew
          have hUt6d := hUt6.drew
          refine WC.tail 8 rfl rfl (by kernel_rfl) (by kernel_rfl) ?_
          refine WS.v (RV.move rfl) rfl ?_
          refine WS.v (RV.move rfl) rfl ?_
          refine WS.v (RV.nilPtr rfl) rfl ?_
          refine WS.v (RV.fieldAddr 6 Tryz.underlying56 rfl rfl (Tryz.sizeOf26 _) (by decide) rfl) rfl ?_
          refine WS.v (RV.fieldAddr 1 Tryz.underlying26 rfl rfl (Tryz.sizeOf23 _) (by decide) rfl) rfl ?_
          refine WS.v (RV.move rfl) rfl ?_
          refine WS.v (RV.nilPtr rfl) rfl ?_
          refine WS.v (RV.fieldAddr 11 Tryz.underlying56 rfl rfl (Tryz.sizeOf4 _) (by decide) rfl) rfl ?_
          refine WS.go ?_
          cases hfl : st.hk with
          | true =>
            have hM : readK kn st seg = .bad ((bareL seg).length - (lineR seg).length) 11 := by unfold readK; rw [if_neg h0, if_neg (by rw [hk1]; decide), if_neg (by rw [hk2]; decide), if_pos hk3, if_pos hfl]
            rw [hM]
            refine WL.call Tryz.call41 rfl (listK2_ret O w6.drew j rb ({s with pos := (m : Int) - (((lineR seg).dropWhile letterB).length : Int), to := (m : Int), bg := ((m : Int) - ((skipB (bareL seg)).length : Int))} : LS) hj he (hmem6d.fk.trans hfl) hb6d) rfl ?_
            rintro u w7 ⟨hb7, hU7⟩
            refine WL.nil ?_
            refine QF.blockNormal ?_
            exact QF.end0 rfl ⟨O, _, hUt6d.trans (hU7.mono (fun _ h => .inl h) hz4), hR6d.upd hU7, hb7, rfl, by decide, rfl, by dsimp only; rw [h0']; omega⟩
          | false =>
            have hM : readK kn st seg = liftK kn (addK st (bareL seg).length (listM ((lineR seg).dropWhile letterB))) := by unfold readK; rw [if_neg h0, if_neg (by rw [hk1]; decide), if_neg (by rw [hk2]; decide), if_pos hk3, if_neg (by rw [hfl]; decide)]
            rw [hM]
            refine WL.call Tryz.call41 rfl (listK_ret B O w6.drew j jk rb ({s with pos := (m : Int) - (((lineR seg).dropWhile letterB).length : Int), to := (m : Int), bg := ((m : Int) - ((skipB (bareL seg)).length : Int))} : LS) m ((lineR seg).dropWhile letterB) hR6d hj hjk hd3 hm' hl' rfl he (hmem6d.fk.trans hfl) (hmem6d.nk hfl) ((List.dropWhile_suffix _).trans hsufR) rfl hb6d) rfl ?_
            rintro u w7 ⟨O7, lv, pos, bad, e, hU7, hR7, hb7, hP7⟩
            have hUt7 := hUt6d.trans (hU7.mono (S' := fun k => k = j ∨ k = jr ∨ k = ji ∨ k = jk ∨ k = jm) (fun _ h => by rcases h with h | h; exact .inl h; exact .inr (.inr (.inr (.inl h)))) hz4)
            refine WL.nil ?_
            refine QF.blockNormal ?_
            cases hq : listM ((lineR seg).dropWhile letterB) with
            | ok l =>
              rw [hq] at hP7
              obtain ⟨he7, hrow7⟩ := hP7
              obtain ⟨⟨xs, a1, a2, a3, a4⟩, mb, mc, md, me, mf, mg⟩ := hmem6d
              exact QF.end0 rfl ⟨O7, _, hUt7, hR7, hb7, rfl, he7, ⟨⟨xs, a1.upd hU7 hjr (fun h => by rcases h with h | h; exact hd1 h.symm; exact hd5 h), a2, a3, fun i hi => (a4 i hi).upd hU7⟩, mb.upd hU7 hji (fun h => by rcases h with h | h; exact hd2 h.symm; exact hd6 h), hrow7, md, rfl, mf, (fun h => by cases h)⟩, hmac6d.upd hU7 hjm (fun h => by rcases h with h | h; exact hd7 h.symm; exact hd10 h.symm)⟩
            | bad p e' =>
              rw [hq] at hP7
              obtain ⟨he7, hne7, hbad7⟩ := hP7
              have hple := listM_le hq
              exact QF.end0 rfl ⟨O7, _, hUt7, hR7, hb7, rfl, hne7, he7, by dsimp only; rw [hbad7]; omega⟩
        | false =>
          have hM : readK kn st seg = liftK kn (addR st ((bareL seg).length - (lineR seg).length) (if st.ts.length = 40 then LR.bad 0 3 else ruleK kn (lineR seg))) := by unfold readK; rw [if_neg h0, if_neg (by rw [hk1]; decide), if_neg (by rw [hk2]; decide), if_neg (by rw [hk3]; decide)]
          refine WC.condF rfl (rfl) ?_
          obtain ⟨xs, hrow6, hxe, hxl, hxr⟩ := hmem6.ru
          refine WC.region ?_
          refine WL.v (RV.move rfl) rfl ?_
          refine WL.call Tryz.call42 rfl (ruleK_ret B O w6 j jr rb ({s with pos := (m : Int) - (((lineR seg).dropWhile letterB).length : Int), to := (m : Int), bg := ((m : Int) - ((skipB (bareL seg)).length : Int))} : LS) m (lineR seg) xs hR6 hj hjr hd1 hm' hl' rfl hbgR he hjm hd7 hd8 hmac6 hsufR hrow6 hxl hb6) rfl ?_
          rintro v w7 ⟨O7, rv, hU7, hR7, hP7⟩
          have hUt7 := hUt6.trans (hU7.mono (S' := fun k => k = j ∨ k = jr ∨ k = ji ∨ k = jk ∨ k = jm) (fun _ h => by rcases h with h | h; exact .inl h; exact .inr (.inl h)) hz4)
          refine WL.nil ?_
          refine QF.blockNormal ?_
          rw [hM, hxe]
          cases hq : (if xs.length = 40 then LR.bad 0 3 else ruleK kn (lineR seg)) with
          | ok t =>
            rw [hq] at hP7
            obtain ⟨x, hrow7, hRt7, hb7⟩ := hP7
            have h40 : xs.length ≠ 40 := fun e => by rw [if_pos e] at hq; cases hq
            obtain ⟨_, mb, mc, md, me, mf, mg⟩ := hmem6
            obtain ⟨q1, q2, q3, q4⟩ := RowsT.push (ts := st.ts) hrow7 hxe (by omega) (fun i hi => (hxr i hi).upd hU7) hRt7
            exact QF.end0 rfl ⟨O7, _, hUt7, hR7, hb7, rfl, he, ⟨⟨xs ++ [x], q1, q2, q3, q4⟩, mb.upd hU7 hji (fun h => by rcases h with h | h; exact hd2 h.symm; exact hd4 h.symm), mc.upd hU7 hjk (fun h => by rcases h with h | h; exact hd3 h.symm; exact hd5 h.symm), md, me, mf, mg⟩, hmac6.upd hU7 hjm (fun h => by rcases h with h | h; exact hd7 h.symm; exact hd8 h.symm)⟩
          | bad p e =>
            rw [hq] at hP7
            obtain ⟨hne7, hb7⟩ := hP7
            exact QF.end0 rfl ⟨O7, _, hUt7, hR7, hb7, rfl, hne7, rfl, by dsimp only; rw [h0']; omega⟩
  | some k =>
    have hi : idxB seg 35 = (k : Nat) := by unfold idxB; rw [hf]
    obtain ⟨hbe, hkl⟩ := bareL_some hf
    rw [hi]
    have hmk : m = fr + k := by rw [hmd, hbe]; simp; omega
    refine WL.v (RV.assign rfl) rfl ?_
    refine WL.nil ?_
    refine QF.seqNext ?_
    refine WC.seq ?_
    refine WC.region ?_
    refine WL.v (RV.move rfl) rfl ?_
    refine WL.v (RV.geq rfl rfl) rfl ?_
    refine WL.nil ?_
    refine QF.seqNext ?_
    refine WC.condT rfl ((decide_eq_true (by omega))) ?_
    refine WC.region ?_
    refine WL.v (RV.move rfl) rfl ?_
    refine WL.v (RV.move rfl) rfl ?_
    refine WL.v (RV.move rfl) rfl ?_
    refine WL.v (RV.add rfl rfl (Fit.i64 (by omega))) rfl ?_
    refine WL.v (RV.nilPtr rfl) rfl ?_
    refine WL.v (RV.fieldAddr 0 Tryz.underlying56 rfl rfl (Tryz.sizeOf53 _) (by decide) rfl) rfl ?_
    refine WL.v (RV.fieldAddr 2 Tryz.underlying53 rfl rfl (Tryz.sizeOf3 _) (by decide) rfl) rfl ?_
    refine WL.storeBlk (j := 2) hb2 rfl (Tryz.sizeOf3 _) rfl rfl rfl rfl ?_
    rw [show (fr : Int) + ((k : Nat) : Int) = (m : Int) from by omega]
    have hb3 := hb2.s_to (m : Int)
    have hU3 : Upd (fun k => k = j) O w2 O (w2.setCell ⟨rb, 2, none⟩ (.int .i64 (m : Int))) := Upd.set hz1 hb2.tag rfl
    have hmem3 := hmem2.upd hU3 hjr hji hjk (fun e => hd1 e.symm) (fun e => hd2 e.symm) (fun e => hd3 e.symm)
    have hmac3 := hmac2.upd hU3 hjm (fun e => hd7 e.symm)
    have hR3 := hR2.upd hU3
    have hUt3 := (hU12.trans hU3).mono (S' := fun k => k = j ∨ k = jr ∨ k = ji ∨ k = jk ∨ k = jm) (fun _ h => .inl h) hz4
    generalize w2.setCell ⟨rb, 2, none⟩ (.int .i64 (m : Int)) = w3 at *
    refine WL.nil ?_
    refine QF.seqNext ?_
    refine WC.seq ?_
    refine WC.seq ?_
    refine WC.region ?_
    refine WL.v (RV.move rfl) rfl ?_
    refine WL.v (RV.nilPtr rfl) rfl ?_
    refine WL.v (RV.fieldAddr 0 Tryz.underlying56 rfl rfl (Tryz.sizeOf53 _) (by decide) rfl) rfl ?_
    refine WL.call Tryz.call38 rfl (rblanks_ret O w3 j rb ({s with pos := (fr : Int), to := (m : Int)} : LS) m (bareL seg) hj hm' hl' rfl hsufB hposB hb3) rfl ?_
    rintro v w4 ⟨rfl, hb4, hU4⟩
    have hmem4 := hmem3.upd hU4 hjr hji hjk (fun e => hd1 e.symm) (fun e => hd2 e.symm) (fun e => hd3 e.symm)
    have hmac4 := hmac3.upd hU4 hjm (fun e => hd7 e.symm)
    have hR4 := hR3.upd hU4
    have hUt4 := hUt3.trans (hU4.mono (fun _ h => .inl h) hz4)
    refine WL.v (RV.not rfl) rfl ?_
    refine WL.nil ?_
    refine QF.seqNext ?_
    by_cases h0 : (lineR seg).length = 0
    · have hM : readK kn st seg = .go kn st := by unfold readK; rw [if_pos h0]
      rw [hM]
      refine WC.condT rfl ((by have h0' : (skipB (bareL seg)).length = 0 := h0; simp [h0'])) ?_
      refine WC.ret ?_
      refine QF.thenRet ?_
      exact QF.done0 rfl ⟨O, _, hUt4, hR4, hb4, rfl, he, hmem4.with rfl rfl rfl rfl rfl, hmac4⟩
    · have h0' : (skipB (bareL seg)).length = (lineR seg).length := rfl
      refine WC.condF rfl ((by rw [h0', decide_eq_true (by omega)]; rfl)) ?_
      refine WC.skip ?_
      refine QF.seqNext ?_
      refine WC.seq ?_
      refine WC.region ?_
      refine WL.v (RV.move rfl) rfl ?_
      refine WL.v (RV.move rfl) rfl ?_
      refine WL.v (RV.nilPtr rfl) rfl ?_
      refine WL.v (RV.fieldAddr 0 Tryz.underlying56 rfl rfl (Tryz.sizeOf53 _) (by decide) rfl) rfl ?_
      refine WL.v (RV.fieldAddr 1 Tryz.underlying53 rfl rfl (Tryz.sizeOf3 _) (by decide) rfl) rfl ?_
      refine WL.v (RV.load (by first | exact hb4.q0 | exact hb4.q1 | exact hb4.q2 | exact hb4.q3 | exact hb4.q4 | exact hb4.q5 | exact hb4.q6 | exact hb4.q7 | exact hb4.q8 | exact hb4.q9 | exact hb4.q10 | exact hb4.q11) (Tryz.isAgg3 _) rfl) rfl ?_
      refine WL.v (RV.nilPtr rfl) rfl ?_
      refine WL.v (RV.fieldAddr 0 Tryz.underlying56 rfl rfl (Tryz.sizeOf53 _) (by decide) rfl) rfl ?_
      refine WL.v (RV.fieldAddr 3 Tryz.underlying53 rfl rfl (Tryz.sizeOf3 _) (by decide) rfl) rfl ?_
      refine WL.storeBlk (j := 3) hb4 rfl (Tryz.sizeOf3 _) rfl rfl rfl rfl ?_
      have hb5 := hb4.s_bg ((m : Int) - ((skipB (bareL seg)).length : Int))
      have hU5 : Upd (fun k => k = j) O w4 O (w4.setCell ⟨rb, 3, none⟩ (.int .i64 ((m : Int) - ((skipB (bareL seg)).length : Int)))) := Upd.set (fun e => hj e.symm) hb4.tag rfl
      have hmem5 := hmem4.upd hU5 hjr hji hjk (fun e => hd1 e.symm) (fun e => hd2 e.symm) (fun e => hd3 e.symm)
      have hmac5 := hmac4.upd hU5 hjm (fun e => hd7 e.symm)
      have hR5 := hR4.upd hU5
      have hUt5 := hUt4.trans (hU5.mono (fun _ h => .inl h) hz4)
      generalize w4.setCell ⟨rb, 3, none⟩ (.int .i64 ((m : Int) - ((skipB (bareL seg)).length : Int))) = w5 at *
      refine WL.nil ?_
      refine QF.seqNext ?_
      refine WC.seq ?_
      refine WC.region ?_
      refine WL.v (RV.move rfl) rfl ?_
      refine WL.v (RV.nilPtr rfl) rfl ?_
      refine WL.v (RV.fieldAddr 0 Tryz.underlying56 rfl rfl (Tryz.sizeOf53 _) (by decide) rfl) rfl ?_
      refine WL.call Tryz.call39 rfl (rname_ret O w5 j rb ({s with pos := ((m : Int) - ((skipB (bareL seg)).length : Int)), to := (m : Int), bg := ((m : Int) - ((skipB (bareL seg)).length : Int))} : LS) m (lineR seg) hj hm' hl' rfl hsufR rfl hb5) rfl ?_
      rintro v w6 ⟨rfl, hb6, hU6⟩
      have hmem6 := hmem5.upd hU6 hjr hji hjk (fun e => hd1 e.symm) (fun e => hd2 e.symm) (fun e => hd3 e.symm)
      have hmac6 := hmac5.upd hU6 hjm (fun e => hd7 e.symm)
      have hR6 := hR5.upd hU6
      have hUt6 := hUt5.trans (hU6.mono (fun _ h => .inl h) hz4)
      have hdl := (List.dropWhile_suffix (l := lineR seg) letterB).length_le
      refine WL.nil ?_
      refine QF.seqNext ?_
      refine WC.block ?_
      refine WC.seq ?_
      refine WC.region ?_
      refine WL.v (RV.eqlS rfl rfl) rfl ?_
      refine WL.v (RV.assign rfl) rfl ?_
      refine WL.nil ?_
      refine QF.seqNext ?_
      cases hk1 : ((lineR seg).takeWhile letterB == [108, 101, 116]) with
      | true =>
        have hM : readK kn st seg = addL kn st (bareL seg).length (letK kn ((lineR seg).dropWhile letterB)) := by unfold readK; rw [if_neg h0, if_pos hk1]
        rw [hM]
        refine WC.condT rfl (rfl) ?_
        refine WC.region ?_
        refine WL.v (RV.move rfl) rfl ?_
        refine WL.call Tryz.call40 rfl (let_ret B O w6 j jm rb ({s with pos := (m : Int) - (((lineR seg).dropWhile letterB).length : Int), to := (m : Int), bg := ((m : Int) - ((skipB (bareL seg)).length : Int))} : LS) m ((lineR seg).dropWhile letterB) hR6 hj hjm hd7 hm' hl' rfl he ((List.dropWhile_suffix _).trans hsufR) rfl hknl hmac6 hb6) rfl ?_
        rintro u w7 ⟨O7, v7, pos, bad, e, hU7, hR7, hb7, hP7⟩
        have hUt7 := hUt6.trans (hU7.mono (S' := fun k => k = j ∨ k = jr ∨ k = ji ∨ k = jk ∨ k = jm) (fun _ h => by rcases h with h | h; exact .inl h; exact .inr (.inr (.inr (.inr h)))) hz4)
        have hmem7 := hmem6.upd hU7 hjr hji hjk (fun h => by rcases h with h | h; exact hd1 h.symm; exact hd8 h) (fun h => by rcases h with h | h; exact hd2 h.symm; exact hd9 h) (fun h => by rcases h with h | h; exact hd3 h.symm; exact hd10 h)
        refine WL.nil ?_
        refine QF.blockNormal ?_
        cases hq : letK kn ((lineR seg).dropWhile letterB) with
        | ok x =>
          rw [hq] at hP7
          obtain ⟨he7, hmac7⟩ := hP7
          exact QF.end0 rfl ⟨O7, _, hUt7, hR7, hb7, rfl, he7, hmem7.with rfl rfl rfl rfl rfl, hmac7⟩
        | bad p e' =>
          rw [hq] at hP7
          obtain ⟨he7, hne7, hbad7⟩ := hP7
          have hple := letK_le hq
          exact QF.end0 rfl ⟨O7, _, hUt7, hR7, hb7, rfl, hne7, he7, by dsimp only; rw [hbad7]; omega⟩
      | false =>
      refine WC.condF rfl (rfl) ?_
      refine WC.seq ?_
      refine WC.region ?_
      refine WL.v (RV.eqlS rfl rfl) rfl ?_
      refine WL.v (RV.assign rfl) rfl ?_
      refine WL.nil ?_
      refine QF.seqNext ?_
      cases hk2 : ((lineR seg).takeWhile letterB == [105, 103, 110, 111, 114, 101]) with
      | true =>
        refine WC.condT rfl (rfl) ?_
        have hb6d := hb6.drew
        have hmem6d := hmem6.upd (Upd.of_ext (S := fun _ => False) (fun h => h) O (Ext.refl w6).drew) hjr hji hjk (fun h => h) (fun h => h) (fun h => h)
        have hmac6d := hmac6.upd (Upd.of_ext (S := fun _ => False) (fun h => h) O (Ext.refl w6).drew) hjm (fun h => h)
        have hR6d := hR6.drew
        have hUt6d := hUt6.drew
        refine WC.tail 8 rfl rfl (by kernel_rfl) (by kernel_rfl) ?_
        refine WS.v (RV.move rfl) rfl ?_
        refine WS.v (RV.move rfl) rfl ?_
        refine WS.v (RV.nilPtr rfl) rfl ?_
        refine WS.v (RV.fieldAddr 6 Tryz.underlying56 rfl rfl (Tryz.sizeOf26 _) (by decide) rfl) rfl ?_
        refine WS.v (RV.fieldAddr 0 Tryz.underlying26 rfl rfl (Tryz.sizeOf23 _) (by decide) rfl) rfl ?_
        refine WS.v (RV.move rfl) rfl ?_
        refine WS.v (RV.nilPtr rfl) rfl ?_
        refine WS.v (RV.fieldAddr 10 Tryz.underlying56 rfl rfl (Tryz.sizeOf4 _) (by decide) rfl) rfl ?_
        refine WS.go ?_
        cases hfl : st.hi with
        | true =>
          have hM : readK kn st seg = .bad ((bareL seg).length - (lineR seg).length) 11 := by unfold readK; rw [if_neg h0, if_neg (by rw [hk1]; decide), if_pos hk2, if_pos hfl]
          rw [hM]
          refine WL.call Tryz.call41 rfl (listI2_ret O w6.drew j rb ({s with pos := (m : Int) - (((lineR seg).dropWhile letterB).length : Int), to := (m : Int), bg := ((m : Int) - ((skipB (bareL seg)).length : Int))} : LS) hj he (hmem6d.fi.trans hfl) hb6d) rfl ?_
          rintro u w7 ⟨hb7, hU7⟩
          refine WL.nil ?_
          refine QF.blockNormal ?_
          exact QF.end0 rfl ⟨O, _, hUt6d.trans (hU7.mono (fun _ h => .inl h) hz4), hR6d.upd hU7, hb7, rfl, by decide, rfl, by dsimp only; rw [h0']; omega⟩
        | false =>
          have hM : readK kn st seg = liftK kn (addI st (bareL seg).length (listM ((lineR seg).dropWhile letterB))) := by unfold readK; rw [if_neg h0, if_neg (by rw [hk1]; decide), if_pos hk2, if_neg (by rw [hfl]; decide)]
          rw [hM]
          refine WL.call Tryz.call41 rfl (listI_ret B O w6.drew j ji rb ({s with pos := (m : Int) - (((lineR seg).dropWhile letterB).length : Int), to := (m : Int), bg := ((m : Int) - ((skipB (bareL seg)).length : Int))} : LS) m ((lineR seg).dropWhile letterB) hR6d hj hji hd2 hm' hl' rfl he (hmem6d.fi.trans hfl) (hmem6d.ni hfl) ((List.dropWhile_suffix _).trans hsufR) rfl hb6d) rfl ?_
          rintro u w7 ⟨O7, lv, pos, bad, e, hU7, hR7, hb7, hP7⟩
          have hUt7 := hUt6d.trans (hU7.mono (S' := fun k => k = j ∨ k = jr ∨ k = ji ∨ k = jk ∨ k = jm) (fun _ h => by rcases h with h | h; exact .inl h; exact .inr (.inr (.inl h))) hz4)
          refine WL.nil ?_
          refine QF.blockNormal ?_
          cases hq : listM ((lineR seg).dropWhile letterB) with
          | ok l =>
            rw [hq] at hP7
            obtain ⟨he7, hrow7⟩ := hP7
            obtain ⟨⟨xs, a1, a2, a3, a4⟩, mb, mc, md, me, mf, mg⟩ := hmem6d
            exact QF.end0 rfl ⟨O7, _, hUt7, hR7, hb7, rfl, he7, ⟨⟨xs, a1.upd hU7 hjr (fun h => by rcases h with h | h; exact hd1 h.symm; exact hd4 h), a2, a3, fun i hi => (a4 i hi).upd hU7⟩, hrow7, mc.upd hU7 hjk (fun h => by rcases h with h | h; exact hd3 h.symm; exact hd6 h.symm), rfl, me, (fun h => by cases h), mg⟩, hmac6d.upd hU7 hjm (fun h => by rcases h with h | h; exact hd7 h.symm; exact hd9 h.symm)⟩
          | bad p e' =>
            rw [hq] at hP7
            obtain ⟨he7, hne7, hbad7⟩ := hP7
            have hple := listM_le hq
            exact QF.end0 rfl ⟨O7, _, hUt7, hR7, hb7, rfl, hne7, he7, by dsimp only; rw [hbad7]; omega⟩
      | false =>
        refine WC.condF rfl (rfl) ?_
        refine WC.seq ?_
        refine WC.region ?_
        refine WL.v (RV.eqlS rfl rfl) rfl ?_
        refine WL.v (RV.assign rfl) rfl ?_
        refine WL.nil ?_
        refine QF.seqNext ?_
        cases hk3 : ((lineR seg).takeWhile letterB == [107, 101, 101, 112]) with
        | true =>
          refine WC.condT rfl (rfl) ?_
          have hb6d := hb6.drew
          have hmem6d := hmem6.upd (Upd.of_ext (S := fun _ => False) (fun h => h) O (Ext.refl w6).drew) hjr hji hjk (fun h => h) (fun h => h) (fun h => h)
          have hmac6d := hmac6.upd (Upd.of_ext (S := fun _ => False) (fun h => h) O (Ext.refl w6).drew) hjm (fun h => h)
          have hR6d := hR6.drew
          have hUt6d := hUt6.drew
          refine WC.tail 8 rfl rfl (by kernel_rfl) (by kernel_rfl) ?_
          refine WS.v (RV.move rfl) rfl ?_
          refine WS.v (RV.move rfl) rfl ?_
          refine WS.v (RV.nilPtr rfl) rfl ?_
          refine WS.v (RV.fieldAddr 6 Tryz.underlying56 rfl rfl (Tryz.sizeOf26 _) (by decide) rfl) rfl ?_
          refine WS.v (RV.fieldAddr 1 Tryz.underlying26 rfl rfl (Tryz.sizeOf23 _) (by decide) rfl) rfl ?_
          refine WS.v (RV.move rfl) rfl ?_
          refine WS.v (RV.nilPtr rfl) rfl ?_
          refine WS.v (RV.fieldAddr 11 Tryz.underlying56 rfl rfl (Tryz.sizeOf4 _) (by decide) rfl) rfl ?_
          refine WS.go ?_
          cases hfl : st.hk with
          | true =>
            have hM : readK kn st seg = .bad ((bareL seg).length - (lineR seg).length) 11 := by unfold readK; rw [if_neg h0, if_neg (by rw [hk1]; decide), if_neg (by rw [hk2]; decide), if_pos hk3, if_pos hfl]
            rw [hM]
            refine WL.call Tryz.call41 rfl (listK2_ret O w6.drew j rb ({s with pos := (m : Int) - (((lineR seg).dropWhile letterB).length : Int), to := (m : Int), bg := ((m : Int) - ((skipB (bareL seg)).length : Int))} : LS) hj he (hmem6d.fk.trans hfl) hb6d) rfl ?_
            rintro u w7 ⟨hb7, hU7⟩
            refine WL.nil ?_
            refine QF.blockNormal ?_
            exact QF.end0 rfl ⟨O, _, hUt6d.trans (hU7.mono (fun _ h => .inl h) hz4), hR6d.upd hU7, hb7, rfl, by decide, rfl, by dsimp only; rw [h0']; omega⟩
          | false =>
            have hM : readK kn st seg = liftK kn (addK st (bareL seg).length (listM ((lineR seg).dropWhile letterB))) := by unfold readK; rw [if_neg h0, if_neg (by rw [hk1]; decide), if_neg (by rw [hk2]; decide), if_pos hk3, if_neg (by rw [hfl]; decide)]
            rw [hM]
            refine WL.call Tryz.call41 rfl (listK_ret B O w6.drew j jk rb ({s with pos := (m : Int) - (((lineR seg).dropWhile letterB).length : Int), to := (m : Int), bg := ((m : Int) - ((skipB (bareL seg)).length : Int))} : LS) m ((lineR seg).dropWhile letterB) hR6d hj hjk hd3 hm' hl' rfl he (hmem6d.fk.trans hfl) (hmem6d.nk hfl) ((List.dropWhile_suffix _).trans hsufR) rfl hb6d) rfl ?_
            rintro u w7 ⟨O7, lv, pos, bad, e, hU7, hR7, hb7, hP7⟩
            have hUt7 := hUt6d.trans (hU7.mono (S' := fun k => k = j ∨ k = jr ∨ k = ji ∨ k = jk ∨ k = jm) (fun _ h => by rcases h with h | h; exact .inl h; exact .inr (.inr (.inr (.inl h)))) hz4)
            refine WL.nil ?_
            refine QF.blockNormal ?_
            cases hq : listM ((lineR seg).dropWhile letterB) with
            | ok l =>
              rw [hq] at hP7
              obtain ⟨he7, hrow7⟩ := hP7
              obtain ⟨⟨xs, a1, a2, a3, a4⟩, mb, mc, md, me, mf, mg⟩ := hmem6d
              exact QF.end0 rfl ⟨O7, _, hUt7, hR7, hb7, rfl, he7, ⟨⟨xs, a1.upd hU7 hjr (fun h => by rcases h with h | h; exact hd1 h.symm; exact hd5 h), a2, a3, fun i hi => (a4 i hi).upd hU7⟩, mb.upd hU7 hji (fun h => by rcases h with h | h; exact hd2 h.symm; exact hd6 h), hrow7, md, rfl, mf, (fun h => by cases h)⟩, hmac6d.upd hU7 hjm (fun h => by rcases h with h | h; exact hd7 h.symm; exact hd10 h.symm)⟩
            | bad p e' =>
              rw [hq] at hP7
              obtain ⟨he7, hne7, hbad7⟩ := hP7
              have hple := listM_le hq
              exact QF.end0 rfl ⟨O7, _, hUt7, hR7, hb7, rfl, hne7, he7, by dsimp only; rw [hbad7]; omega⟩
        | false =>
          have hM : readK kn st seg = liftK kn (addR st ((bareL seg).length - (lineR seg).length) (if st.ts.length = 40 then LR.bad 0 3 else ruleK kn (lineR seg))) := by unfold readK; rw [if_neg h0, if_neg (by rw [hk1]; decide), if_neg (by rw [hk2]; decide), if_neg (by rw [hk3]; decide)]
          refine WC.condF rfl (rfl) ?_
          obtain ⟨xs, hrow6, hxe, hxl, hxr⟩ := hmem6.ru
          refine WC.region ?_
          refine WL.v (RV.move rfl) rfl ?_
          refine WL.call Tryz.call42 rfl (ruleK_ret B O w6 j jr rb ({s with pos := (m : Int) - (((lineR seg).dropWhile letterB).length : Int), to := (m : Int), bg := ((m : Int) - ((skipB (bareL seg)).length : Int))} : LS) m (lineR seg) xs hR6 hj hjr hd1 hm' hl' rfl hbgR he hjm hd7 hd8 hmac6 hsufR hrow6 hxl hb6) rfl ?_
          rintro v w7 ⟨O7, rv, hU7, hR7, hP7⟩
          have hUt7 := hUt6.trans (hU7.mono (S' := fun k => k = j ∨ k = jr ∨ k = ji ∨ k = jk ∨ k = jm) (fun _ h => by rcases h with h | h; exact .inl h; exact .inr (.inl h)) hz4)
          refine WL.nil ?_
          refine QF.blockNormal ?_
          rw [hM, hxe]
          cases hq : (if xs.length = 40 then LR.bad 0 3 else ruleK kn (lineR seg)) with
          | ok t =>
            rw [hq] at hP7
            obtain ⟨x, hrow7, hRt7, hb7⟩ := hP7
            have h40 : xs.length ≠ 40 := fun e => by rw [if_pos e] at hq; cases hq
            obtain ⟨_, mb, mc, md, me, mf, mg⟩ := hmem6
            obtain ⟨q1, q2, q3, q4⟩ := RowsT.push (ts := st.ts) hrow7 hxe (by omega) (fun i hi => (hxr i hi).upd hU7) hRt7
            exact QF.end0 rfl ⟨O7, _, hUt7, hR7, hb7, rfl, he, ⟨⟨xs ++ [x], q1, q2, q3, q4⟩, mb.upd hU7 hji (fun h => by rcases h with h | h; exact hd2 h.symm; exact hd4 h.symm), mc.upd hU7 hjk (fun h => by rcases h with h | h; exact hd3 h.symm; exact hd5 h.symm), md, me, mf, mg⟩, hmac6.upd hU7 hjm (fun h => by rcases h with h | h; exact hd7 h.symm; exact hd8 h.symm)⟩
          | bad p e =>
            rw [hq] at hP7
            obtain ⟨hne7, hb7⟩ := hP7
            exact QF.end0 rfl ⟨O7, _, hUt7, hR7, hb7, rfl, hne7, rfl, by dsimp only; rw [h0']; omega⟩
end Go.Proofs.YtmohcfjopaccdaaGreatDoor
end
section
/- Package rule, walked: Parse, with macros. -/
namespace Go.Proofs.YtmohcfjopaccdaaGreatDoor
open Go.VL Go.Proofs
set_option maxRecDepth 10000

inductive TK where
  | ok (st : St)
  | bad (p : Nat) (e : Int)
def linesK : Nat → Kn → St → Nat → List UInt8 → TK
  | 0, _, _, _, _ => .bad 0 3
  | n + 1, kn, st, fr, r =>
    match readK kn st (lineT r) with
    | .bad p e => .bad (fr + p) e
    | .go kn' st' => if (lineT r).length = r.length then .ok st' else linesK n kn' st' (fr + (lineT r).length + 1) (r.drop ((lineT r).length + 1))
def st0 : St := ⟨[], [], [], false, false⟩
def parseK (l : List UInt8) : TK := if 4096 < l.length then .bad 0 3 else linesK (l.length + 1) [] st0 0 l
theorem readK_len {kn kn' : Kn} {st st' : St} {seg : List UInt8} (h : readK kn st seg = .go kn' st') : kn'.length ≤ kn.length + 1 := by
  have hl : ∀ {R : RS}, liftK kn R = .go kn' st' → kn'.length ≤ kn.length + 1 := fun {R} h => by
    cases R with
    | go s => cases h; omega
    | bad p e => cases h
    | other => cases h
  unfold readK at h
  split at h
  · cases h; omega
  · split at h
    · unfold addL at h
      split at h
      · cases h; simp
      · cases h
    · split at h
      · split at h
        · cases h
        · exact hl h
      · split at h
        · split at h
          · cases h
          · exact hl h
        · exact hl h
def LoopK (l : List UInt8) (M : TK) (O : Nat → Nat) (w : World) (jr ji jk jm : Nat) (n fr : Nat) (kn : Kn) (st : St) (s : LS) : Prop :=
  (fr ≤ l.length ∧ s.e = 0 ∧ l.length - fr < n ∧ linesK n kn st fr (l.drop fr) = M ∧ Mem O w jr ji jk s st ∧ Mac O w jm s.mc kn ∧ kn.length ≤ fr) ∨ (fr = l.length + 1 ∧ s.e = 0 ∧ M = .ok st ∧ Mem O w jr ji jk s st) ∨
  (∃ p e, e ≠ 0 ∧ s.e = e ∧ s.bad = ((p : Nat) : Int) ∧ M = .bad p e)
theorem LoopK.next {l : List UInt8} {M : TK} {B j jr ji jk jm rb n fr : Nat} {O : Nat → Nat} {w w' : World} {kn : Kn} {st : St} {s : LS} (hfr : fr ≤ l.length) (hn : l.length - fr < n + 1) (hM : linesK (n + 1) kn st fr (l.drop fr) = M) (hkf : kn.length ≤ fr)
    (hP : PostK B O w w' j jr ji jk jm rb s fr (readK kn st (lineT (l.drop fr)))) :
    ∃ O' s' n' kn' st', Upd (fun k => k = j ∨ k = jr ∨ k = ji ∨ k = jk ∨ k = jm) O w O' w' ∧ Rng B O' w' ∧ Rd6 O' w' j rb s' ∧ s'.l = s.l ∧ n' < n + 1 ∧ LoopK l M O' w' jr ji jk jm n' (fr + (lineT (l.drop fr)).length + 1) kn' st' s' := by
  obtain ⟨O', s', hU, hR, hb, e1, hq⟩ := hP
  have hll : (lineT (l.drop fr)).length ≤ l.length - fr := by
    have := (List.takeWhile_prefix (l := l.drop fr) (fun b => !(b == 10))).length_le
    simpa [lineT] using this
  have hdl : (l.drop fr).length = l.length - fr := by simp
  unfold linesK at hM
  refine ⟨O', s', ?_⟩
  cases hr : readK kn st (lineT (l.drop fr)) with
  | bad p e =>
    rw [hr] at hq hM
    obtain ⟨q1, q2, q3⟩ := hq
    exact ⟨0, kn, st, hU, hR, hb, e1, by omega, .inr (.inr ⟨fr + p, e, q1, q2, by rw [q3]; simp, hM.symm⟩)⟩
  | go kn' st' =>
    have hkn := readK_len hr
    rw [hr] at hq hM
    dsimp only at hM
    obtain ⟨q1, q2, q3⟩ := hq
    split at hM
    · rename_i he
      exact ⟨0, kn', st', hU, hR, hb, e1, by omega, .inr (.inl ⟨by omega, q1, hM.symm, q2⟩)⟩
    · rename_i he
      exact ⟨n, kn', st', hU, hR, hb, e1, by omega, .inl ⟨by omega, q1, by omega, by rw [← hM, List.drop_drop, Nat.add_assoc], q2, q3, by omega⟩⟩
def PostS6 (w : World) (v : Value) : TK → Prop
  | .ok st => ∃ tv, v = .tuple #[tv, .int .i64 0, .int .i64 0] ∧ Tx w tv st.li st.lk st.ts
  | .bad p e => v = .tuple #[txtV nilV nilV nilV, .int .i64 (p : Int), .int .i64 e] ∧ e ≠ 0
theorem Mem.tx {O : Nat → Nat} {w : World} {jr ji jk : Nat} {s : LS} {st : St} (h : Mem O w jr ji jk s st) : Tx w (txtV s.ig s.kp s.ru) st.li st.lk st.ts := by
  obtain ⟨xs, a1, a2, a3, a4⟩ := h.ru
  exact ⟨s.ig, s.kp, s.ru, xs, rfl, h.ig.sl, h.kp.sl, a1.sl, a2, fun i hi => (a4 i hi).weak fun _ _ => rfl⟩
theorem Tx.nil (w : World) : Tx w (txtV nilV nilV nilV) [] [] [] := ⟨_, _, _, [], rfl, (RowT.nil encI 3 1 (fun _ => 0) w 1).sl, (RowT.nil encI 3 1 (fun _ => 0) w 1).sl, (RowT.nil encR 50 7 (fun _ => 0) w 1).sl, rfl, fun i hi => absurd hi (by simp)⟩
theorem rparse3_ret (l : List UInt8) (B : Nat) (O : Nat → Nat) (w : World) (hR : Rng B O w) (hlm : l.length ≤ 1000000000) : Ret Tryz.prog 8 [.string (bs l)] w fun v w' => Ext w w' ∧ PostS6 w' v (parseK l) := by
  obtain ⟨T, hT0, hT⟩ := hR.bound
  have hzz : ¬ (fun q : Nat => T ≤ q) 0 := fun e => by omega
  have hTT : ∀ b, ¬ T ≤ O b := fun b => by have := hT b; omega
  refine Ret.enter Tryz.func8 Tryz.ntmps8 rfl rfl ?_
  refine WC.seq ?_
  refine WC.region ?_
  refine WL.allocO hR T (by omega) (Tryz.zeroValue26 _) rfl ?_
  intro xb w1 O1 hx1 hU1 hR1 hE1
  have hUt1 : Upd (fun q => T ≤ q) O w O1 w1 := hU1.mono (fun _ h => Nat.le_of_eq h.symm) hzz
  refine WL.v (RV.assign rfl) rfl ?_
  refine WL.v (RV.assign rfl) rfl ?_
  refine WL.nil ?_
  refine QF.seqNext ?_
  refine WC.seq ?_
  refine WC.seq ?_
  refine WC.region ?_
  refine WL.v (RV.move rfl) rfl ?_
  refine WL.v (RV.lenS Tryz.underlying9 rfl) rfl ?_
  refine WL.v (RV.gtr rfl rfl) rfl ?_
  refine WL.nil ?_
  refine QF.seqNext ?_
  by_cases hl : 4096 < l.length
  · have hM : parseK l = .bad 0 3 := by unfold parseK; rw [if_pos hl]
    rw [hM]
    refine WC.condT rfl ((decide_eq_true (by omega))) ?_
    refine WC.seq ?_
    refine WC.region ?_
    refine WL.v (RV.buildF pl26 (Tryz.zeroValue26 _) rfl (by first | rfl | (simp only [List.all_cons, List.all_nil]; rfl)) rfl rfl) rfl ?_
    refine WL.storeAgg (us := (#[.slice none 0 0, .slice none 0 0, .slice none 0 0] : Array Value)) hx1 rfl (Tryz.sizeOf26 _) rfl rfl rfl rfl ?_
    have hxz := hx1.setRow (us := (#[.slice none 0 0, .slice none 0 0, .slice none 0 0] : Array Value))
    have hUz : Upd (fun k => k = T) O1 w1 O1 (w1.setRow xb (#[.slice none 0 0, .slice none 0 0, .slice none 0 0] : Array Value)) := Upd.setRow (by omega) hx1.tag rfl
    refine WL.v (RV.assign rfl) rfl ?_
    refine WL.v (RV.assign rfl) rfl ?_
    refine WL.nil ?_
    refine QF.seqNext ?_
    refine WC.ret ?_
    refine QF.thenRet ?_
    refine QF.doneC3 rfl rfl rfl rfl hxz.cellsAdd (Tryz.isAgg26 _) (Tryz.sizeOf26 _) ⟨Upd.noneE (hUt1.trans (hUz.mono (fun _ h => Nat.le_of_eq h.symm) hzz)) hTT, rfl, by decide⟩
  · have hM0 : parseK l = linesK (l.length + 1) [] st0 0 l := by unfold parseK; rw [if_neg hl]
    refine WC.condF rfl ((decide_eq_false (by omega))) ?_
    refine WC.skip ?_
    refine QF.seqNext ?_
    refine WC.seq ?_
    refine WC.region ?_
    refine WL.v (RV.move rfl) rfl ?_
    refine WL.v (RV.buildF pl53 (Tryz.zeroValue53 _) rfl (by first | rfl | (simp only [List.all_cons, List.all_nil]; rfl)) rfl rfl) rfl ?_
    refine WL.v (RV.build (vs := [(0, .agg #[.string (bs l), .int .i64 0, .int .i64 0, .int .i64 0, .int .i64 0, .int .i64 0])]) (cells := (⟨l, 0, 0, 0, 0, 0, .slice none 0 0, .slice none 0 0, .slice none 0 0, .slice none 0 0, false, false⟩ : LS).cells) pl56 (Tryz.zeroValue56 _) rfl (by kernel_rfl)) rfl ?_
    refine WL.boxO hR1 (T + 1) (by omega) rfl rfl ?_
    intro rb w2 O2 hb2' hU2 hR2 hE2
    have hb2 : Rd6 O2 w2 (T + 1) rb ⟨l, 0, 0, 0, 0, 0, .slice none 0 0, .slice none 0 0, .slice none 0 0, .slice none 0 0, false, false⟩ := hb2'
    have hx2 := hx1.upd hU2 (by omega) (by omega)
    have hUt2 := hUt1.trans (hU2.mono (fun _ h => by rw [h]; omega) hzz)
    refine WL.v (RV.assign rfl) rfl ?_
    refine WL.nil ?_
    refine QF.seqNext ?_
    refine WC.seq ?_
    refine WC.seq ?_
    refine WC.region ?_
    refine WL.v (RV.assign rfl) rfl ?_
    refine WL.nil ?_
    refine QF.seqNext ?_
    refine WC.block ?_
    refine WC.loop (fun y : Nat × Nat × Kn × St × (Nat → Nat) × World × LS => [(0, .string (bs l)), (2, .pointer (some ⟨xb, 0, none⟩)), (5, .pointer (some ⟨rb, 0, none⟩)), (6, .int .i64 (y.2.1 : Nat))]) (fun y : Nat × Nat × Kn × St × (Nat → Nat) × World × LS => y.2.2.2.2.2.1) (fun y : Nat × Nat × Kn × St × (Nat → Nat) × World × LS => BlkO y.2.2.2.2.1 y.2.2.2.2.2.1 T xb (#[.slice none 0 0, .slice none 0 0, .slice none 0 0] : Array Value) 26 ∧ Rd6 y.2.2.2.2.1 y.2.2.2.2.2.1 (T + 1) rb y.2.2.2.2.2.2 ∧ y.2.2.2.2.2.2.l = l ∧ Upd (fun q => T ≤ q) O w y.2.2.2.2.1 y.2.2.2.2.2.1 ∧ Rng B y.2.2.2.2.1 y.2.2.2.2.2.1 ∧ y.2.1 ≤ 10000000 ∧ LoopK l (parseK l) y.2.2.2.2.1 y.2.2.2.2.2.1 (T + 2) (T + 3) (T + 4) (T + 5) y.1 y.2.1 y.2.2.1 y.2.2.2.1 y.2.2.2.2.2.2) (fun y : Nat × Nat × Kn × St × (Nat → Nat) × World × LS => y.1) (l.length + 1, 0, [], st0, O2, w2, ⟨l, 0, 0, 0, 0, 0, .slice none 0 0, .slice none 0 0, .slice none 0 0, .slice none 0 0, false, false⟩) (⟨hx2, hb2, rfl, hUt2, hR2, by dsimp only; omega, .inl ⟨by dsimp only; omega, rfl, by dsimp only; omega, by rw [hM0]; rfl, ⟨⟨[], RowT.nil _ _ _ _ _ _, rfl, by simp, fun i hi => absurd hi (by simp)⟩, RowT.nil _ _ _ _ _ _, RowT.nil _ _ _ _ _ _, rfl, rfl, fun _ => rfl, fun _ => rfl⟩, Mac.nil _ _ _, Nat.zero_le _⟩⟩) ⟨rfl, rfl, rfl, rfl, trivial⟩ rfl ?_
    rintro ⟨n, fr, kn, st, O1, w3, s⟩ ⟨hx3, hb3, hsl, hUt3, hR3, hfb, hL3⟩
    dsimp only at hx3 hb3 hsl hUt3 hR3 hfb hL3 ⊢
    rcases hL3 with ⟨hfr, he, hnn, hMM, hrows, hmac, hkf⟩ | ⟨hfr, he, hMM, hrows⟩ | ⟨p, e, hne, hee, hbad, hMM⟩
    · obtain ⟨n, rfl⟩ : ∃ m, n = m + 1 := ⟨n - 1, by omega⟩
      have hll : (lineT (l.drop fr)).length ≤ l.length - fr := by
        have := (List.takeWhile_prefix (l := l.drop fr) (fun b => !(b == 10))).length_le
        simpa [lineT] using this
      have q5 := hb3.q5
      rw [he] at q5
      refine WC.seq ?_
      refine WC.seq ?_
      refine WC.region ?_
      refine WL.v (RV.move rfl) rfl ?_
      refine WL.v (RV.move rfl) rfl ?_
      refine WL.v (RV.lenS Tryz.underlying9 rfl) rfl ?_
      refine WL.v (RV.leq rfl rfl) rfl ?_
      refine WL.v (RV.move rfl) rfl ?_
      refine WL.know (d := 21) rfl (b' := true) ((decide_eq_true (by omega))) ?_
      refine WL.on rfl ?_
      refine WL.v (RV.move rfl) rfl ?_
      refine WL.on rfl ?_
      refine WL.v (RV.nilPtr rfl) rfl ?_
      refine WL.on rfl ?_
      refine WL.v (RV.fieldAddr 0 Tryz.underlying56 rfl rfl (Tryz.sizeOf53 _) (by decide) rfl) rfl ?_
      refine WL.on rfl ?_
      refine WL.v (RV.fieldAddr 5 Tryz.underlying53 rfl rfl (Tryz.sizeOf27 _) (by decide) rfl) rfl ?_
      refine WL.on rfl ?_
      refine WL.v (RV.load (by first | exact q5) (Tryz.isAgg27 _) rfl) rfl ?_
      refine WL.on rfl ?_
      refine WL.v (RV.eql rfl rfl) rfl ?_
      refine WL.v (RV.pickT rfl rfl) rfl ?_
      refine WL.nil ?_
      refine QF.seqNext ?_
      refine WC.condT rfl (rfl) ?_
      refine WC.skip ?_
      refine QF.seqNext ?_
      refine WC.block ?_
      refine WC.seq ?_
      refine WC.region ?_
      refine WL.v (RV.move rfl) rfl ?_
      refine WL.v (RV.lenS Tryz.underlying9 rfl) rfl ?_
      refine WL.v (RV.assign rfl) rfl ?_
      refine WL.nil ?_
      refine QF.seqNext ?_
      refine WC.seq ?_
      refine WC.seq ?_
      refine WC.region ?_
      refine WL.v (RV.move rfl) rfl ?_
      refine WL.v (RV.move rfl) rfl ?_
      refine WL.v (RV.sliceSlo Tryz.underlying9 rfl rfl fr rfl hfr) rfl ?_
      refine WL.call Tryz.call18 rfl (indexByte_ret (l.drop fr) 10 w3) rfl ?_
      rintro v w9 ⟨rfl, hw9⟩
      rw [hw9]
      clear hw9 w9
      cases hf : (l.drop fr).findIdx? (· == 10) with
      | none =>
        have hi : idxB (l.drop fr) 10 = -1 := by unfold idxB; rw [hf]
        have hln := congrArg List.length (lineT_none hf)
        rw [List.length_drop] at hln
        rw [hi, show ((l.length : Nat) : Int) = ((fr + (lineT (l.drop fr)).length : Nat) : Int) from by omega]
        refine WL.v (RV.assign rfl) rfl ?_
        refine WL.nil ?_
        refine QF.seqNext ?_
        refine WC.seq ?_
        refine WC.region ?_
        refine WL.v (RV.move rfl) rfl ?_
        refine WL.v (RV.geq rfl rfl) rfl ?_
        refine WL.nil ?_
        refine QF.seqNext ?_
        refine WC.condF rfl (rfl) ?_
        refine WC.skip ?_
        refine QF.seqNext ?_
        refine WC.seq ?_
        refine WC.region ?_
        refine WL.v (RV.move rfl) rfl ?_
        refine WL.v (RV.move rfl) rfl ?_
        refine WL.v (RV.move rfl) rfl ?_
        refine WL.call Tryz.call19 rfl (read3_ret B O1 w3 (T + 1) (T + 2) (T + 3) (T + 4) (T + 5) rb s fr (fr + (lineT (l.drop fr)).length) (lineT (l.drop fr)) st hR3 (by omega) (by omega) (by omega) (by omega) (by omega) (by omega) (by omega) (by omega) (by omega) (by omega) (by omega) (by omega) (by omega) (by omega) (by omega) (by omega) (by omega) (by rw [hsl]; omega) (by rw [hsl]; omega) he (by rw [hsl]; exact lineT_seg l fr) hrows hmac hb3) rfl ?_
        rintro v w4 hP4
        obtain ⟨O4, s4, n4, kn4, st4, hU4, hR4, hb4, g1, hlt4, hL4⟩ := LoopK.next hfr hnn hMM hkf hP4
        have hx4 := BlkO.upd hx3 hU4 (by omega) (by omega)
        have hUt4 := hUt3.trans (hU4.mono (fun _ h => by rcases h with h | h | h | h | h <;> rw [h] <;> omega) hzz)
        refine WL.nil ?_
        refine QF.seqNext ?_
        refine WC.region ?_
        refine WL.v (RV.move rfl) rfl ?_
        refine WL.v (RV.add rfl rfl (Fit.i64 (by omega))) rfl ?_
        refine WL.v (RV.assign rfl) rfl ?_
        refine WL.nil ?_
        refine QF.blockNormal ?_
        refine QF.next ((n4, fr + (lineT (l.drop fr)).length + 1, kn4, st4, O4, w4, s4)) (⟨hx4, hb4, g1.trans hsl, hUt4, hR4, by dsimp only; omega, hL4⟩) (hlt4) ⟨rfl, rfl, rfl, rfl, trivial⟩ rfl
      | some k =>
        have hi : idxB (l.drop fr) 10 = (k : Nat) := by unfold idxB; rw [hf]
        have hln := lineT_some hf
        rw [hi]
        refine WL.v (RV.assign rfl) rfl ?_
        refine WL.nil ?_
        refine QF.seqNext ?_
        refine WC.seq ?_
        refine WC.region ?_
        refine WL.v (RV.move rfl) rfl ?_
        refine WL.v (RV.geq rfl rfl) rfl ?_
        refine WL.nil ?_
        refine QF.seqNext ?_
        refine WC.condT rfl ((decide_eq_true (by omega))) ?_
        refine WC.region ?_
        refine WL.v (RV.move rfl) rfl ?_
        refine WL.v (RV.move rfl) rfl ?_
        refine WL.v (RV.add rfl rfl (Fit.i64 (by omega))) rfl ?_
        refine WL.v (RV.assign rfl) rfl ?_
        refine WL.nil ?_
        refine QF.seqNext ?_
        refine WC.seq ?_
        refine WC.region ?_
        refine WL.v (RV.move rfl) rfl ?_
        refine WL.v (RV.move rfl) rfl ?_
        refine WL.v (RV.move rfl) rfl ?_
        rw [show (fr : Int) + ((k : Nat) : Int) = ((fr + (lineT (l.drop fr)).length : Nat) : Int) from by omega]
        refine WL.call Tryz.call19 rfl (read3_ret B O1 w3 (T + 1) (T + 2) (T + 3) (T + 4) (T + 5) rb s fr (fr + (lineT (l.drop fr)).length) (lineT (l.drop fr)) st hR3 (by omega) (by omega) (by omega) (by omega) (by omega) (by omega) (by omega) (by omega) (by omega) (by omega) (by omega) (by omega) (by omega) (by omega) (by omega) (by omega) (by omega) (by rw [hsl]; omega) (by rw [hsl]; omega) he (by rw [hsl]; exact lineT_seg l fr) hrows hmac hb3) rfl ?_
        rintro v w4 hP4
        obtain ⟨O4, s4, n4, kn4, st4, hU4, hR4, hb4, g1, hlt4, hL4⟩ := LoopK.next hfr hnn hMM hkf hP4
        have hx4 := BlkO.upd hx3 hU4 (by omega) (by omega)
        have hUt4 := hUt3.trans (hU4.mono (fun _ h => by rcases h with h | h | h | h | h <;> rw [h] <;> omega) hzz)
        refine WL.nil ?_
        refine QF.seqNext ?_
        refine WC.region ?_
        refine WL.v (RV.move rfl) rfl ?_
        refine WL.v (RV.add rfl rfl (Fit.i64 (by omega))) rfl ?_
        refine WL.v (RV.assign rfl) rfl ?_
        refine WL.nil ?_
        refine QF.blockNormal ?_
        refine QF.next ((n4, fr + (lineT (l.drop fr)).length + 1, kn4, st4, O4, w4, s4)) (⟨hx4, hb4, g1.trans hsl, hUt4, hR4, by dsimp only; omega, hL4⟩) (hlt4) ⟨rfl, rfl, rfl, rfl, trivial⟩ rfl
    · skip
      have q5 := hb3.q5
      rw [he] at q5
      refine WC.seq ?_
      refine WC.seq ?_
      refine WC.region ?_
      refine WL.v (RV.move rfl) rfl ?_
      refine WL.v (RV.move rfl) rfl ?_
      refine WL.v (RV.lenS Tryz.underlying9 rfl) rfl ?_
      refine WL.v (RV.leq rfl rfl) rfl ?_
      refine WL.v (RV.move rfl) rfl ?_
      refine WL.know (d := 21) rfl (b' := false) ((decide_eq_false (by omega))) ?_
      rw [hMM]
      have q6 := hb3.q6
      have q7 := hb3.q7
      have q8 := hb3.q8
      have htx := hrows.tx
      have hl6 := hrows.ig.one
      have hl7 := hrows.kp.one
      obtain ⟨xs, hru, _, _, _⟩ := hrows.ru
      have hl8 := hru.one
      refine WL.off rfl rfl rfl ?_
      refine WL.off rfl rfl rfl ?_
      refine WL.off rfl rfl rfl ?_
      refine WL.off rfl rfl rfl ?_
      refine WL.off rfl rfl rfl ?_
      refine WL.off rfl rfl rfl ?_
      refine WL.v (RV.pickF rfl rfl) rfl ?_
      refine WL.nil ?_
      refine QF.seqNext ?_
      refine WC.condF rfl rfl ?_
      refine WC.exit ?_
      refine QF.thenExit ?_
      refine QF.thenExit ?_
      refine QF.blockHit ?_
      refine QF.seqNext ?_
      refine WC.seq ?_
      refine WC.seq ?_
      refine WC.region ?_
      refine WL.v (RV.move rfl) rfl ?_
      refine WL.v (RV.nilPtr rfl) rfl ?_
      refine WL.v (RV.fieldAddr 0 Tryz.underlying56 rfl rfl (Tryz.sizeOf53 _) (by decide) rfl) rfl ?_
      refine WL.v (RV.fieldAddr 5 Tryz.underlying53 rfl rfl (Tryz.sizeOf27 _) (by decide) rfl) rfl ?_
      refine WL.v (RV.load (by first | exact q5) (Tryz.isAgg27 _) rfl) rfl ?_
      refine WL.v (RV.neq rfl rfl) rfl ?_
      refine WL.nil ?_
      refine QF.seqNext ?_
      refine WC.condF rfl (rfl) ?_
      refine WC.skip ?_
      refine QF.seqNext ?_
      refine WC.seq ?_
      refine WC.region ?_
      refine WL.v (RV.move rfl) rfl ?_
      refine WL.v (RV.nilPtr rfl) rfl ?_
      refine WL.v (RV.fieldAddr 6 Tryz.underlying56 rfl rfl (Tryz.sizeOf26 _) (by decide) rfl) rfl ?_
      refine WL.v (RV.loadAgg (us := [s.ig, s.kp, s.ru]) (txt_cells q6 q7 q8) (Tryz.isAgg26 _) (Tryz.sizeOf26 _) rfl) rfl ?_
      refine WL.storeAgg (us := #[s.ig, s.kp, s.ru]) hx3 rfl (Tryz.sizeOf26 _) (by simp only [List.all_cons, hl6, hl7, hl8]; rfl) rfl rfl rfl ?_
      have hxz := hx3.setRow (us := #[s.ig, s.kp, s.ru])
      have hUz : Upd (fun k => k = T) O1 w3 O1 (w3.setRow xb #[s.ig, s.kp, s.ru]) := Upd.setRow (by omega) hx3.tag rfl
      have hUt9 := hUt3.trans (hUz.mono (fun _ h => Nat.le_of_eq h.symm) hzz)
      have hmem9 := hrows.upd hUz (by omega) (by omega) (by omega) (by omega) (by omega) (by omega)
      refine WL.v (RV.assign rfl) rfl ?_
      refine WL.v (RV.assign rfl) rfl ?_
      refine WL.nil ?_
      refine QF.seqNext ?_
      refine WC.ret ?_
      refine QF.doneC3 rfl rfl rfl rfl hxz.cellsAdd (Tryz.isAgg26 _) (Tryz.sizeOf26 _) ⟨Upd.noneE hUt9 hTT, _, rfl, hmem9.tx⟩
    · skip
      rw [hMM]
      have q5 := hb3.q5
      rw [hee] at q5
      have q4 := hb3.q4
      rw [hbad] at q4
      have hne2 : ((e == 0) : Bool) = false := by simpa using hne
      have hne3 : ((e != 0) : Bool) = true := by simpa using hne
      cases hfl : decide ((fr : Int) ≤ (l.length : Int)) with
      | false =>
        refine WC.seq ?_
        refine WC.seq ?_
        refine WC.region ?_
        refine WL.v (RV.move rfl) rfl ?_
        refine WL.v (RV.move rfl) rfl ?_
        refine WL.v (RV.lenS Tryz.underlying9 rfl) rfl ?_
        refine WL.v (RV.leq rfl rfl) rfl ?_
        refine WL.v (RV.move rfl) rfl ?_
        refine WL.know (d := 21) rfl (b' := false) (hfl) ?_
        refine WL.off rfl rfl rfl ?_
        refine WL.off rfl rfl rfl ?_
        refine WL.off rfl rfl rfl ?_
        refine WL.off rfl rfl rfl ?_
        refine WL.off rfl rfl rfl ?_
        refine WL.off rfl rfl rfl ?_
        refine WL.v (RV.pickF rfl rfl) rfl ?_
        refine WL.nil ?_
        refine QF.seqNext ?_
        refine WC.condF rfl rfl ?_
        refine WC.exit ?_
        refine QF.thenExit ?_
        refine QF.thenExit ?_
        refine QF.blockHit ?_
        refine QF.seqNext ?_
        refine WC.seq ?_
        refine WC.seq ?_
        refine WC.region ?_
        refine WL.v (RV.move rfl) rfl ?_
        refine WL.v (RV.nilPtr rfl) rfl ?_
        refine WL.v (RV.fieldAddr 0 Tryz.underlying56 rfl rfl (Tryz.sizeOf53 _) (by decide) rfl) rfl ?_
        refine WL.v (RV.fieldAddr 5 Tryz.underlying53 rfl rfl (Tryz.sizeOf27 _) (by decide) rfl) rfl ?_
        refine WL.v (RV.load (by first | exact q5) (Tryz.isAgg27 _) rfl) rfl ?_
        refine WL.v (RV.neq rfl rfl) rfl ?_
        refine WL.nil ?_
        refine QF.seqNext ?_
        refine WC.condT rfl (hne3) ?_
        have d4 : w3.drew.cell? ⟨rb, 4, none⟩ = some (.int .i64 (p : Nat)) := q4
        have d5 : w3.drew.cell? ⟨rb, 5, none⟩ = some (.int .i64 e) := q5
        refine WC.seq ?_
        refine WC.draw (fun W => W.cell? ⟨rb, 4, none⟩ = some (.int .i64 (p : Nat)) ∧ W.cell? ⟨rb, 5, none⟩ = some (.int .i64 e)) 14 rfl (by kernel_rfl) ?_
        refine WH.take 0 rfl (by kernel_rfl) (by kernel_rfl) (by kernel_rfl) ⟨d4, d5⟩ (fun w1 hw1 => RV.buildF pl26 (Tryz.zeroValue26 _) rfl (by first | rfl | (simp only [List.all_cons, List.all_nil]; rfl)) rfl rfl) rfl ?_
        refine WH.take 1 rfl (by kernel_rfl) (by kernel_rfl) (by kernel_rfl) ⟨d4, d5⟩ (fun w1 hw1 => RV.move rfl) rfl ?_
        refine WH.take 2 rfl (by kernel_rfl) (by kernel_rfl) (by kernel_rfl) ⟨d4, d5⟩ (fun w1 hw1 => RV.nilPtr rfl) rfl ?_
        refine WH.take 3 rfl (by kernel_rfl) (by kernel_rfl) (by kernel_rfl) ⟨d4, d5⟩ (fun w1 hw1 => RV.fieldAddr 0 Tryz.underlying56 rfl rfl (Tryz.sizeOf53 _) (by decide) rfl) rfl ?_
        refine WH.take 4 rfl (by kernel_rfl) (by kernel_rfl) (by kernel_rfl) ⟨d4, d5⟩ (fun w1 hw1 => RV.fieldAddr 4 Tryz.underlying53 rfl rfl (Tryz.sizeOf3 _) (by decide) rfl) rfl ?_
        refine WH.take 5 rfl (by kernel_rfl) (by kernel_rfl) (by kernel_rfl) ⟨d4, d5⟩ (fun w1 hw1 => RV.load (by first | exact hw1.1 | exact hw1.2) (Tryz.isAgg3 _) rfl) rfl ?_
        refine WH.take 6 rfl (by kernel_rfl) (by kernel_rfl) (by kernel_rfl) ⟨d4, d5⟩ (fun w1 hw1 => RV.move rfl) rfl ?_
        refine WH.take 7 rfl (by kernel_rfl) (by kernel_rfl) (by kernel_rfl) ⟨d4, d5⟩ (fun w1 hw1 => RV.nilPtr rfl) rfl ?_
        refine WH.take 8 rfl (by kernel_rfl) (by kernel_rfl) (by kernel_rfl) ⟨d4, d5⟩ (fun w1 hw1 => RV.fieldAddr 0 Tryz.underlying56 rfl rfl (Tryz.sizeOf53 _) (by decide) rfl) rfl ?_
        refine WH.take 9 rfl (by kernel_rfl) (by kernel_rfl) (by kernel_rfl) ⟨d4, d5⟩ (fun w1 hw1 => RV.fieldAddr 5 Tryz.underlying53 rfl rfl (Tryz.sizeOf27 _) (by decide) rfl) rfl ?_
        refine WH.take 10 rfl (by kernel_rfl) (by kernel_rfl) (by kernel_rfl) ⟨d4, d5⟩ (fun w1 hw1 => RV.load (by first | exact hw1.1 | exact hw1.2) (Tryz.isAgg27 _) rfl) rfl ?_
        refine WH.one 11 (by kernel_rfl) rfl ?_
        refine WL.storeAgg (us := #[.slice none 0 0, .slice none 0 0, .slice none 0 0]) hx3.drew rfl (Tryz.sizeOf26 _) rfl rfl rfl rfl ?_
        have hxz := BlkO.setRow (us := #[.slice none 0 0, .slice none 0 0, .slice none 0 0]) hx3.drew
        have hUz : Upd (fun k => k = T) O1 w3.drew O1 (w3.drew.setRow xb #[.slice none 0 0, .slice none 0 0, .slice none 0 0]) := Upd.setRow (by omega) hx3.tag rfl
        have hbz := (BlkO.drew hb3).upd hUz (by omega) (by omega)
        have z5 := hbz.q5
        rw [hee] at z5
        have z4 := hbz.q4
        rw [hbad] at z4
        refine WL.nil ?_
        refine QF.after (⟨z4, z5⟩) ?_
        refine WH.take 12 rfl (by kernel_rfl) (by kernel_rfl) (by kernel_rfl) (⟨z4, z5⟩) (fun w1 hw1 => RV.assign rfl) rfl ?_
        refine WH.take 13 rfl (by kernel_rfl) (by kernel_rfl) (by kernel_rfl) (⟨z4, z5⟩) (fun w1 hw1 => RV.assign rfl) rfl ?_
        refine WH.done (by kernel_rfl) ?_
        refine QF.seqNext ?_
        refine WC.ret ?_
        refine QF.thenRet ?_
        refine QF.doneC3 rfl rfl rfl rfl hxz.cellsAdd (Tryz.isAgg26 _) (Tryz.sizeOf26 _) ⟨Upd.noneE ((hUt3.drew).trans (hUz.mono (fun _ h => Nat.le_of_eq h.symm) hzz)) hTT, rfl, hne⟩
      | true =>
        refine WC.seq ?_
        refine WC.seq ?_
        refine WC.region ?_
        refine WL.v (RV.move rfl) rfl ?_
        refine WL.v (RV.move rfl) rfl ?_
        refine WL.v (RV.lenS Tryz.underlying9 rfl) rfl ?_
        refine WL.v (RV.leq rfl rfl) rfl ?_
        refine WL.v (RV.move rfl) rfl ?_
        refine WL.know (d := 21) rfl (b' := true) (hfl) ?_
        refine WL.on rfl ?_
        refine WL.v (RV.move rfl) rfl ?_
        refine WL.on rfl ?_
        refine WL.v (RV.nilPtr rfl) rfl ?_
        refine WL.on rfl ?_
        refine WL.v (RV.fieldAddr 0 Tryz.underlying56 rfl rfl (Tryz.sizeOf53 _) (by decide) rfl) rfl ?_
        refine WL.on rfl ?_
        refine WL.v (RV.fieldAddr 5 Tryz.underlying53 rfl rfl (Tryz.sizeOf27 _) (by decide) rfl) rfl ?_
        refine WL.on rfl ?_
        refine WL.v (RV.load (by first | exact q5) (Tryz.isAgg27 _) rfl) rfl ?_
        refine WL.on rfl ?_
        refine WL.v (RV.eql rfl rfl) rfl ?_
        refine WL.v (RV.pickT rfl rfl) rfl ?_
        refine WL.nil ?_
        refine QF.seqNext ?_
        refine WC.condF rfl (hne2) ?_
        refine WC.exit ?_
        refine QF.thenExit ?_
        refine QF.thenExit ?_
        refine QF.blockHit ?_
        refine QF.seqNext ?_
        refine WC.seq ?_
        refine WC.seq ?_
        refine WC.region ?_
        refine WL.v (RV.move rfl) rfl ?_
        refine WL.v (RV.nilPtr rfl) rfl ?_
        refine WL.v (RV.fieldAddr 0 Tryz.underlying56 rfl rfl (Tryz.sizeOf53 _) (by decide) rfl) rfl ?_
        refine WL.v (RV.fieldAddr 5 Tryz.underlying53 rfl rfl (Tryz.sizeOf27 _) (by decide) rfl) rfl ?_
        refine WL.v (RV.load (by first | exact q5) (Tryz.isAgg27 _) rfl) rfl ?_
        refine WL.v (RV.neq rfl rfl) rfl ?_
        refine WL.nil ?_
        refine QF.seqNext ?_
        refine WC.condT rfl (hne3) ?_
        have d4 : w3.drew.cell? ⟨rb, 4, none⟩ = some (.int .i64 (p : Nat)) := q4
        have d5 : w3.drew.cell? ⟨rb, 5, none⟩ = some (.int .i64 e) := q5
        refine WC.seq ?_
        refine WC.draw (fun W => W.cell? ⟨rb, 4, none⟩ = some (.int .i64 (p : Nat)) ∧ W.cell? ⟨rb, 5, none⟩ = some (.int .i64 e)) 14 rfl (by kernel_rfl) ?_
        refine WH.take 0 rfl (by kernel_rfl) (by kernel_rfl) (by kernel_rfl) ⟨d4, d5⟩ (fun w1 hw1 => RV.buildF pl26 (Tryz.zeroValue26 _) rfl (by first | rfl | (simp only [List.all_cons, List.all_nil]; rfl)) rfl rfl) rfl ?_
        refine WH.take 1 rfl (by kernel_rfl) (by kernel_rfl) (by kernel_rfl) ⟨d4, d5⟩ (fun w1 hw1 => RV.move rfl) rfl ?_
        refine WH.take 2 rfl (by kernel_rfl) (by kernel_rfl) (by kernel_rfl) ⟨d4, d5⟩ (fun w1 hw1 => RV.nilPtr rfl) rfl ?_
        refine WH.take 3 rfl (by kernel_rfl) (by kernel_rfl) (by kernel_rfl) ⟨d4, d5⟩ (fun w1 hw1 => RV.fieldAddr 0 Tryz.underlying56 rfl rfl (Tryz.sizeOf53 _) (by decide) rfl) rfl ?_
        refine WH.take 4 rfl (by kernel_rfl) (by kernel_rfl) (by kernel_rfl) ⟨d4, d5⟩ (fun w1 hw1 => RV.fieldAddr 4 Tryz.underlying53 rfl rfl (Tryz.sizeOf3 _) (by decide) rfl) rfl ?_
        refine WH.take 5 rfl (by kernel_rfl) (by kernel_rfl) (by kernel_rfl) ⟨d4, d5⟩ (fun w1 hw1 => RV.load (by first | exact hw1.1 | exact hw1.2) (Tryz.isAgg3 _) rfl) rfl ?_
        refine WH.take 6 rfl (by kernel_rfl) (by kernel_rfl) (by kernel_rfl) ⟨d4, d5⟩ (fun w1 hw1 => RV.move rfl) rfl ?_
        refine WH.take 7 rfl (by kernel_rfl) (by kernel_rfl) (by kernel_rfl) ⟨d4, d5⟩ (fun w1 hw1 => RV.nilPtr rfl) rfl ?_
        refine WH.take 8 rfl (by kernel_rfl) (by kernel_rfl) (by kernel_rfl) ⟨d4, d5⟩ (fun w1 hw1 => RV.fieldAddr 0 Tryz.underlying56 rfl rfl (Tryz.sizeOf53 _) (by decide) rfl) rfl ?_
        refine WH.take 9 rfl (by kernel_rfl) (by kernel_rfl) (by kernel_rfl) ⟨d4, d5⟩ (fun w1 hw1 => RV.fieldAddr 5 Tryz.underlying53 rfl rfl (Tryz.sizeOf27 _) (by decide) rfl) rfl ?_
        refine WH.take 10 rfl (by kernel_rfl) (by kernel_rfl) (by kernel_rfl) ⟨d4, d5⟩ (fun w1 hw1 => RV.load (by first | exact hw1.1 | exact hw1.2) (Tryz.isAgg27 _) rfl) rfl ?_
        refine WH.one 11 (by kernel_rfl) rfl ?_
        refine WL.storeAgg (us := #[.slice none 0 0, .slice none 0 0, .slice none 0 0]) hx3.drew rfl (Tryz.sizeOf26 _) rfl rfl rfl rfl ?_
        have hxz := BlkO.setRow (us := #[.slice none 0 0, .slice none 0 0, .slice none 0 0]) hx3.drew
        have hUz : Upd (fun k => k = T) O1 w3.drew O1 (w3.drew.setRow xb #[.slice none 0 0, .slice none 0 0, .slice none 0 0]) := Upd.setRow (by omega) hx3.tag rfl
        have hbz := (BlkO.drew hb3).upd hUz (by omega) (by omega)
        have z5 := hbz.q5
        rw [hee] at z5
        have z4 := hbz.q4
        rw [hbad] at z4
        refine WL.nil ?_
        refine QF.after (⟨z4, z5⟩) ?_
        refine WH.take 12 rfl (by kernel_rfl) (by kernel_rfl) (by kernel_rfl) (⟨z4, z5⟩) (fun w1 hw1 => RV.assign rfl) rfl ?_
        refine WH.take 13 rfl (by kernel_rfl) (by kernel_rfl) (by kernel_rfl) (⟨z4, z5⟩) (fun w1 hw1 => RV.assign rfl) rfl ?_
        refine WH.done (by kernel_rfl) ?_
        refine QF.seqNext ?_
        refine WC.ret ?_
        refine QF.thenRet ?_
        refine QF.doneC3 rfl rfl rfl rfl hxz.cellsAdd (Tryz.isAgg26 _) (Tryz.sizeOf26 _) ⟨Upd.noneE ((hUt3.drew).trans (hUz.mono (fun _ h => Nat.le_of_eq h.symm) hzz)) hTT, rfl, hne⟩
end Go.Proofs.YtmohcfjopaccdaaGreatDoor
end
section
/- Plain: what 'text' prints the reader reads back; so printing is injective on right trees. -/
namespace Go.Proofs.YtmohcfjopaccdaaGreatDoor
open Go.VL Go.Proofs
set_option maxRecDepth 10000

theorem names_tab : (List.range 36).all (fun c => !(nth namesL c).isEmpty && ((nth namesL c).all letterB && ((nth namesL c != [97, 110, 121]) && (numM (nth namesL c) == some c)))) = true := by decide +kernel
theorem nameM_facts {c : Int} (h : 0 ≤ c ∧ c < 36) : nameM c ≠ [] ∧ (∀ b ∈ nameM c, letterB b = true) ∧ nameM c ≠ [97, 110, 121] ∧ numM (nameM c) = some c.toNat := by
  have h1 := List.all_eq_true.1 names_tab c.toNat (List.mem_range.2 (by omega))
  have hn : nameM c = nth namesL c.toNat := by unfold nameM; rw [if_pos h]
  rw [hn]
  simp only [Bool.and_eq_true, Bool.not_eq_true', List.isEmpty_eq_false_iff, List.all_eq_true, bne_iff_ne, beq_iff_eq] at h1
  exact ⟨h1.1, h1.2.1, h1.2.2.1, h1.2.2.2⟩
theorem while_app {p : UInt8 → Bool} : ∀ (s rest : List UInt8), (∀ b ∈ s, p b = true) → p (rest.headD 0) = false → (rest = [] → p 0 = false) → (s ++ rest).takeWhile p = s ∧ (s ++ rest).dropWhile p = rest
  | [], [], _, _, _ => ⟨rfl, rfl⟩
  | [], a :: r, _, h, _ => by
    simp only [List.headD_cons] at h
    rw [List.nil_append, List.takeWhile_cons_of_neg (by rw [h]; decide), List.dropWhile_cons_of_neg (by rw [h]; decide)]
    exact ⟨rfl, rfl⟩
  | a :: s, rest, hs, h, h0 => by
    have ih := while_app s rest (fun b hb => hs b (by simp [hb])) h h0
    have ha := hs a (by simp)
    rw [List.cons_append, List.takeWhile_cons_of_pos ha, List.dropWhile_cons_of_pos ha, ih.1, ih.2]
    exact ⟨rfl, rfl⟩
theorem letter_app {s rest : List UInt8} (hs : ∀ b ∈ s, letterB b = true) (h : letterB (rest.headD 0) = false) : (s ++ rest).takeWhile letterB = s ∧ (s ++ rest).dropWhile letterB = rest := while_app s rest hs h (fun _ => by decide)
theorem skipB_cons {a : UInt8} {r : List UInt8} (h : a ≠ 32) : skipB (a :: r) = a :: r := by
  unfold skipB; rw [List.dropWhile_cons_of_neg (by simpa using h)]
theorem skipB_blank (r : List UInt8) : skipB (32 :: r) = skipB r := by
  unfold skipB; rw [List.dropWhile_cons_of_pos (by decide)]
theorem skipB_skipB : ∀ (r : List UInt8), skipB (skipB r) = skipB r
  | [] => rfl
  | a :: r => by
    by_cases h : a = 32
    · subst h; rw [skipB_blank, skipB_skipB r]
    · rw [skipB_cons h, skipB_cons h]
theorem begins_ne {b : UInt8} (h : beginsB b = true) : b ≠ 32 ∧ b ≠ 0 ∧ opM b = none ∧ b ≠ 124 := by
  refine ⟨?_, ?_, ?_, ?_⟩
  · rintro rfl; revert h; decide
  · rintro rfl; revert h; decide
  · unfold opM
    split
    · rename_i e; subst e; revert h; decide
    · split
      · rename_i e; subst e; revert h; decide
      · split
        · rename_i e; subst e; revert h; decide
        · rfl
  · rintro rfl; revert h; decide
theorem head_app {x rest : List UInt8} (h : beginsB (x.headD 0) = true) : skipB (x ++ rest) = x ++ rest ∧ (x ++ rest).headD 0 = x.headD 0 := by
  cases x with
  | nil => exact absurd h (by decide)
  | cons a r =>
    simp only [List.headD_cons] at h
    exact ⟨by rw [List.cons_append, skipB_cons (begins_ne h).1], rfl⟩
def okA (rest : List UInt8) : Prop := letterB (rest.headD 0) = false
def okO (rest : List UInt8) : Prop := okA rest ∧ opM ((skipB rest).headD 0) = none
def okS (rest : List UInt8) : Prop := okO rest ∧ beginsB ((skipB rest).headD 0) = false
def okT (rest : List UInt8) : Prop := okS rest ∧ (skipB rest).headD 0 ≠ 124
abbrev Al := Option (List UInt8 → PR)
def PA (al : Al) (x : List UInt8) (t : Nd) : Prop := ∀ rest, okA rest → atomM al (x ++ rest) = .ok t rest
def PO (al : Al) (x : List UInt8) (t : Nd) : Prop := ∀ rest, okO rest → ∃ r', oftenM al (x ++ rest) = .ok t r' ∧ skipB r' = skipB rest
def PS (al : Al) (x : List UInt8) (t : Nd) : Prop := ∀ rest, okS rest → ∃ r', seqM al (x ++ rest) = .ok t r' ∧ skipB r' = skipB rest
def PT (al : Al) (x : List UInt8) (t : Nd) : Prop := ∀ rest, okT rest → altsL al (x ++ rest) = .ok t (skipB rest)
theorem PA.often {al : Al} {x : List UInt8} {t : Nd} (h : PA al x t) : PO al x t := fun rest ho => by
  refine ⟨skipB rest, ?_, skipB_skipB rest⟩
  unfold oftenM
  rw [h rest ho.1]
  dsimp only
  rw [ho.2]
theorem PA.star {al : Al} {x : List UInt8} {t : Nd} (h : PA al x t) {c : UInt8} {k : Nat} (hc : opM c = some k) : PO al (x ++ [c]) (.mk (6 + (k : Int)) 0 [t]) := fun rest _ => by
  have hcs : letterB c = false ∧ c ≠ 32 := by
    unfold opM at hc
    split at hc
    · rename_i e; subst e; decide
    · split at hc
      · rename_i e; subst e; decide
      · split at hc
        · rename_i e; subst e; decide
        · cases hc
  refine ⟨rest, ?_, rfl⟩
  unfold oftenM
  rw [List.append_assoc, h _ (show okA ([c] ++ rest) from hcs.1)]
  dsimp only
  rw [List.singleton_append, skipB_cons hcs.2, List.headD_cons, hc]
  rfl
theorem oneM_one (k : Int) (t : Nd) : oneM k [t] = t := by unfold oneM; rw [if_pos (show [t].length = 1 from rfl), nth_cons0]
theorem oneM_many {k : Int} {l : List Nd} (h : l.length ≠ 1) : oneM k l = .mk k 0 l := by unfold oneM; rw [if_neg h]
theorem PO.seq {al : Al} {x : List UInt8} {t : Nd} (h : PO al x t) : PS al x t := fun rest ho => by
  obtain ⟨r', h1, h2⟩ := h rest ho.1
  refine ⟨skipB rest, ?_, skipB_skipB rest⟩
  unfold seqM
  rw [h1]
  dsimp only
  unfold seqLoop
  rw [h2, if_neg (by rw [ho.2]; decide), oneM_one]
theorem PS.alts {al : Al} {x : List UInt8} {t : Nd} (h : PS al x t) : PT al x t := fun rest ho => by
  obtain ⟨r', h1, h2⟩ := h rest ho.1
  unfold altsL
  rw [h1]
  dsimp only
  unfold altsLoop
  rw [h2, if_neg ho.2, oneM_one]
theorem okO_sep {l : List (List UInt8 × Nd)} {rest : List UInt8} (hl : ∀ p ∈ l, beginsB (p.1.headD 0) = true) (ho : okS rest) : okO (l.flatMap (fun p => 32 :: p.1) ++ rest) := by
  cases l with
  | nil => exact ho.1
  | cons p l =>
    have hp := hl p (by simp)
    obtain ⟨g1, g2⟩ := head_app (rest := l.flatMap (fun p => 32 :: p.1) ++ rest) hp
    rw [List.flatMap_cons, List.append_assoc, List.cons_append]
    refine ⟨(by decide : letterB 32 = false), ?_⟩
    rw [skipB_blank, g1, g2]
    exact (begins_ne hp).2.2.1
theorem seqLoop_all {al : Al} {rest : List UInt8} (ho : okS rest) : ∀ (l : List (List UInt8 × Nd)), (∀ p ∈ l, beginsB (p.1.headD 0) = true ∧ PO al p.1 p.2) → ∀ (n : Nat) (acc : List Nd) (r : List UInt8), skipB r = skipB (l.flatMap (fun p => 32 :: p.1) ++ rest) → l.length < n → seqLoop al n acc r = .ok (oneM 4 (acc ++ l.map (·.2))) (skipB rest)
  | _, _, 0, _, _, _, h => absurd h (Nat.not_lt_zero _)
  | [], _, n + 1, acc, r, hr, _ => by
    unfold seqLoop
    rw [hr, List.flatMap_nil, List.nil_append, if_neg (by rw [ho.2]; decide), List.map_nil, List.append_nil]
  | p :: l, hl, n + 1, acc, r, hr, hn => by
    obtain ⟨hb, hp⟩ := hl p (by simp)
    obtain ⟨g1, g2⟩ := head_app (rest := l.flatMap (fun p => 32 :: p.1) ++ rest) hb
    rw [List.flatMap_cons, List.append_assoc, List.cons_append, skipB_blank, g1] at hr
    unfold seqLoop
    rw [hr, g2, if_pos hb]
    obtain ⟨r', h1, h2⟩ := hp _ (okO_sep (l := l) (fun q hq => (hl q (List.mem_cons_of_mem _ hq)).1) ho)
    rw [h1]
    dsimp only
    rw [seqLoop_all ho l (fun q hq => hl q (by simp [hq])) n _ r' h2 (by simpa using hn), List.append_assoc]
    rfl
theorem flat_ge (c : UInt8) : ∀ (l : List (List UInt8 × Nd)), l.length ≤ (l.flatMap (fun p => c :: p.1)).length
  | [] => by simp
  | p :: l => by have := flat_ge c l; simp only [List.flatMap_cons, List.length_append, List.length_cons]; omega
theorem seq_many {al : Al} {p : List UInt8 × Nd} {l : List (List UInt8 × Nd)} (hne : l ≠ []) (hp : beginsB (p.1.headD 0) = true ∧ PO al p.1 p.2) (hl : ∀ p ∈ l, beginsB (p.1.headD 0) = true ∧ PO al p.1 p.2) : PS al (p.1 ++ l.flatMap (fun p => 32 :: p.1)) (.mk 4 0 (p.2 :: l.map (·.2))) := fun rest ho => by
  obtain ⟨r', h1, h2⟩ := hp.2 _ (okO_sep (l := l) (rest := rest) (fun q hq => (hl q hq).1) ho)
  refine ⟨skipB rest, ?_, skipB_skipB rest⟩
  have hlen : l.length < r'.length + 1 := by
    have hs := congrArg List.length h2
    have h3 := skipB_le r'
    cases l with
    | nil => exact absurd rfl hne
    | cons q l =>
      obtain ⟨hb, _⟩ := hl q (by simp)
      obtain ⟨g1, g2⟩ := head_app (rest := l.flatMap (fun p => 32 :: p.1) ++ rest) hb
      rw [List.flatMap_cons, List.append_assoc, List.cons_append, skipB_blank, g1] at hs
      have h4 := flat_ge 32 l
      have h5 : 1 ≤ q.1.length := by
        cases hq : q.1 with
        | nil => rw [hq] at hb; revert hb; decide
        | cons a b => simp
      simp only [List.length_append, List.length_cons] at hs ⊢
      omega
  unfold seqM
  rw [List.append_assoc, h1]
  dsimp only
  rw [seqLoop_all ho l hl (r'.length + 1) _ r' h2 hlen]
  rw [oneM_many (by
    cases l with
    | nil => exact absurd rfl hne
    | cons q l => simp)]
  rfl
theorem okS_sep {l : List (List UInt8 × Nd)} {rest : List UInt8} (ho : okT rest) : okS (l.flatMap (fun p => 124 :: p.1) ++ rest) := by
  cases l with
  | nil => exact ho.1
  | cons p l =>
    rw [List.flatMap_cons, List.append_assoc, List.cons_append]
    refine ⟨⟨(by decide : letterB 124 = false), ?_⟩, ?_⟩
    · rw [skipB_cons (by decide)]; exact (by decide : opM 124 = none)
    · rw [skipB_cons (by decide)]; exact (by decide : beginsB 124 = false)
theorem altsLoop_all {al : Al} {rest : List UInt8} (ho : okT rest) : ∀ (l : List (List UInt8 × Nd)), (∀ p ∈ l, PS al p.1 p.2) → ∀ (n : Nat) (acc : List Nd) (r : List UInt8), skipB r = skipB (l.flatMap (fun p => 124 :: p.1) ++ rest) → l.length < n → altsLoop al n acc r = .ok (oneM 5 (acc ++ l.map (·.2))) (skipB rest)
  | _, _, 0, _, _, _, h => absurd h (Nat.not_lt_zero _)
  | [], _, n + 1, acc, r, hr, _ => by
    unfold altsLoop
    rw [hr, List.flatMap_nil, List.nil_append, if_neg ho.2, List.map_nil, List.append_nil]
  | p :: l, hl, n + 1, acc, r, hr, hn => by
    have hp := hl p (by simp)
    rw [List.flatMap_cons, List.append_assoc, List.cons_append, skipB_cons (by decide)] at hr
    unfold altsLoop
    rw [hr, List.headD_cons, if_pos rfl, List.tail_cons]
    obtain ⟨r', h1, h2⟩ := hp _ (okS_sep (l := l) ho)
    rw [h1]
    dsimp only
    rw [altsLoop_all ho l (fun q hq => hl q (by simp [hq])) n _ r' h2 (by simpa using hn), List.append_assoc]
    rfl
theorem alts_many {al : Al} {p : List UInt8 × Nd} {l : List (List UInt8 × Nd)} (hne : l ≠ []) (hp : PS al p.1 p.2) (hl : ∀ p ∈ l, PS al p.1 p.2) : PT al (p.1 ++ l.flatMap (fun p => 124 :: p.1)) (.mk 5 0 (p.2 :: l.map (·.2))) := fun rest ho => by
  obtain ⟨r', h1, h2⟩ := hp _ (okS_sep (l := l) ho)
  have hlen : l.length < r'.length + 1 := by
    have hs := congrArg List.length h2
    have h3 := skipB_le r'
    cases l with
    | nil => exact absurd rfl hne
    | cons q l =>
      rw [List.flatMap_cons, List.append_assoc, List.cons_append, skipB_cons (by decide)] at hs
      have h4 := flat_ge 124 l
      simp only [List.length_append, List.length_cons] at hs ⊢
      omega
  unfold altsL
  rw [List.append_assoc, h1]
  dsimp only
  rw [altsLoop_all ho l hl (r'.length + 1) _ r' h2 hlen]
  rw [oneM_many (by
    cases l with
    | nil => exact absurd rfl hne
    | cons q l => simp)]
  rfl
theorem okT_close (rest : List UInt8) : okT (41 :: rest) := by
  have h := skipB_cons (a := 41) (r := rest) (by decide)
  refine ⟨⟨⟨(by decide : letterB 41 = false), ?_⟩, ?_⟩, ?_⟩
  · rw [h]; exact (by decide : opM 41 = none)
  · rw [h]; exact (by decide : beginsB 41 = false)
  · rw [h]; exact (by decide : (41 : UInt8) ≠ 124)
theorem okT_nil : okT [] := ⟨⟨⟨(by decide : letterB 0 = false), (by decide : opM 0 = none)⟩, (by decide : beginsB 0 = false)⟩, (by decide : (0 : UInt8) ≠ 124)⟩
theorem bracket_atom {f : List UInt8 → PR} {x : List UInt8} {t : Nd} (h : ∀ rest, okT rest → f (x ++ rest) = .ok t (skipB rest)) : PA (some f) (40 :: (x ++ [41])) t := fun rest _ => by
  unfold atomM
  rw [List.cons_append, skipB_cons (by decide)]
  rw [List.headD_cons, if_neg (by decide), if_neg (by decide), if_neg (by decide), if_pos rfl]
  unfold bracketsM
  dsimp only
  rw [List.tail_cons, List.append_assoc, List.singleton_append, h _ (okT_close rest)]
  dsimp only
  rw [skipB_skipB, skipB_cons (by decide), List.headD_cons, if_pos rfl, List.tail_cons]
theorem headD_app {s rest : List UInt8} (h : s ≠ []) : (s ++ rest).headD 0 = s.headD 0 := by
  cases s with
  | nil => exact absurd rfl h
  | cons a s => rfl
theorem letter_begins {b : UInt8} (h : letterB b = true) : beginsB b = true := by unfold beginsB; rw [h]; rfl
theorem name_head {c : Int} (h : 0 ≤ c ∧ c < 36) : letterB ((nameM c).headD 0) = true := by
  obtain ⟨h1, h2, _⟩ := nameM_facts h
  cases hn : nameM c with
  | nil => exact absurd hn h1
  | cons a s => exact h2 a (by rw [hn]; simp)
theorem class_all {c : Int} (h : 0 ≤ c ∧ c < 36) (k : Int) (rest : List UInt8) (ho : okA rest) : classM k (nameM c ++ rest) = .ok (.mk k c []) rest := by
  obtain ⟨h1, h2, h3, h4⟩ := nameM_facts h
  have hh := name_head h
  obtain ⟨g1, g2⟩ := head_app (rest := rest) (letter_begins hh)
  obtain ⟨t1, t2⟩ := letter_app h2 ho
  unfold classM
  rw [g1, g2, if_pos hh, t1, h4]
  dsimp only
  rw [t2, Int.toNat_of_nonneg h.1]
theorem class_atom {al : Al} {c : Int} (h : 0 ≤ c ∧ c < 36) : PA al (nameM c) (.mk 0 c []) := fun rest ho => by
  obtain ⟨h1, h2, h3, h4⟩ := nameM_facts h
  have hh := name_head h
  obtain ⟨g1, g2⟩ := head_app (rest := rest) (letter_begins hh)
  obtain ⟨t1, t2⟩ := letter_app h2 ho
  unfold atomM
  rw [g1, g2, if_pos hh]
  unfold namedM
  rw [t1, if_neg h3, class_all h 0 rest ho]
theorem any_atom {al : Al} : PA al [97, 110, 121] (.mk 1 0 []) := fun rest ho => by
  obtain ⟨t1, t2⟩ := letter_app (s := [97, 110, 121]) (by decide) ho
  obtain ⟨g1, g2⟩ := head_app (x := [97, 110, 121]) (rest := rest) (by decide)
  unfold atomM
  rw [g1, g2, if_pos (by decide)]
  unfold namedM
  rw [t1, if_pos rfl, t2]
theorem not_atom {al : Al} {c : Int} (h : 0 ≤ c ∧ c < 36) : PA al (126 :: nameM c) (.mk 2 c []) := fun rest ho => by
  unfold atomM
  rw [List.cons_append, skipB_cons (by decide)]
  rw [List.headD_cons, if_neg (by decide), if_pos rfl, List.tail_cons, class_all h 2 rest ho]
theorem start_atom {al : Al} : PA al [94] (.mk 3 0 []) := fun rest ho => by
  unfold atomM
  rw [List.singleton_append, skipB_cons (by decide)]
  rw [List.headD_cons, if_neg (by decide), if_neg (by decide), if_pos rfl, List.tail_cons]
end Go.Proofs.YtmohcfjopaccdaaGreatDoor
end
section
/- Plain: a blank behind a text changes nothing of what the reader of expressions reads. -/
namespace Go.Proofs.YtmohcfjopaccdaaGreatDoor
open Go.VL Go.Proofs
set_option maxRecDepth 10000

/-- A text, and it with a blank behind it; what is left of both. -/
def EQ (r r' : List UInt8) : Prop := r' = r ++ [32] ∨ (r = [] ∧ r' = [])
def ES (q q' : List UInt8) : Prop := (q = [] ∧ q' = []) ∨ (q ≠ [] ∧ q' = q ++ [32])
theorem ES.eq {q q' : List UInt8} (h : ES q q') : EQ q q' := by
  rcases h with h | ⟨_, h⟩
  · exact .inr h
  · exact .inl h
theorem skip_snoc : ∀ (r : List UInt8), ES (skipB r) (skipB (r ++ [32]))
  | [] => .inl ⟨rfl, rfl⟩
  | a :: r => by
    by_cases h : a = 32
    · subst h
      rw [List.cons_append, skipB_blank, skipB_blank]
      exact skip_snoc r
    · rw [List.cons_append, skipB_cons h, skipB_cons h]
      exact .inr ⟨by simp, rfl⟩
theorem EQ.skip {r r' : List UInt8} (h : EQ r r') : ES (skipB r) (skipB r') := by
  rcases h with rfl | ⟨rfl, rfl⟩
  · exact skip_snoc r
  · exact .inl ⟨rfl, rfl⟩
theorem ES.head {q q' : List UInt8} (h : ES q q') : q'.headD 0 = q.headD 0 := by
  rcases h with ⟨rfl, rfl⟩ | ⟨h, rfl⟩
  · rfl
  · cases q with
    | nil => exact absurd rfl h
    | cons a q => rfl
theorem ES.tail {q q' : List UInt8} (h : ES q q') : EQ q.tail q'.tail := by
  rcases h with ⟨rfl, rfl⟩ | ⟨h, rfl⟩
  · exact .inr ⟨rfl, rfl⟩
  · cases q with
    | nil => exact absurd rfl h
    | cons a q => exact .inl rfl
theorem ES.len {q q' : List UInt8} (h : ES q q') : q'.length = 0 ↔ q.length = 0 := by
  rcases h with ⟨rfl, rfl⟩ | ⟨h, rfl⟩
  · simp
  · have := List.length_pos_iff.2 h
    simp; omega
theorem word_snoc : ∀ (r : List UInt8), (r ++ [32]).takeWhile letterB = r.takeWhile letterB ∧ (r ++ [32]).dropWhile letterB = r.dropWhile letterB ++ [32]
  | [] => ⟨rfl, rfl⟩
  | a :: r => by
    obtain ⟨h1, h2⟩ := word_snoc r
    cases h : letterB a with
    | true =>
      rw [List.cons_append, List.takeWhile_cons_of_pos h, List.takeWhile_cons_of_pos h, List.dropWhile_cons_of_pos h, List.dropWhile_cons_of_pos h, h1, h2]
      exact ⟨rfl, rfl⟩
    | false =>
      rw [List.cons_append, List.takeWhile_cons_of_neg (by rw [h]; decide), List.takeWhile_cons_of_neg (by rw [h]; decide), List.dropWhile_cons_of_neg (by rw [h]; decide), List.dropWhile_cons_of_neg (by rw [h]; decide)]
      exact ⟨rfl, rfl⟩
theorem EQ.word {r r' : List UInt8} (h : EQ r r') : r'.takeWhile letterB = r.takeWhile letterB ∧ EQ (r.dropWhile letterB) (r'.dropWhile letterB) := by
  rcases h with rfl | ⟨rfl, rfl⟩
  · obtain ⟨h1, h2⟩ := word_snoc r
    exact ⟨h1, .inl h2⟩
  · exact ⟨rfl, .inr ⟨rfl, rfl⟩⟩
/-- The same answer, but for places. -/
def RP : PR → PR → Prop
  | .ok t r, .ok t' r' => t = t' ∧ EQ r r'
  | .bad _ e, .bad _ e' => e = e'
  | _, _ => False
theorem classM_snoc (k : Int) {r r' : List UInt8} (h : EQ r r') : RP (classM k r) (classM k r') := by
  have hs := h.skip
  obtain ⟨h1, h2⟩ := hs.eq.word
  unfold classM
  rw [hs.head, h1]
  split
  · cases numM ((skipB r).takeWhile letterB) with
    | none => rfl
    | some c => exact ⟨rfl, h2⟩
  · rfl
variable {kn : Kn}
theorem namedK_snoc {r r' : List UInt8} (h : EQ r r') : RP (namedK kn r) (namedK kn r') := by
  obtain ⟨h1, h2⟩ := h.word
  unfold namedK
  rw [h1]
  split
  · exact ⟨rfl, h2⟩
  · cases kn.reverse.find? (mayM (r.takeWhile letterB)) with
    | none => exact classM_snoc 0 h
    | some m => exact ⟨rfl, h2⟩
def AS (al : Al) : Prop := ∀ f, al = some f → ∀ r r', EQ r r' → RP (f r) (f r')
theorem bracketsM_snoc {al : Al} (ha : AS al) {r r' : List UInt8} (h : EQ r.tail r'.tail) : RP (bracketsM al r) (bracketsM al r') := by
  unfold bracketsM
  cases al with
  | none => rfl
  | some f =>
    have := ha f rfl _ _ h
    dsimp only
    cases h1 : f r.tail with
    | bad p e =>
      cases h2 : f r'.tail with
      | bad p' e' => rw [h1, h2] at this; exact this
      | ok t q => rw [h1, h2] at this; exact this.elim
    | ok t q =>
      cases h2 : f r'.tail with
      | bad p' e' => rw [h1, h2] at this; exact this.elim
      | ok t' q' =>
        rw [h1, h2] at this
        obtain ⟨rfl, hq⟩ := this
        have hs := hq.skip
        dsimp only
        rw [hs.head]
        split
        · exact ⟨rfl, hs.tail⟩
        · rfl
theorem atomK_snoc {al : Al} (ha : AS al) {r r' : List UInt8} (h : EQ r r') : RP (atomK kn al r) (atomK kn al r') := by
  have hs := h.skip
  unfold atomK
  rw [hs.head]
  split
  · exact namedK_snoc hs.eq
  · split
    · exact classM_snoc 2 hs.tail
    · split
      · exact ⟨rfl, hs.tail⟩
      · split
        · exact bracketsM_snoc ha hs.tail
        · rfl
theorem oftenK_snoc {al : Al} (ha : AS al) {r r' : List UInt8} (h : EQ r r') : RP (oftenK kn al r) (oftenK kn al r') := by
  have := atomK_snoc (kn := kn) ha h
  unfold oftenK
  cases h1 : atomK kn al r with
  | bad p e =>
    cases h2 : atomK kn al r' with
    | bad p' e' => rw [h1, h2] at this; exact this
    | ok t q => rw [h1, h2] at this; exact this.elim
  | ok t q =>
    cases h2 : atomK kn al r' with
    | bad p' e' => rw [h1, h2] at this; exact this.elim
    | ok t' q' =>
      rw [h1, h2] at this
      obtain ⟨rfl, hq⟩ := this
      have hs := hq.skip
      dsimp only
      rw [hs.head]
      cases opM ((skipB q).headD 0) with
      | none => exact ⟨rfl, hs.eq⟩
      | some k => exact ⟨rfl, hs.tail⟩
theorem EQ.lens {r r' : List UInt8} (h : EQ r r') : r.length ≤ r'.length ∧ r'.length ≤ r.length + 1 := by
  rcases h with rfl | ⟨rfl, rfl⟩
  · simp
  · simp
theorem seqLoopK_snoc {al : Al} (ha : AS al) (hg : GoodF al) : ∀ (n n' : Nat) (acc : List Nd) (r r' : List UInt8), EQ r r' → r.length < n → r'.length < n' → RP (seqLoopK kn al n acc r) (seqLoopK kn al n' acc r')
  | 0, _, _, _, _, _, h, _ => absurd h (Nat.not_lt_zero _)
  | _ + 1, 0, _, _, _, _, _, h => absurd h (Nat.not_lt_zero _)
  | n + 1, n' + 1, acc, r, r', h, hn, hn' => by
    have hs := h.skip
    have hl := skipB_le r
    have hl' := skipB_le r'
    unfold seqLoopK
    rw [hs.head]
    split
    · have := oftenK_snoc (kn := kn) ha hs.eq
      have g1 := oftenK_good (kn := kn) hg (skipB r)
      have g2 := oftenK_good (kn := kn) hg (skipB r')
      cases h1 : oftenK kn al (skipB r) with
      | bad p e =>
        cases h2 : oftenK kn al (skipB r') with
        | bad p' e' => rw [h1, h2] at this; exact this
        | ok t q => rw [h1, h2] at this; exact this.elim
      | ok t q =>
        cases h2 : oftenK kn al (skipB r') with
        | bad p' e' => rw [h1, h2] at this; exact this.elim
        | ok t' q' =>
          rw [h1, h2] at this
          rw [h1] at g1
          rw [h2] at g2
          obtain ⟨rfl, hq⟩ := this
          have k1 := g1.2
          have k2 := g2.2
          exact seqLoopK_snoc ha hg n n' _ _ _ hq (by omega) (by omega)
    · exact ⟨rfl, hs.eq⟩
theorem seqK_snoc {al : Al} (ha : AS al) (hg : GoodF al) {r r' : List UInt8} (h : EQ r r') : RP (seqK kn al r) (seqK kn al r') := by
  have := oftenK_snoc (kn := kn) ha h
  unfold seqK
  cases h1 : oftenK kn al r with
  | bad p e =>
    cases h2 : oftenK kn al r' with
    | bad p' e' => rw [h1, h2] at this; exact this
    | ok t q => rw [h1, h2] at this; exact this.elim
  | ok t q =>
    cases h2 : oftenK kn al r' with
    | bad p' e' => rw [h1, h2] at this; exact this.elim
    | ok t' q' =>
      rw [h1, h2] at this
      obtain ⟨rfl, hq⟩ := this
      exact seqLoopK_snoc ha hg _ _ _ _ _ hq (by omega) (by omega)
theorem altsLoopK_snoc {al : Al} (ha : AS al) (hg : GoodF al) : ∀ (n n' : Nat) (acc : List Nd) (r r' : List UInt8), EQ r r' → r.length < n → r'.length < n' → RP (altsLoopK kn al n acc r) (altsLoopK kn al n' acc r')
  | 0, _, _, _, _, _, h, _ => absurd h (Nat.not_lt_zero _)
  | _ + 1, 0, _, _, _, _, _, h => absurd h (Nat.not_lt_zero _)
  | n + 1, n' + 1, acc, r, r', h, hn, hn' => by
    have hs := h.skip
    have hl := skipB_le r
    have hl' := skipB_le r'
    unfold altsLoopK
    rw [hs.head]
    split
    · rename_i hc
      have t1 := (tail_good (r := skipB r) (by rw [hc]; decide)).2
      have t2 := (tail_good (r := skipB r') (by rw [hs.head, hc]; decide)).2
      have := seqK_snoc (kn := kn) ha hg hs.tail
      have g1 := seqK_good (kn := kn) hg (skipB r).tail
      have g2 := seqK_good (kn := kn) hg (skipB r').tail
      cases h1 : seqK kn al (skipB r).tail with
      | bad p e =>
        cases h2 : seqK kn al (skipB r').tail with
        | bad p' e' => rw [h1, h2] at this; exact this
        | ok t q => rw [h1, h2] at this; exact this.elim
      | ok t q =>
        cases h2 : seqK kn al (skipB r').tail with
        | bad p' e' => rw [h1, h2] at this; exact this.elim
        | ok t' q' =>
          rw [h1, h2] at this
          rw [h1] at g1
          rw [h2] at g2
          obtain ⟨rfl, hq⟩ := this
          have k1 := g1.2
          have k2 := g2.2
          exact altsLoopK_snoc ha hg n n' _ _ _ hq (by omega) (by omega)
    · exact ⟨rfl, hs.eq⟩
theorem altsLK_snoc {al : Al} (ha : AS al) (hg : GoodF al) {r r' : List UInt8} (h : EQ r r') : RP (altsLK kn al r) (altsLK kn al r') := by
  have := seqK_snoc (kn := kn) ha hg h
  unfold altsLK
  cases h1 : seqK kn al r with
  | bad p e =>
    cases h2 : seqK kn al r' with
    | bad p' e' => rw [h1, h2] at this; exact this
    | ok t q => rw [h1, h2] at this; exact this.elim
  | ok t q =>
    cases h2 : seqK kn al r' with
    | bad p' e' => rw [h1, h2] at this; exact this.elim
    | ok t' q' =>
      rw [h1, h2] at this
      obtain ⟨rfl, hq⟩ := this
      exact altsLoopK_snoc ha hg _ _ _ _ _ hq (by omega) (by omega)
theorem altsK_snoc : ∀ (d : Nat) (r r' : List UInt8), EQ r r' → RP (altsK kn d r) (altsK kn d r')
  | 0, r, r', h => altsLK_snoc (fun f e => by cases e) (fun f e => by cases e) h
  | d + 1, r, r', h => altsLK_snoc (fun f e => by cases e; exact altsK_snoc d) (fun f e => by cases e; exact altsK_good d) h
def RX : XR → XR → Prop
  | .ok t, .ok t' => t = t'
  | .bad _ e, .bad _ e' => e = e'
  | _, _ => False
theorem exprK_snoc {r r' : List UInt8} (h : EQ r r') (hl : r.length < 4096) : RX (exprK kn r) (exprK kn r') := by
  have hl2 := h.lens
  have := altsK_snoc (kn := kn) 20 r r' h
  unfold exprK
  rw [if_neg (by omega), if_neg (by omega)]
  cases h1 : altsK kn 20 r with
  | bad p e =>
    cases h2 : altsK kn 20 r' with
    | bad p' e' => rw [h1, h2] at this; exact this
    | ok t q => rw [h1, h2] at this; exact this.elim
  | ok t q =>
    cases h2 : altsK kn 20 r' with
    | bad p' e' => rw [h1, h2] at this; exact this.elim
    | ok t' q' =>
      rw [h1, h2] at this
      obtain ⟨rfl, hq⟩ := this
      have hlen := hq.skip.len
      dsimp only
      by_cases hz : (skipB q).length = 0
      · rw [if_neg (show ¬ (skipB q).length ≠ 0 from fun e => e hz), if_neg (show ¬ (skipB q').length ≠ 0 from fun e => e (hlen.2 hz))]
        split <;> rfl
      · rw [if_pos hz, if_pos (fun e => hz (hlen.1 e))]
        rfl
theorem RX.self (M : XR) : RX M M := by cases M <;> rfl
theorem sideK_snoc {x : List UInt8} (hl : x.length < 4096) : RX (sideK kn x) (sideK kn (x ++ [32])) := by
  have ht : trimM (x ++ [32]) = trimM x := by unfold trimM; rw [trimRB_snoc]
  unfold sideK
  rw [ht]
  split
  · rfl
  · exact exprK_snoc (.inl rfl) hl
/-! Lines. -/
def RL2 : LR → LR → Prop
  | .ok t, .ok t' => t = t'
  | .bad _ e, .bad _ e' => e = e'
  | _, _ => False
theorem findIdx_snoc {p : UInt8 → Bool} (hp : p 32 = false) : ∀ (r : List UInt8), (r ++ [32]).findIdx? p = r.findIdx? p
  | [] => by simp [List.findIdx?_cons, hp]
  | a :: r => by
    rw [List.cons_append, List.findIdx?_cons, List.findIdx?_cons, findIdx_snoc hp r]
theorem ruleK_snoc {r : List UInt8} (hl : r.length < 4096) : RL2 (ruleK kn r) (ruleK kn (r ++ [32])) := by
  unfold ruleK
  rw [findIdx_snoc (p := sgnB) (by decide)]
  cases hf : r.findIdx? sgnB with
  | none => rfl
  | some k =>
    have hk := (List.findIdx?_eq_some_iff_getElem.1 hf).1
    dsimp only
    rw [List.take_append_of_le_length (by omega), List.drop_append_of_le_length (by omega), show nth (r ++ [32]) k = nth r k from by rw [nth_eq (by simp; omega), nth_eq hk, List.getElem_append_left hk]]
    cases sideK kn (r.take k) with
    | bad p e => rfl
    | ok a =>
      have := sideK_snoc (kn := kn) (x := r.drop (k + 1)) (by simp; omega)
      dsimp only
      cases h1 : sideK kn (r.drop (k + 1)) with
      | bad p e =>
        cases h2 : sideK kn (r.drop (k + 1) ++ [32]) with
        | bad p' e' => rw [h1, h2] at this; exact this
        | ok b => rw [h1, h2] at this; exact this.elim
      | ok b =>
        cases h2 : sideK kn (r.drop (k + 1) ++ [32]) with
        | bad p' e' => rw [h1, h2] at this; exact this.elim
        | ok b' =>
          rw [h1, h2] at this
          have this : b = b' := this
          subst this
          dsimp only
          split <;> rfl
def RM2 : LM → LM → Prop
  | .ok l, .ok l' => l = l'
  | .bad _ e, .bad _ e' => e = e'
  | _, _ => False
theorem wordsM_snoc : ∀ (n n' : Nat) (acc : List Int) (r r' : List UInt8), EQ r r' → r.length < n → r'.length < n' → RM2 (wordsM n acc r) (wordsM n' acc r')
  | 0, _, _, _, _, _, h, _ => absurd h (Nat.not_lt_zero _)
  | _ + 1, 0, _, _, _, _, _, h => absurd h (Nat.not_lt_zero _)
  | n + 1, n' + 1, acc, r, r', h, hn, hn' => by
    have hs := h.skip
    have hlen := hs.len
    have hl := skipB_le r
    have hl' := skipB_le r'
    obtain ⟨h1, h2⟩ := hs.eq.word
    unfold wordsM
    by_cases hz : (skipB r).length = 0
    · rw [if_pos hz, if_pos (hlen.2 hz)]; rfl
    · rw [if_neg hz, if_neg (fun e => hz (hlen.1 e)), h1]
      by_cases hw : (skipB r).takeWhile letterB = []
      · rw [if_pos hw, if_pos hw]; rfl
      · rw [if_neg hw, if_neg hw]
        cases numM ((skipB r).takeWhile letterB) with
        | none => rfl
        | some c =>
          have w1 := word_drop hw
          have w2 := word_drop (x := skipB r') (by rw [h1]; exact hw)
          exact wordsM_snoc n n' _ _ _ h2 (by omega) (by omega)
theorem listM_snoc {r r' : List UInt8} (h : EQ r r') : RM2 (listM r) (listM r') := by
  have := wordsM_snoc (r.length + 1) (r'.length + 1) [] r r' h (by omega) (by omega)
  unfold listM
  cases h1 : wordsM (r.length + 1) [] r with
  | bad p e =>
    cases h2 : wordsM (r'.length + 1) [] r' with
    | bad p' e' => rw [h1, h2] at this; exact this
    | ok l => rw [h1, h2] at this; exact this.elim
  | ok l =>
    cases h2 : wordsM (r'.length + 1) [] r' with
    | bad p' e' => rw [h1, h2] at this; exact this.elim
    | ok l' =>
      rw [h1, h2] at this
      have this : l = l' := this
      subst this
      cases l <;> rfl
def RML : ML → ML → Prop
  | .ok m, .ok m' => m = m'
  | .bad _ e, .bad _ e' => e = e'
  | _, _ => False
theorem letK_snoc {r r' : List UInt8} (h : EQ r r') (hl : r.length < 4096) : RML (letK kn r) (letK kn r') := by
  have hs := h.skip
  obtain ⟨h1, h2⟩ := hs.eq.word
  have hs2 := h2.skip
  have hle : (skipB ((skipB r).dropWhile letterB)).tail.length < 4096 := by
    have e1 := skipB_le r
    have e2 := (List.dropWhile_suffix (l := skipB r) letterB).length_le
    have e3 := skipB_le ((skipB r).dropWhile letterB)
    have e4 : (skipB ((skipB r).dropWhile letterB)).tail.length ≤ (skipB ((skipB r).dropWhile letterB)).length := by simp
    omega
  have hx := exprK_snoc (kn := kn) hs2.tail hle
  unfold letK
  rw [h1, hs2.head]
  split
  · rfl
  · split
    · rfl
    · split
      · cases g1 : exprK kn (skipB ((skipB r).dropWhile letterB)).tail with
        | bad p e =>
          cases g2 : exprK kn (skipB ((skipB r').dropWhile letterB)).tail with
          | bad p' e' => rw [g1, g2] at hx; exact hx
          | ok t => rw [g1, g2] at hx; exact hx.elim
        | ok t =>
          cases g2 : exprK kn (skipB ((skipB r').dropWhile letterB)).tail with
          | bad p' e' => rw [g1, g2] at hx; exact hx.elim
          | ok t' =>
            rw [g1, g2] at hx
            have hx : t = t' := hx
            subst hx
            rfl
      · rfl
end Go.Proofs.YtmohcfjopaccdaaGreatDoor
end
section
/- Plain: remarks, empty lines and blanks about a text's lines change nothing of what it means. -/
namespace Go.Proofs.YtmohcfjopaccdaaGreatDoor
open Go.VL Go.Proofs
set_option maxRecDepth 10000
variable {kn : Kn}

def RR : RK → RK → Prop
  | .go kn st, .go kn' st' => kn = kn' ∧ st = st'
  | .bad _ e, .bad _ e' => e = e'
  | _, _ => False
theorem RML.self (M : ML) : RML M M := by cases M <;> rfl
theorem RM2.self (M : LM) : RM2 M M := by cases M <;> rfl
theorem RL2.self (M : LR) : RL2 M M := by cases M <;> rfl
theorem addL_rel {st : St} {d d' : Nat} {M M' : ML} (h : RML M M') : RR (addL kn st d M) (addL kn st d' M') := by
  cases M with
  | ok m =>
    cases M' with
    | ok m' => have h : m = m' := h; subst h; exact ⟨rfl, rfl⟩
    | bad p e => exact h.elim
  | bad p e =>
    cases M' with
    | ok m' => exact h.elim
    | bad p' e' => exact h
theorem addI_rel {st : St} {d d' : Nat} {M M' : LM} (h : RM2 M M') : RR (liftK kn (addI st d M)) (liftK kn (addI st d' M')) := by
  cases M with
  | ok m =>
    cases M' with
    | ok m' => have h : m = m' := h; subst h; exact ⟨rfl, rfl⟩
    | bad p e => exact h.elim
  | bad p e =>
    cases M' with
    | ok m' => exact h.elim
    | bad p' e' => exact h
theorem addK_rel {st : St} {d d' : Nat} {M M' : LM} (h : RM2 M M') : RR (liftK kn (addK st d M)) (liftK kn (addK st d' M')) := by
  cases M with
  | ok m =>
    cases M' with
    | ok m' => have h : m = m' := h; subst h; exact ⟨rfl, rfl⟩
    | bad p e => exact h.elim
  | bad p e =>
    cases M' with
    | ok m' => exact h.elim
    | bad p' e' => exact h
theorem addR_rel {st : St} {d d' : Nat} {M M' : LR} (h : RL2 M M') : RR (liftK kn (addR st d M)) (liftK kn (addR st d' M')) := by
  cases M with
  | ok m =>
    cases M' with
    | ok m' => have h : m = m' := h; subst h; exact ⟨rfl, rfl⟩
    | bad p e => exact h.elim
  | bad p e =>
    cases M' with
    | ok m' => exact h.elim
    | bad p' e' => exact h
theorem readK_rel {st : St} {a b : List UInt8} (hz : (lineR b).length = 0 ↔ (lineR a).length = 0) (hw : (lineR b).takeWhile letterB = (lineR a).takeWhile letterB)
    (h1 : RML (letK kn ((lineR a).dropWhile letterB)) (letK kn ((lineR b).dropWhile letterB))) (h2 : RM2 (listM ((lineR a).dropWhile letterB)) (listM ((lineR b).dropWhile letterB))) (h3 : RL2 (ruleK kn (lineR a)) (ruleK kn (lineR b))) : RR (readK kn st a) (readK kn st b) := by
  unfold readK
  rw [hw]
  by_cases hz0 : (lineR a).length = 0
  · rw [if_pos hz0, if_pos (hz.2 hz0)]; exact ⟨rfl, rfl⟩
  · rw [if_neg hz0, if_neg (fun e => hz0 (hz.1 e))]
    split
    · exact addL_rel h1
    · split
      · split
        · rfl
        · exact addI_rel h2
      · split
        · split
          · rfl
          · exact addK_rel h2
        · split
          · exact addR_rel (RL2.self _)
          · exact addR_rel h3
theorem readK_same {st : St} {a b : List UInt8} (h : lineR b = lineR a) : RR (readK kn st a) (readK kn st b) :=
  readK_rel (by rw [h]) (by rw [h]) (by rw [h]; exact RML.self _) (by rw [h]; exact RM2.self _) (by rw [h]; exact RL2.self _)
theorem readK_blank {st : St} {a b : List UInt8} (h : ES (lineR a) (lineR b)) (hl : (lineR a).length < 4096) : RR (readK kn st a) (readK kn st b) := by
  obtain ⟨h1, h2⟩ := h.eq.word
  have hd := (List.dropWhile_suffix (l := lineR a) letterB).length_le
  have hlen := h.len
  rcases h with ⟨e1, e2⟩ | ⟨e1, e2⟩
  · exact readK_same (by rw [e1, e2])
  · exact readK_rel hlen h1 (letK_snoc h2 (by omega)) (listM_snoc h2) (by rw [e2]; exact ruleK_snoc hl)
/-! About a line. -/
def preO (p : List UInt8) : Prop := p = [] ∨ p = [32, 32]
def sufO (y : List UInt8) : Prop := y = [] ∨ y = [32] ∨ y = [35] ∨ y = [32, 35, 32, 120, 32, 33, 32, 121]
theorem pre_skip {p : List UInt8} (hp : preO p) (x : List UInt8) : skipB (p ++ x) = skipB x := by
  rcases hp with rfl | rfl
  · rfl
  · rw [List.cons_append, skipB_blank, List.cons_append, skipB_blank]; rfl
theorem pre_bare {p : List UInt8} (hp : preO p) (x : List UInt8) : bareL (p ++ x) = p ++ bareL x := by
  unfold bareL
  rcases hp with rfl | rfl
  · rfl
  · exact List.takeWhile_append_of_pos (by decide)
theorem bare_app (x y : List UInt8) : bareL (x ++ y) = bareL x ∨ (bareL x = x ∧ bareL (x ++ y) = x ++ bareL y) := by
  unfold bareL
  rw [List.takeWhile_append]
  split
  · rename_i h
    exact .inr ⟨(List.takeWhile_prefix _).eq_of_length h, rfl⟩
  · exact .inl rfl
theorem suf_bare {y : List UInt8} (h : sufO y) : bareL y = [] ∨ bareL y = [32] := by
  rcases h with rfl | rfl | rfl | rfl
  · exact .inl rfl
  · exact .inr rfl
  · exact .inl rfl
  · exact .inr rfl
theorem readK_about {st : St} {p x y : List UInt8} (hp : preO p) (hy : sufO y) (hl : x.length < 4096) : RR (readK kn st x) (readK kn st (p ++ x ++ y)) := by
  have e : lineR (p ++ x ++ y) = skipB (bareL (x ++ y)) := by
    unfold lineR; rw [List.append_assoc, pre_bare hp, pre_skip hp]
  rcases bare_app x y with h | ⟨h1, h2⟩
  · exact readK_same (by rw [e, h]; rfl)
  · rcases suf_bare hy with h3 | h3
    · exact readK_same (by rw [e, h2, h3, List.append_nil]; unfold lineR; rw [h1])
    · refine readK_blank ?_ ?_
      · rw [e, h2, h3]
        unfold lineR
        rw [h1]
        exact skip_snoc x
      · have := skipB_le (bareL x)
        rw [h1] at this
        unfold lineR
        rw [h1]
        omega
theorem readK_none (st : St) {b : List UInt8} (h : lineR b = []) : readK kn st b = .go kn st := by
  unfold readK; rw [if_pos (by rw [h]; rfl)]
/-! Line by line, without places. -/
inductive FK where
  | ok (st : St)
  | bad (e : Int)
def dropP : TK → FK
  | .ok st => .ok st
  | .bad _ e => .bad e
def runK : Nat → Kn → St → List UInt8 → FK
  | 0, _, _, _ => .bad 3
  | n + 1, kn, st, r =>
    match readK kn st (lineT r) with
    | .bad _ e => .bad e
    | .go kn' st' => if (lineT r).length = r.length then .ok st' else runK n kn' st' (r.drop ((lineT r).length + 1))
theorem run_lines : ∀ (n : Nat) (kn : Kn) (st : St) (fr : Nat) (r : List UInt8), dropP (linesK n kn st fr r) = runK n kn st r
  | 0, _, _, _, _ => rfl
  | n + 1, kn, st, fr, r => by
    unfold linesK runK
    cases readK kn st (lineT r) with
    | bad p e => rfl
    | go kn' st' =>
      dsimp only
      split
      · rfl
      · exact run_lines n _ _ _ _
theorem lineT_all {x : List UInt8} (h : ∀ b ∈ x, b ≠ 10) : lineT x = x := takeWhile_all fun b hb => by simpa using h b hb
theorem lineT_cut2 {x r : List UInt8} (h : ∀ b ∈ x, b ≠ 10) : lineT (x ++ 10 :: r) = x := by
  unfold lineT
  rw [List.takeWhile_append_of_pos (fun b hb => by simpa using h b hb), List.takeWhile_cons_of_neg (by simp), List.append_nil]
def endK : RK → FK
  | .bad _ e => .bad e
  | .go _ st => .ok st
def thenK (f : Kn → St → FK) : RK → FK
  | .bad _ e => .bad e
  | .go kn st => f kn st
theorem run_end {n : Nat} {st : St} {x : List UInt8} (h : ∀ b ∈ x, b ≠ 10) : runK (n + 1) kn st x = endK (readK kn st x) := by
  unfold runK
  rw [lineT_all h]
  cases readK kn st x with
  | bad p e => rfl
  | go kn' st' => dsimp only; rw [if_pos rfl]; rfl
theorem run_cut {n : Nat} {st : St} {x r : List UInt8} (h : ∀ b ∈ x, b ≠ 10) : runK (n + 1) kn st (x ++ 10 :: r) = thenK (fun kn st => runK n kn st r) (readK kn st x) := by
  conv => lhs; unfold runK
  rw [lineT_cut2 h]
  cases readK kn st x with
  | bad p e => rfl
  | go kn' st' =>
    dsimp only
    rw [if_neg (by simp), ← List.drop_drop, List.drop_left]
    rfl
theorem endK_rel {M M' : RK} (h : RR M M') : endK M = endK M' := by
  cases M with
  | bad p e =>
    cases M' with
    | bad p' e' => have h : e = e' := h; subst h; rfl
    | go kn st => exact h.elim
  | go kn st =>
    cases M' with
    | bad p' e' => exact h.elim
    | go kn' st' => obtain ⟨rfl, rfl⟩ := h; rfl
theorem thenK_rel {M M' : RK} {f f' : Kn → St → FK} (h : RR M M') (hf : ∀ kn st, f kn st = f' kn st) : thenK f M = thenK f' M' := by
  cases M with
  | bad p e =>
    cases M' with
    | bad p' e' => have h : e = e' := h; subst h; rfl
    | go kn st => exact h.elim
  | go kn st =>
    cases M' with
    | bad p' e' => exact h.elim
    | go kn' st' => obtain ⟨rfl, rfl⟩ := h; exact hf _ _
theorem thenK_end {M : RK} {f : Kn → St → FK} (hf : ∀ kn st, f kn st = .ok st) : thenK f M = endK M := by
  cases M with
  | bad p e => rfl
  | go kn st => exact hf _ _
theorem run_none {n : Nat} {st : St} {b r : List UInt8} (hb : ∀ c ∈ b, c ≠ 10) (h : lineR b = []) : runK (n + 1) kn st (b ++ 10 :: r) = runK n kn st r := by
  rw [run_cut hb, readK_none st h]; rfl
theorem run_none_end {n : Nat} {st : St} {b : List UInt8} (hb : ∀ c ∈ b, c ≠ 10) (h : lineR b = []) : runK (n + 1) kn st b = .ok st := by
  rw [run_end hb, readK_none st h]; rfl
/-! What is laid about lines. -/
def sufM (k : Nat) : List UInt8 := nth ([[], [32], [35], [32, 35, 32, 120, 32, 33, 32, 121], [10], [10, 32, 10, 32, 32, 35, 32, 122]] : List (List UInt8)) (k % 6)
def preM (k : Nat) : List UInt8 := nth ([[], [32, 32]] : List (List UInt8)) (k / 6 % 2)
def turnM (K : Nat → Nat) : Nat → List UInt8 → List UInt8
  | ln, [] => sufM (K ln)
  | ln, c :: r => if c = 10 then sufM (K ln) ++ 10 :: (preM (K ln) ++ turnM K (ln + 1) r) else c :: turnM K ln r
theorem pre_of (k : Nat) : preO (preM k) := by
  unfold preM preO
  have : k / 6 % 2 = 0 ∨ k / 6 % 2 = 1 := by omega
  rcases this with h | h <;> rw [h]
  · exact .inl (nth_eq (by decide))
  · exact .inr (nth_eq (by decide))
/-- One line more, or two, or none. -/
theorem suf_of (k : Nat) : sufO (sufM k) ∨ sufM k = [10] ∨ sufM k = [10, 32, 10, 32, 32, 35, 32, 122] := by
  unfold sufM sufO
  have : k % 6 = 0 ∨ k % 6 = 1 ∨ k % 6 = 2 ∨ k % 6 = 3 ∨ k % 6 = 4 ∨ k % 6 = 5 := by omega
  rcases this with h | h | h | h | h | h <;> rw [h]
  · exact .inl (.inl (nth_eq (by decide)))
  · exact .inl (.inr (.inl (nth_eq (by decide))))
  · exact .inl (.inr (.inr (.inl (nth_eq (by decide)))))
  · exact .inl (.inr (.inr (.inr (nth_eq (by decide)))))
  · exact .inr (.inl (nth_eq (by decide)))
  · exact .inr (.inr (nth_eq (by decide)))
theorem suf_len (k : Nat) : (sufM k).length ≤ 8 := by
  rcases suf_of k with (h | h | h | h) | h | h <;> rw [h] <;> decide
theorem pre_len (k : Nat) : (preM k).length ≤ 2 := by
  rcases pre_of k with h | h <;> rw [h] <;> decide
theorem turn_len (K : Nat → Nat) : ∀ (ln : Nat) (r : List UInt8), (turnM K ln r).length ≤ 11 * r.length + 8
  | ln, [] => by have := suf_len (K ln); simpa [turnM] using this
  | ln, c :: r => by
    have h1 := turn_len K (ln + 1) r
    have h2 := turn_len K ln r
    have h3 := suf_len (K ln)
    have h4 := pre_len (K ln)
    unfold turnM
    split
    · simp only [List.length_append, List.length_cons]; omega
    · simp only [List.length_cons]; omega
theorem turn_line (K : Nat → Nat) (ln : Nat) : ∀ (x : List UInt8), (∀ b ∈ x, b ≠ 10) → turnM K ln x = x ++ sufM (K ln)
  | [], _ => by simp [turnM]
  | c :: x, h => by
    unfold turnM
    rw [if_neg (h c (by simp)), turn_line K ln x fun b hb => h b (by simp [hb])]
    rfl
theorem turn_cut (K : Nat → Nat) (ln : Nat) (r : List UInt8) : ∀ (x : List UInt8), (∀ b ∈ x, b ≠ 10) → turnM K ln (x ++ 10 :: r) = x ++ (sufM (K ln) ++ 10 :: (preM (K ln) ++ turnM K (ln + 1) r))
  | [], _ => by
    rw [List.nil_append, turnM, if_pos rfl]; rfl
  | c :: x, h => by
    rw [List.cons_append, turnM, if_neg (h c (by simp)), turn_cut K ln r x fun b hb => h b (by simp [hb])]
    rfl
theorem line_split (r : List UInt8) : (∀ b ∈ r, b ≠ 10) ∨ ∃ x q, r = x ++ 10 :: q ∧ ∀ b ∈ x, b ≠ 10 := by
  induction r with
  | nil => exact .inl fun b hb => absurd hb (by simp)
  | cons a r ih =>
    by_cases h : a = 10
    · subst h; exact .inr ⟨[], r, rfl, fun b hb => absurd hb (by simp)⟩
    · rcases ih with ih | ⟨x, q, rfl, hx⟩
      · exact .inl fun b hb => by
          rcases List.mem_cons.1 hb with rfl | hb
          · exact h
          · exact ih b hb
      · exact .inr ⟨a :: x, q, rfl, fun b hb => by
          rcases List.mem_cons.1 hb with rfl | hb
          · exact h
          · exact hx b hb⟩
theorem no10 {p x y : List UInt8} (hp : preO p) (hx : ∀ b ∈ x, b ≠ 10) (hy : sufO y) : ∀ b ∈ p ++ x ++ y, b ≠ 10 := fun b hb => by
  rcases List.mem_append.1 hb with hb | hb
  · rcases List.mem_append.1 hb with hb | hb
    · rcases hp with rfl | rfl
      · simp at hb
      · exact (by decide : ∀ b ∈ ([32, 32] : List UInt8), b ≠ 10) b hb
    · exact hx b hb
  · rcases hy with rfl | rfl | rfl | rfl
    · simp at hb
    · exact (by decide : ∀ b ∈ ([32] : List UInt8), b ≠ 10) b hb
    · exact (by decide : ∀ b ∈ ([35] : List UInt8), b ≠ 10) b hb
    · exact (by decide : ∀ b ∈ ([32, 35, 32, 120, 32, 33, 32, 121] : List UInt8), b ≠ 10) b hb
theorem run_last (K : Nat → Nat) {x : List UInt8} (hx : ∀ b ∈ x, b ≠ 10) (ln : Nat) (p : List UInt8) (hp : preO p) (n n' : Nat) (kn : Kn) (st : St) (hn : x.length < n) (hn' : (p ++ turnM K ln x).length < n') (hl : x.length < 4096) : runK n kn st x = runK n' kn st (p ++ turnM K ln x) := by
  obtain ⟨n, rfl⟩ : ∃ k, n = k + 1 := ⟨n - 1, by omega⟩
  rw [turn_line K ln x hx] at hn' ⊢
  rcases suf_of (K ln) with hs | hs | hs
  · obtain ⟨n', rfl⟩ : ∃ k, n' = k + 1 := ⟨n' - 1, by omega⟩
    rw [← List.append_assoc, run_end hx, run_end (no10 hp hx hs)]
    exact endK_rel (readK_about hp hs hl)
  · rw [hs, show p ++ (x ++ [10]) = (p ++ x ++ []) ++ 10 :: [] from by simp] at hn' ⊢
    simp only [List.length_append, List.length_cons, List.length_nil] at hn'
    obtain ⟨n', rfl⟩ : ∃ k, n' = k + 2 := ⟨n' - 2, by omega⟩
    rw [run_end hx, run_cut (no10 hp hx (.inl rfl)), thenK_end (fun kn st => run_none_end (fun b hb => absurd hb (by simp)) rfl)]
    exact endK_rel (readK_about hp (.inl rfl) hl)
  · rw [hs, show p ++ (x ++ [10, 32, 10, 32, 32, 35, 32, 122]) = (p ++ x ++ []) ++ 10 :: ([32] ++ 10 :: [32, 32, 35, 32, 122]) from by simp] at hn' ⊢
    simp only [List.length_append, List.length_cons, List.length_nil] at hn'
    obtain ⟨n', rfl⟩ : ∃ k, n' = k + 3 := ⟨n' - 3, by omega⟩
    rw [run_end hx, run_cut (no10 hp hx (.inl rfl)), thenK_end (fun kn st => ?_)]
    · exact endK_rel (readK_about hp (.inl rfl) hl)
    · rw [run_none (by decide) rfl]
      exact run_none_end (by decide) rfl
theorem run_turn (K : Nat → Nat) : ∀ (m : Nat) (r : List UInt8), r.length ≤ m → ∀ (ln : Nat) (p : List UInt8), preO p → ∀ (n n' : Nat) (kn : Kn) (st : St), r.length < n → (p ++ turnM K ln r).length < n' → r.length < 4096 → runK n kn st r = runK n' kn st (p ++ turnM K ln r) := by
  intro m
  induction m with
  | zero =>
    intro r hr ln p hp n n' kn st hn hn' hl
    obtain rfl := List.eq_nil_of_length_eq_zero (Nat.le_zero.1 hr)
    exact run_last K (x := []) (fun b hb => absurd hb (by simp)) ln p hp n n' kn st hn hn' hl
  | succ m ih =>
    intro r hr ln p hp n n' kn st hn hn' hl
    rcases line_split r with h | ⟨x, q, rfl, hx⟩
    · exact run_last K h ln p hp n n' kn st hn hn' hl
    · obtain ⟨n, rfl⟩ : ∃ k, n = k + 1 := ⟨n - 1, by omega⟩
      rw [turn_cut K ln q x hx] at hn' ⊢
      simp only [List.length_append, List.length_cons] at hr hn hl
      have hpre := pre_of (K ln)
      rcases suf_of (K ln) with hs | hs | hs
      · rw [show p ++ (x ++ (sufM (K ln) ++ 10 :: (preM (K ln) ++ turnM K (ln + 1) q))) = (p ++ x ++ sufM (K ln)) ++ 10 :: (preM (K ln) ++ turnM K (ln + 1) q) from by simp] at hn' ⊢
        simp only [List.length_append, List.length_cons, List.length_nil] at hn'
        obtain ⟨n', rfl⟩ : ∃ k, n' = k + 1 := ⟨n' - 1, by omega⟩
        rw [run_cut hx, run_cut (no10 hp hx hs)]
        exact thenK_rel (readK_about hp hs (by omega)) fun kn st => ih q (by omega) _ _ hpre _ _ _ _ (by omega) (by rw [List.length_append]; omega) (by omega)
      · rw [hs, show p ++ (x ++ ([10] ++ 10 :: (preM (K ln) ++ turnM K (ln + 1) q))) = (p ++ x ++ []) ++ 10 :: ([] ++ 10 :: (preM (K ln) ++ turnM K (ln + 1) q)) from by simp] at hn' ⊢
        simp only [List.length_append, List.length_cons, List.length_nil] at hn'
        obtain ⟨n', rfl⟩ : ∃ k, n' = k + 2 := ⟨n' - 2, by omega⟩
        rw [run_cut hx, run_cut (no10 hp hx (.inl rfl))]
        refine thenK_rel (readK_about hp (.inl rfl) (by omega)) fun kn st => ?_
        rw [run_none (fun b hb => absurd hb (by simp)) rfl]
        exact ih q (by omega) _ _ hpre _ _ _ _ (by omega) (by rw [List.length_append]; omega) (by omega)
      · rw [hs, show p ++ (x ++ ([10, 32, 10, 32, 32, 35, 32, 122] ++ 10 :: (preM (K ln) ++ turnM K (ln + 1) q))) = (p ++ x ++ []) ++ 10 :: ([32] ++ 10 :: ([32, 32, 35, 32, 122] ++ 10 :: (preM (K ln) ++ turnM K (ln + 1) q))) from by simp] at hn' ⊢
        simp only [List.length_append, List.length_cons, List.length_nil] at hn'
        obtain ⟨n', rfl⟩ : ∃ k, n' = k + 3 := ⟨n' - 3, by omega⟩
        rw [run_cut hx, run_cut (no10 hp hx (.inl rfl))]
        refine thenK_rel (readK_about hp (.inl rfl) (by omega)) fun kn st => ?_
        rw [run_none (by decide) rfl, run_none (by decide) rfl]
        exact ih q (by omega) _ _ hpre _ _ _ _ (by omega) (by rw [List.length_append]; omega) (by omega)
theorem parse_turn {K : Nat → Nat} {s : List UInt8} (hs : s.length ≤ 300) : dropP (parseK s) = dropP (parseK (turnM K 0 s)) := by
  have hl := turn_len K 0 s
  unfold parseK
  rw [if_neg (by omega), if_neg (by omega), run_lines, run_lines]
  exact run_turn K s.length s (Nat.le_refl _) 0 [] (.inl rfl) _ _ _ _ (by omega) (by simp) (by omega)
end Go.Proofs.YtmohcfjopaccdaaGreatDoor
end
section
/- Package virgulelaw06, walked: RuleLines. -/
namespace Go.Proofs.YtmohcfjopaccdaaGreatDoor
open Go.VL Go.Proofs
set_option maxRecDepth 10000

def infoF : FK → (List Int × List Int × List R3) × Int
  | .ok st => ((st.li, st.lk, st.ts), 0)
  | .bad e => (([], [], []), e)
theorem PostS6.info {w : World} {v : Value} {M : TK} (h : PostS6 w v M) : ∃ a b c av, v = .tuple #[txtV a b c, .int .i64 av, .int .i64 (infoF (dropP M)).2] ∧ a.oneCell' = true ∧ b.oneCell' = true ∧ c.oneCell' = true ∧ Tx w (txtV a b c) (infoF (dropP M)).1.1 (infoF (dropP M)).1.2.1 (infoF (dropP M)).1.2.2 := by
  cases M with
  | ok st =>
    obtain ⟨tv, rfl, ht⟩ := h
    obtain ⟨a, b, c, rfl, o1, o2, o3⟩ := ht.shape
    exact ⟨a, b, c, 0, rfl, o1, o2, o3, ht⟩
  | bad p e =>
    obtain ⟨rfl, _⟩ := h
    exact ⟨_, _, _, _, rfl, rfl, rfl, rfl, Tx.nil w⟩
def sufL : List (List UInt8) := [[], [32], [35], [32, 35, 32, 120, 32, 33, 32, 121], [10], [10, 32, 10, 32, 32, 35, 32, 122]]
def preL : List (List UInt8) := [[], [32, 32]]
/-- What is laid about a line. -/
def byM (l : List Int) (ln : Nat) : Nat := if ln < l.length then (nth l ln).toNat else 0
theorem turn_at {K : Nat → Nat} {ln i : Nat} {s tl t : List UInt8} (hi : i < s.length) (h : tl ++ turnM K ln (s.drop i) = t) (hc : nth s i ≠ 10) : (tl ++ ((s.take (i + 1)).drop i)) ++ turnM K ln (s.drop (i + 1)) = t := by
  have e : (s.take (i + 1)).drop i = [nth s i] := by
    rw [take_nth hi, List.drop_append_of_le_length (by simp; omega), List.drop_of_length_le (by simp; omega), List.nil_append]
  have e2 : s.drop i = nth s i :: s.drop (i + 1) := by rw [nth_eq hi]; exact List.drop_eq_getElem_cons hi
  rw [e2, turnM, if_neg hc] at h
  rw [e, List.append_assoc]; exact h
theorem turn_at10 {K : Nat → Nat} {ln i : Nat} {s tl t : List UInt8} (hi : i < s.length) (h : tl ++ turnM K ln (s.drop i) = t) (hc : nth s i = 10) : (((tl ++ sufM (K ln)) ++ [10]) ++ preM (K ln)) ++ turnM K (ln + 1) (s.drop (i + 1)) = t := by
  have e2 : s.drop i = nth s i :: s.drop (i + 1) := by rw [nth_eq hi]; exact List.drop_eq_getElem_cons hi
  rw [e2, turnM, if_pos hc] at h
  rw [← h]; simp
theorem turn_atE {K : Nat → Nat} {ln i : Nat} {s tl t : List UInt8} (hi : i = s.length) (h : tl ++ turnM K ln (s.drop i) = t) : tl ++ sufM (K ln) = t := by
  subst hi
  rw [List.drop_length, turnM] at h
  exact h
theorem byM_le {l : List Int} (h8 : ∀ c ∈ l, 0 ≤ c ∧ c ≤ 255) (ln : Nat) : byM l ln ≤ 255 := by
  unfold byM
  split
  · rename_i h
    have := h8 _ (nth_mem h)
    omega
  · omega
theorem tmodN (k m : Nat) : ((k : Nat) : Int).tmod (m : Nat) = ((k % m : Nat) : Int) := rfl
theorem tdivN (k m : Nat) : ((k : Nat) : Int).tdiv (m : Nat) = ((k / m : Nat) : Int) := rfl
theorem ruleLines_ret (s : List UInt8) (l : List Int) (bv : Value) (w : World) (hs : s.length ≤ 9223372036854775807) (hb : Sl (fun c : Int => [Value.int .u8 c]) 1 w bv l) (h8 : ∀ c ∈ l, 0 ≤ c ∧ c ≤ 255) :
    Ret Tryz.prog 6 [.string (bs s), bv] w fun v w' => v = .bool true ∧ Ext w w' := by
  have hbl := hb.len_le
  refine Ret.enter Tryz.func6 Tryz.ntmps6 rfl rfl ?_
  refine WC.seq ?_
  refine WC.region ?_
  refine WL.v (RV.assign rfl) rfl ?_
  refine WL.nil ?_
  refine QF.seqNext ?_
  refine WC.seq ?_
  refine WC.seq ?_
  refine WC.region ?_
  refine WL.v (RV.move rfl) rfl ?_
  refine WL.v (RV.lenS Tryz.underlying9 rfl) rfl ?_
  refine WL.v (RV.gtr rfl rfl) rfl ?_
  refine WL.v (RV.move rfl) rfl ?_
  by_cases hl : 300 < s.length
  · skip
    refine WL.know (d := 18) rfl (b' := true) ((decide_eq_true (by omega))) ?_
    refine WL.off rfl rfl rfl ?_
    refine WL.off rfl rfl rfl ?_
    refine WL.off rfl rfl rfl ?_
    refine WL.v (RV.pickT rfl rfl) rfl ?_
    refine WL.v (RV.move rfl) rfl ?_
    refine WL.off rfl rfl rfl ?_
    refine WL.off rfl rfl rfl ?_
    refine WL.v (RV.pickT rfl rfl) rfl ?_
    refine WL.nil ?_
    refine QF.seqNext ?_
    refine WC.condT rfl rfl ?_
    refine WC.seq ?_
    refine WC.region ?_
    refine WL.call Tryz.call7 rfl (awake_ret w) rfl ?_
    rintro v w1 ⟨rfl, hE1⟩
    refine WL.v (RV.assign rfl) rfl ?_
    refine WL.nil ?_
    refine QF.seqNext ?_
    refine WC.ret ?_
    refine QF.thenRet ?_
    refine QF.done1 rfl rfl (⟨rfl, hE1⟩)
  · skip
    refine WL.know (d := 18) rfl (b' := false) ((decide_eq_false (by omega))) ?_
    refine WL.on rfl ?_
    refine WL.v (RV.move rfl) rfl ?_
    refine WL.on rfl ?_
    refine WL.v (RV.len (by first | exact hb) Tryz.underlying30 rfl) rfl ?_
    refine WL.on rfl ?_
    refine WL.v (RV.gtr rfl rfl) rfl ?_
    refine WL.v (RV.pickF rfl rfl) rfl ?_
    refine WL.v (RV.move rfl) rfl ?_
    by_cases hl2 : 40 < l.length
    · skip
      refine WL.know (d := 23) rfl (b' := true) ((decide_eq_true (by omega))) ?_
      refine WL.off rfl rfl rfl ?_
      refine WL.off rfl rfl rfl ?_
      refine WL.v (RV.pickT rfl rfl) rfl ?_
      refine WL.nil ?_
      refine QF.seqNext ?_
      refine WC.condT rfl rfl ?_
      refine WC.seq ?_
      refine WC.region ?_
      refine WL.call Tryz.call7 rfl (awake_ret w) rfl ?_
      rintro v w1 ⟨rfl, hE1⟩
      refine WL.v (RV.assign rfl) rfl ?_
      refine WL.nil ?_
      refine QF.seqNext ?_
      refine WC.ret ?_
      refine QF.thenRet ?_
      refine QF.done1 rfl rfl (⟨rfl, hE1⟩)
    · skip
      refine WL.know (d := 23) rfl (b' := false) ((decide_eq_false (by omega))) ?_
      refine WL.on rfl ?_
      refine WL.call Tryz.call7 rfl (awake_ret w) rfl ?_
      rintro v w1 ⟨rfl, hE1⟩
      refine WL.on rfl ?_
      refine WL.v (RV.not rfl) rfl ?_
      refine WL.v (RV.pickF rfl rfl) rfl ?_
      refine WL.nil ?_
      refine QF.seqNext ?_
      refine WC.condF rfl (rfl) ?_
      obtain ⟨t, ht⟩ : ∃ t, t = turnM (byM l) 0 s := ⟨_, rfl⟩
      have htl := turn_len (byM l) 0 s
      rw [← ht] at htl
      refine WC.skip ?_
      refine QF.seqNext ?_
      refine WC.seq ?_
      refine WC.region ?_
      refine WL.v (RV.assign rfl) rfl ?_
      refine WL.nil ?_
      refine QF.seqNext ?_
      refine WC.seq ?_
      refine WC.region ?_
      refine WL.v (RV.assign rfl) rfl ?_
      refine WL.nil ?_
      refine QF.seqNext ?_
      refine WC.seq ?_
      refine WC.seq ?_
      refine WC.region ?_
      refine WL.v (RV.assign rfl) rfl ?_
      refine WL.nil ?_
      refine QF.seqNext ?_
      refine WC.block ?_
      refine WC.loop (fun z : Nat × Nat × List UInt8 × World => [(0, .string (bs s)), (1, bv), (5, .string (bs z.2.2.1)), (6, .int .i64 z.2.1), (7, .int .i64 z.1)]) (fun z : Nat × Nat × List UInt8 × World => z.2.2.2) (fun z : Nat × Nat × List UInt8 × World => Ext w z.2.2.2 ∧ z.2.1 ≤ z.1 ∧ ((z.1 ≤ s.length ∧ z.2.2.1 ++ turnM (byM l) z.2.1 (s.drop z.1) = t) ∨ (z.1 = s.length + 1 ∧ z.2.2.1 = t))) (fun z : Nat × Nat × List UInt8 × World => s.length + 1 - z.1) (0, 0, [], w1) (⟨hE1, Nat.le_refl _, .inl ⟨Nat.zero_le _, ht.symm⟩⟩) ⟨rfl, rfl, rfl, rfl, rfl, trivial⟩ rfl ?_
      rintro ⟨i, ln, tl, w2⟩ ⟨hE2, hln, hI⟩
      dsimp only at hE2 hln hI ⊢
      have hbE := hb.ext hE2
      have htl2 : tl.length ≤ 3308 := by
        rcases hI with ⟨_, h⟩ | ⟨_, h⟩
        · have := congrArg List.length h; simp at this; omega
        · rw [h]; omega
      refine WC.seq ?_
      refine WC.seq ?_
      refine WC.region ?_
      refine WL.v (RV.move rfl) rfl ?_
      refine WL.v (RV.move rfl) rfl ?_
      refine WL.v (RV.lenS Tryz.underlying9 rfl) rfl ?_
      refine WL.v (RV.leq rfl rfl) rfl ?_
      refine WL.nil ?_
      refine QF.seqNext ?_
      by_cases hle : i ≤ s.length
      · have hI : tl ++ turnM (byM l) ln (s.drop i) = t := by
          rcases hI with ⟨_, h⟩ | ⟨h, _⟩
          · exact h
          · omega
        refine WC.condT rfl ((decide_eq_true (by omega))) ?_
        refine WC.skip ?_
        refine QF.seqNext ?_
        refine WC.seq ?_
        refine WC.block ?_
        refine WC.seq ?_
        refine WC.seq ?_
        refine WC.region ?_
        refine WL.v (RV.move rfl) rfl ?_
        refine WL.v (RV.move rfl) rfl ?_
        refine WL.v (RV.lenS Tryz.underlying9 rfl) rfl ?_
        refine WL.v (RV.lss rfl rfl) rfl ?_
        refine WL.v (RV.move rfl) rfl ?_
        cases hlt : decide (i < s.length) with
        | true =>
          replace hlt := of_decide_eq_true hlt
          refine WL.know (d := 38) rfl (b' := true) ((decide_eq_true (by omega))) ?_
          refine WL.on rfl ?_
          refine WL.v (RV.move rfl) rfl ?_
          refine WL.on rfl ?_
          refine WL.v (RV.move rfl) rfl ?_
          refine WL.on rfl ?_
          refine WL.v (RV.indexS Tryz.underlying9 rfl rfl _ rfl (by omega)) rfl ?_
          refine WL.on rfl ?_
          refine WL.v (RV.neq rfl rfl) rfl ?_
          refine WL.v (RV.pickT rfl rfl) rfl ?_
          refine WL.nil ?_
          refine QF.seqNext ?_
          cases hc : decide (nth s i = 10) with
          | false =>
            replace hc := of_decide_eq_false hc
            refine WC.condT rfl ((by rw [bne_iff_ne]; intro e; exact hc (UInt8.toNat_inj.1 (by have : UInt8.toNat 10 = 10 := rfl; omega)))) ?_
            refine WC.seq ?_
            refine WC.region ?_
            refine WL.v (RV.move rfl) rfl ?_
            refine WL.v (RV.move rfl) rfl ?_
            refine WL.v (RV.move rfl) rfl ?_
            refine WL.v (RV.move rfl) rfl ?_
            refine WL.v (RV.add rfl rfl (Fit.i64 (by omega))) rfl ?_
            refine WL.v (RV.sliceS Tryz.underlying9 rfl rfl rfl i (i + 1) rfl (by omega) (by omega) (by omega)) rfl ?_
            refine WL.v (RV.addS rfl rfl (by simp; omega)) rfl ?_
            refine WL.v (RV.assign rfl) rfl ?_
            refine WL.nil ?_
            refine QF.seqNext ?_
            refine WC.exit ?_
            refine QF.thenExit ?_
            refine QF.blockHit ?_
            refine QF.seqNext ?_
            refine WC.region ?_
            refine WL.v (RV.move rfl) rfl ?_
            refine WL.v (RV.add rfl rfl (Fit.i64 (by omega))) rfl ?_
            refine WL.v (RV.assign rfl) rfl ?_
            refine WL.nil ?_
            refine QF.next ((i + 1, ln, tl ++ ((s.take (i + 1)).drop i), w2)) (⟨hE2, by dsimp only; omega, .inl ⟨hlt, turn_at hlt hI hc⟩⟩) (by dsimp only; omega) ⟨rfl, rfl, rfl, rfl, rfl, trivial⟩ rfl
          | true =>
            replace hc := of_decide_eq_true hc
            refine WC.condF rfl ((by rw [hc]; rfl)) ?_
            refine WC.skip ?_
            refine QF.seqNext ?_
            refine WC.seq ?_
            refine WC.region ?_
            refine WL.v (RV.assign rfl) rfl ?_
            refine WL.nil ?_
            refine QF.seqNext ?_
            refine WC.seq ?_
            refine WC.seq ?_
            refine WC.region ?_
            refine WL.v (RV.move rfl) rfl ?_
            refine WL.v (RV.move rfl) rfl ?_
            refine WL.v (RV.len (by first | exact hbE) Tryz.underlying30 rfl) rfl ?_
            refine WL.v (RV.lss rfl rfl) rfl ?_
            refine WL.nil ?_
            refine QF.seqNext ?_
            refine WC.mid (fun z : Nat => [(0, .string (bs s)), (1, bv), (5, .string (bs tl)), (6, .int .i64 ln), (7, .int .i64 i), (8, .int .u8 (z : Nat))]) (fun z : Nat => w2) (fun z : Nat => z = byM l ln) ?_ ?_
            · intro hN
              refine WC.cond rfl ?_ ?_
              · intro hb1
                replace hb1 : ln < l.length := by have := of_decide_eq_true hb1; omega
                have hz : nth l ln = ((byM l ln : Nat) : Int) := by
                  have := h8 _ (nth_mem hb1)
                  unfold byM; rw [if_pos hb1]; omega
                refine WC.region ?_
                refine WL.v (RV.move rfl) rfl ?_
                refine WL.v (RV.move rfl) rfl ?_
                refine WL.v (RV.indexAddr (by first | exact hbE) Tryz.underlying30 (Tryz.sizeOf5 _) rfl rfl _ rfl (by omega)) rfl ?_
                refine WL.v (RV.load (by first | exact hbE.ld hb1) (Tryz.isAgg5 _) rfl) rfl ?_
                refine WL.v (RV.assign rfl) rfl ?_
                refine WL.nil ?_
                rw [hz]
                exact QF.of (hN (byM l ln) (rfl)) ⟨rfl, rfl, rfl, rfl, rfl, rfl, trivial⟩ rfl
              · intro hb1
                replace hb1 : ¬ ln < l.length := by have := of_decide_eq_false hb1; omega
                refine WC.skip ?_
                exact QF.of (hN (0) (by unfold byM; rw [if_neg hb1])) ⟨rfl, rfl, rfl, rfl, rfl, rfl, trivial⟩ rfl
            rintro k hk
            have hk8 : k ≤ 255 := by rw [hk]; exact byM_le h8 ln
            refine QF.seqNext ?_
            refine WC.seq ?_
            refine WC.region ?_
            refine WL.v (RV.move rfl) rfl ?_
            refine WL.buildSl Tryz.underlying44 (Tryz.sizeOf9 _) (Tryz.zeroValue9 _) encS sufL rfl rfl rfl rfl (by kernel_rfl) (by decide) rfl ?_
            intro lv w3 hlv hE3
            refine WL.v (RV.move rfl) rfl ?_
            refine WL.v (RV.rem rfl rfl (by decide)) rfl ?_
            rw [show ((k : Nat) : Int).tmod 6 = ((k % 6 : Nat) : Int) from tmodN k 6]
            have c3 : w3.cell? (adr lv 1 (k % 6)) = some (.string (bs (sufM k))) := hlv.cell (i := k % 6) (j := 0) (Nat.mod_lt _ (by decide)) rfl
            have hsl := suf_len k
            have hpl := pre_len k
            refine WL.v (RV.indexAddr hlv Tryz.underlying44 (Tryz.sizeOf9 _) rfl rfl (k % 6) rfl (Nat.mod_lt _ (by decide))) rfl ?_
            refine WL.v (RV.load (by first | exact c3) (Tryz.isAgg9 _) rfl) rfl ?_
            refine WL.v (RV.addS rfl rfl (by omega)) rfl ?_
            refine WL.v (RV.assign rfl) rfl ?_
            refine WL.nil ?_
            refine QF.seqNext ?_
            refine WC.seq ?_
            refine WC.seq ?_
            refine WC.region ?_
            refine WL.v (RV.move rfl) rfl ?_
            refine WL.v (RV.move rfl) rfl ?_
            refine WL.v (RV.lenS Tryz.underlying9 rfl) rfl ?_
            refine WL.v (RV.lss rfl rfl) rfl ?_
            refine WL.nil ?_
            refine QF.seqNext ?_
            refine WC.condT rfl ((decide_eq_true (by omega))) ?_
            refine WC.region ?_
            refine WL.v (RV.move rfl) rfl ?_
            refine WL.v (RV.addS rfl rfl (by simp; omega)) rfl ?_
            refine WL.buildSl Tryz.underlying44 (Tryz.sizeOf9 _) (Tryz.zeroValue9 _) encS preL rfl rfl rfl rfl (by kernel_rfl) (by decide) rfl ?_
            intro lv2 w4 hlv2 hE4
            refine WL.v (RV.move rfl) rfl ?_
            refine WL.v (RV.quo rfl rfl (by decide) (Fit.u8 (by rw [show ((k : Nat) : Int).tdiv 6 = ((k / 6 : Nat) : Int) from tdivN k 6]; omega))) rfl ?_
            rw [show ((k : Nat) : Int).tdiv 6 = ((k / 6 : Nat) : Int) from tdivN k 6]
            refine WL.v (RV.rem rfl rfl (by decide)) rfl ?_
            rw [show ((k / 6 : Nat) : Int).tmod 2 = ((k / 6 % 2 : Nat) : Int) from tmodN (k / 6) 2]
            have c4 : w4.cell? (adr lv2 1 (k / 6 % 2)) = some (.string (bs (preM k))) := hlv2.cell (i := k / 6 % 2) (j := 0) (Nat.mod_lt _ (by decide)) rfl
            refine WL.v (RV.indexAddr hlv2 Tryz.underlying44 (Tryz.sizeOf9 _) rfl rfl (k / 6 % 2) rfl (Nat.mod_lt _ (by decide))) rfl ?_
            refine WL.v (RV.load (by first | exact c4) (Tryz.isAgg9 _) rfl) rfl ?_
            refine WL.v (RV.addS rfl rfl (by simp; omega)) rfl ?_
            refine WL.v (RV.assign rfl) rfl ?_
            refine WL.nil ?_
            refine QF.seqNext ?_
            refine WC.region ?_
            refine WL.v (RV.move rfl) rfl ?_
            refine WL.v (RV.add rfl rfl (Fit.i64 (by omega))) rfl ?_
            refine WL.v (RV.assign rfl) rfl ?_
            refine WL.nil ?_
            refine QF.blockNormal ?_
            refine QF.seqNext ?_
            refine WC.region ?_
            refine WL.v (RV.move rfl) rfl ?_
            refine WL.v (RV.add rfl rfl (Fit.i64 (by omega))) rfl ?_
            refine WL.v (RV.assign rfl) rfl ?_
            refine WL.nil ?_
            refine QF.next ((i + 1, ln + 1, ((tl ++ sufM k) ++ [10]) ++ preM k, w4)) (⟨(hE2.trans hE3).trans hE4, by dsimp only; omega, .inl ⟨hlt, by rw [hk]; exact turn_at10 hlt hI hc⟩⟩) (by dsimp only; omega) ⟨rfl, rfl, rfl, rfl, rfl, trivial⟩ rfl
        | false =>
          replace hlt := of_decide_eq_false hlt
          refine WL.know (d := 38) rfl (b' := false) ((decide_eq_false (by omega))) ?_
          refine WL.off rfl rfl rfl ?_
          refine WL.off rfl rfl rfl ?_
          refine WL.off rfl rfl rfl ?_
          refine WL.off rfl rfl rfl ?_
          refine WL.v (RV.pickF rfl rfl) rfl ?_
          refine WL.nil ?_
          refine QF.seqNext ?_
          refine WC.condF rfl rfl ?_
          refine WC.skip ?_
          refine QF.seqNext ?_
          refine WC.seq ?_
          refine WC.region ?_
          refine WL.v (RV.assign rfl) rfl ?_
          refine WL.nil ?_
          refine QF.seqNext ?_
          refine WC.seq ?_
          refine WC.seq ?_
          refine WC.region ?_
          refine WL.v (RV.move rfl) rfl ?_
          refine WL.v (RV.move rfl) rfl ?_
          refine WL.v (RV.len (by first | exact hbE) Tryz.underlying30 rfl) rfl ?_
          refine WL.v (RV.lss rfl rfl) rfl ?_
          refine WL.nil ?_
          refine QF.seqNext ?_
          refine WC.mid (fun z : Nat => [(0, .string (bs s)), (1, bv), (5, .string (bs tl)), (6, .int .i64 ln), (7, .int .i64 i), (8, .int .u8 (z : Nat))]) (fun z : Nat => w2) (fun z : Nat => z = byM l ln) ?_ ?_
          · intro hN
            refine WC.cond rfl ?_ ?_
            · intro hb1
              replace hb1 : ln < l.length := by have := of_decide_eq_true hb1; omega
              have hz : nth l ln = ((byM l ln : Nat) : Int) := by
                have := h8 _ (nth_mem hb1)
                unfold byM; rw [if_pos hb1]; omega
              refine WC.region ?_
              refine WL.v (RV.move rfl) rfl ?_
              refine WL.v (RV.move rfl) rfl ?_
              refine WL.v (RV.indexAddr (by first | exact hbE) Tryz.underlying30 (Tryz.sizeOf5 _) rfl rfl _ rfl (by omega)) rfl ?_
              refine WL.v (RV.load (by first | exact hbE.ld hb1) (Tryz.isAgg5 _) rfl) rfl ?_
              refine WL.v (RV.assign rfl) rfl ?_
              refine WL.nil ?_
              rw [hz]
              exact QF.of (hN (byM l ln) (rfl)) ⟨rfl, rfl, rfl, rfl, rfl, rfl, trivial⟩ rfl
            · intro hb1
              replace hb1 : ¬ ln < l.length := by have := of_decide_eq_false hb1; omega
              refine WC.skip ?_
              exact QF.of (hN (0) (by unfold byM; rw [if_neg hb1])) ⟨rfl, rfl, rfl, rfl, rfl, rfl, trivial⟩ rfl
          rintro k hk
          have hk8 : k ≤ 255 := by rw [hk]; exact byM_le h8 ln
          refine QF.seqNext ?_
          refine WC.seq ?_
          refine WC.region ?_
          refine WL.v (RV.move rfl) rfl ?_
          refine WL.buildSl Tryz.underlying44 (Tryz.sizeOf9 _) (Tryz.zeroValue9 _) encS sufL rfl rfl rfl rfl (by kernel_rfl) (by decide) rfl ?_
          intro lv w3 hlv hE3
          refine WL.v (RV.move rfl) rfl ?_
          refine WL.v (RV.rem rfl rfl (by decide)) rfl ?_
          rw [show ((k : Nat) : Int).tmod 6 = ((k % 6 : Nat) : Int) from tmodN k 6]
          have c3 : w3.cell? (adr lv 1 (k % 6)) = some (.string (bs (sufM k))) := hlv.cell (i := k % 6) (j := 0) (Nat.mod_lt _ (by decide)) rfl
          have hsl := suf_len k
          have hpl := pre_len k
          refine WL.v (RV.indexAddr hlv Tryz.underlying44 (Tryz.sizeOf9 _) rfl rfl (k % 6) rfl (Nat.mod_lt _ (by decide))) rfl ?_
          refine WL.v (RV.load (by first | exact c3) (Tryz.isAgg9 _) rfl) rfl ?_
          refine WL.v (RV.addS rfl rfl (by omega)) rfl ?_
          refine WL.v (RV.assign rfl) rfl ?_
          refine WL.nil ?_
          refine QF.seqNext ?_
          refine WC.seq ?_
          refine WC.seq ?_
          refine WC.region ?_
          refine WL.v (RV.move rfl) rfl ?_
          refine WL.v (RV.move rfl) rfl ?_
          refine WL.v (RV.lenS Tryz.underlying9 rfl) rfl ?_
          refine WL.v (RV.lss rfl rfl) rfl ?_
          refine WL.nil ?_
          refine QF.seqNext ?_
          refine WC.condF rfl ((decide_eq_false (by omega))) ?_
          refine WC.skip ?_
          refine QF.seqNext ?_
          refine WC.region ?_
          refine WL.v (RV.move rfl) rfl ?_
          refine WL.v (RV.add rfl rfl (Fit.i64 (by omega))) rfl ?_
          refine WL.v (RV.assign rfl) rfl ?_
          refine WL.nil ?_
          refine QF.blockNormal ?_
          refine QF.seqNext ?_
          refine WC.region ?_
          refine WL.v (RV.move rfl) rfl ?_
          refine WL.v (RV.add rfl rfl (Fit.i64 (by omega))) rfl ?_
          refine WL.v (RV.assign rfl) rfl ?_
          refine WL.nil ?_
          refine QF.next ((i + 1, ln + 1, tl ++ sufM k, w3)) (⟨hE2.trans hE3, by dsimp only; omega, .inr ⟨by dsimp only; omega, by rw [hk]; exact turn_atE (by omega) hI⟩⟩) (by dsimp only; omega) ⟨rfl, rfl, rfl, rfl, rfl, trivial⟩ rfl
      · obtain rfl : tl = t := by
          rcases hI with ⟨h, _⟩ | ⟨_, h⟩
          · omega
          · exact h
        have hpt := parse_turn (K := byM l) (s := s) (by omega)
        rw [← ht] at hpt
        refine WC.condF rfl ((decide_eq_false (by omega))) ?_
        refine WC.exit ?_
        refine QF.thenExit ?_
        refine QF.thenExit ?_
        refine QF.blockHit ?_
        refine QF.seqNext ?_
        refine WC.seq ?_
        refine WC.region ?_
        refine WL.v (RV.move rfl) rfl ?_
        refine WL.call Tryz.call8 rfl (rparse3_ret s w2.heap.size (fun _ => 0) w2 (Rng.start w2) (by omega)) rfl ?_
        rintro v w3 ⟨hE3, hP3⟩
        obtain ⟨a1, b1, c1, av1, rfl, oa1, ob1, oc1, hX1⟩ := hP3.info
        generalize hI1 : infoF (dropP (parseK s)) = I at *
        refine WL.v (RV.move rfl) rfl ?_
        refine WL.v (RV.extract rfl rfl) rfl ?_
        refine WL.v (RV.extract rfl rfl) rfl ?_
        refine WL.v (RV.extract rfl rfl) rfl ?_
        refine WL.allocO (Rng.start w3) 1 (by omega) (Tryz.zeroValue26 _) rfl ?_
        intro xb w4 O4 hx4 hU4 hR4 hE4
        refine WL.storeAgg (us := #[a1, b1, c1]) hx4 rfl (Tryz.sizeOf26 _) (txt_one oa1 ob1 oc1) rfl rfl rfl ?_
        have hx5 := hx4.setRow (us := #[a1, b1, c1])
        have hE5 : Ext w3 (w4.setRow xb #[a1, b1, c1]) := (hU4.trans (Upd.setRow (by decide) hx4.tag rfl)).ext
        generalize w4.setRow xb #[a1, b1, c1] = w5 at *
        refine WL.v (RV.assign rfl) rfl ?_
        refine WL.v (RV.assign rfl) rfl ?_
        refine WL.nil ?_
        refine QF.seqNext ?_
        refine WC.seq ?_
        refine WC.region ?_
        refine WL.v (RV.move rfl) rfl ?_
        refine WL.call Tryz.call8 rfl (rparse3_ret tl w5.heap.size (fun _ => 0) w5 (Rng.start w5) (by omega)) rfl ?_
        rintro v w6 ⟨hE6, hP6⟩
        have hP6 := hP6.info
        rw [← hpt, hI1] at hP6
        obtain ⟨a2, b2, c2, av2, rfl, oa2, ob2, oc2, hX2⟩ := hP6
        refine WL.v (RV.move rfl) rfl ?_
        refine WL.v (RV.extract rfl rfl) rfl ?_
        refine WL.v (RV.extract rfl rfl) rfl ?_
        refine WL.v (RV.extract rfl rfl) rfl ?_
        refine WL.allocO (Rng.start w6) 1 (by omega) (Tryz.zeroValue26 _) rfl ?_
        intro yb w7 O7 hx7 hU7 hR7 hE7
        refine WL.storeAgg (us := #[a2, b2, c2]) hx7 rfl (Tryz.sizeOf26 _) (txt_one oa2 ob2 oc2) rfl rfl rfl ?_
        have hx8 := hx7.setRow (us := #[a2, b2, c2])
        have hE8 : Ext w6 (w7.setRow yb #[a2, b2, c2]) := (hU7.trans (Upd.setRow (by decide) hx7.tag rfl)).ext
        generalize w7.setRow yb #[a2, b2, c2] = w8 at *
        refine WL.v (RV.assign rfl) rfl ?_
        refine WL.v (RV.assign rfl) rfl ?_
        refine WL.nil ?_
        refine QF.seqNext ?_
        refine WC.seq ?_
        refine WC.region ?_
        refine WL.v (RV.move rfl) rfl ?_
        refine WL.v (RV.move rfl) rfl ?_
        refine WL.v (RV.eql rfl rfl) rfl ?_
        refine WL.v (RV.move rfl) rfl ?_
        refine WL.know (d := 96) rfl (b' := true) ((by simp)) ?_
        refine WL.on rfl ?_
        refine WL.v (RV.loadAgg (us := [a1, b1, c1]) (fun j u hu => (hE6.trans hE8).cell (hx5.cellsAdd j u hu)) (Tryz.isAgg26 _) (Tryz.sizeOf26 _) rfl) rfl ?_
        refine WL.on rfl ?_
        refine WL.v (RV.loadAgg (us := [a2, b2, c2]) hx8.cellsAdd (Tryz.isAgg26 _) (Tryz.sizeOf26 _) rfl) rfl ?_
        refine WL.on rfl ?_
        refine WL.call Tryz.call15 rfl (ruleSame_ret I.1.1 I.1.2.1 I.1.1 I.1.2.1 I.1.2.2 I.1.2.2 _ _ w8 (hX1.ext ((hE5.trans hE6).trans hE8)) (hX2.ext hE8)) rfl ?_
        rintro u w9 ⟨rfl, hE9⟩
        rw [sameT_iff.2 ⟨⟨rfl, rfl⟩, rfl⟩]
        refine WL.v (RV.pickT rfl rfl) rfl ?_
        refine WL.v (RV.assign rfl) rfl ?_
        refine WL.nil ?_
        refine QF.seqNext ?_
        refine WC.ret ?_
        refine QF.done1 rfl rfl (⟨rfl, ((((hE2.trans hE3).trans hE5).trans hE6).trans hE8).trans hE9⟩)
end Go.Proofs.YtmohcfjopaccdaaGreatDoor
end
