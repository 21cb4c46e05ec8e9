/- Package virgulelaw06, walked: RuleMany. -/
import Derived.Test.YtmohcfjopaccdaaGreatDoorRuM
namespace Go.Proofs.YtmohcfjopaccdaaGreatDoor
open Go.VL Go.Proofs
set_option maxRecDepth 10000

abbrev val8 (b : UInt8) : Value := .int .u8 (b.toNat : Int)
theorem elB8 : Elem Tryz.prog 30 5 1 1 := ⟨Tryz.underlying30, by kernel_rfl, by decide⟩
/-- So many lines "L !". -/
def manyL : Nat → List UInt8
  | 0 => []
  | k + 1 => manyL k ++ [76, 32, 33, 10]
theorem manyL_len : ∀ k, (manyL k).length = 4 * k
  | 0 => rfl
  | k + 1 => by rw [manyL, List.length_append, manyL_len k]; simp; omega
theorem manyL_ascii : ∀ k, asciiL (manyL k)
  | 0 => fun c hc => absurd hc (by simp [manyL])
  | k + 1 => fun c hc => by
    rw [manyL, List.mem_append] at hc
    rcases hc with hc | hc
    · exact manyL_ascii k c hc
    · have : ∀ c ∈ ([76, 32, 33, 10] : List UInt8), c.toNat < 128 := by decide
      exact this c hc
def tabM (q : Nat) (M : TR) : Bool := !(otherT M) && (if q ≤ 4 then (lenT M == 36 + q && atT M == 0) && errT M == 0 else (lenT M == 0 && atT M == 160) && errT M == 3)
theorem many_tab : ∀ q, q < 8 → tabM q (parseT (manyL (36 + q))) = true := by decide +kernel
theorem readM_nil (n : Nat) : readM n [] = .none := rfl
theorem lines_nl : ∀ (m n fr : Nat), m < n → linesM n [] fr (List.replicate m 10) = .ok []
  | _, 0, _, h => absurd h (Nat.not_lt_zero _)
  | 0, n + 1, fr, _ => rfl
  | m + 1, n + 1, fr, h => by
    have hl : lineT (List.replicate (m + 1) (10 : UInt8)) = [] := by simp [lineT, List.replicate_succ]
    have ih := lines_nl m n (fr + 0 + 1) (by omega)
    unfold linesM
    simp only [hl, readM_nil, List.length_nil, List.length_replicate]
    rw [if_neg (by omega)]
    simpa [List.replicate_succ] using ih
theorem nl_parse (m : Nat) (h : m ≤ 4096) : parseT (List.replicate m 10) = .ok [] := by
  unfold parseT
  rw [if_neg (by simp; omega)]
  exact lines_nl m _ 0 (by simp)
theorem nl_long (m : Nat) (h : 4096 < m) : parseT (List.replicate m 10) = .bad 0 3 := by
  unfold parseT
  rw [if_pos (by simpa using h)]
theorem nl_ascii (m : Nat) : asciiL (List.replicate m 10) := fun c hc => by rw [List.eq_of_mem_replicate hc]; decide
def nlR (N i : Nat) : List UInt8 := List.replicate i (10 : UInt8) ++ List.replicate (N - i) 0
theorem nlR_len {N i : Nat} (h : i ≤ N) : (nlR N i).length = N := by simp [nlR]; omega
theorem nlR_set {N i : Nat} (h : i < N) : (nlR N i).set i 10 = nlR N (i + 1) := by
  obtain ⟨k, hk⟩ : ∃ k, N - i = k + 1 := ⟨N - i - 1, by omega⟩
  unfold nlR
  rw [show N - (i + 1) = k from by omega, hk, List.set_append_right _ _ (by simp)]
  simp only [List.length_replicate, Nat.sub_self, List.replicate_succ, List.set_cons_zero]
  rw [← List.replicate_succ, List.replicate_succ', List.append_assoc]
  rfl
theorem nlR_all (N : Nat) : nlR N N = List.replicate N 10 := by simp [nlR]
theorem ruleMany_ret (n : Int) (w : World) (h0 : 0 ≤ n) (h1 : n ≤ 255) : Ret Tryz.prog 3 [.int .u8 n] w fun v w' => v = .bool true ∧ Ext w w' := by
  have htm : n.tmod 8 = n % 8 := Int.tmod_eq_emod_of_nonneg h0
  obtain ⟨q, hq8, hq⟩ : ∃ q : Nat, q < 8 ∧ n.tmod 8 = (q : Int) := ⟨(n % 8).toNat, by omega, by omega⟩
  obtain ⟨N, hN⟩ : ∃ N : Nat, N = 4097 := ⟨_, rfl⟩
  have htab := many_tab q hq8
  have hml := manyL_len (36 + q)
  refine Ret.enter Tryz.func3 Tryz.ntmps3 rfl rfl ?_
  refine WC.seq ?_
  refine WC.region ?_
  refine WL.v (RV.assign rfl) rfl ?_
  refine WL.nil ?_
  refine QF.seqNext ?_
  refine WC.seq ?_
  refine WC.seq ?_
  refine WC.region ?_
  refine WL.call Tryz.call7 rfl (awake_ret w) rfl ?_
  rintro v w1 ⟨rfl, hE1⟩
  refine WL.v (RV.not rfl) rfl ?_
  refine WL.nil ?_
  refine QF.seqNext ?_
  refine WC.condF rfl (rfl) ?_
  refine WC.skip ?_
  refine QF.seqNext ?_
  refine WC.seq ?_
  refine WC.region ?_
  refine WL.v (RV.move rfl) rfl ?_
  refine WL.v (RV.rem rfl rfl (by decide)) rfl ?_
  rw [hq]
  refine WL.v (RV.conv Tryz.underlying5 Tryz.underlying3 rfl (Fit.i64 (by omega))) rfl ?_
  refine WL.v (RV.add rfl rfl (Fit.i64 (by omega))) rfl ?_
  rw [show (36 : Int) + (q : Int) = ((36 + q : Nat) : Int) from by omega]
  generalize hk : 36 + q = k at *
  refine WL.v (RV.assign rfl) rfl ?_
  refine WL.nil ?_
  refine QF.seqNext ?_
  refine WC.seq ?_
  refine WC.region ?_
  refine WL.v (RV.assign rfl) rfl ?_
  refine WL.nil ?_
  refine QF.seqNext ?_
  refine WC.seq ?_
  refine WC.seq ?_
  refine WC.region ?_
  refine WL.v (RV.assign rfl) rfl ?_
  refine WL.nil ?_
  refine QF.seqNext ?_
  refine WC.block ?_
  refine WC.loop (fun x : Nat => [(3, .int .i64 k), (4, .string (bs (manyL x))), (5, .int .i64 x)]) (fun x : Nat => w1) (fun x : Nat => x ≤ k) (fun x : Nat => k - x) 0 (Nat.zero_le _) ⟨rfl, rfl, rfl, trivial⟩ rfl ?_
  intro i hi
  have hil := manyL_len i
  refine WC.seq ?_
  refine WC.seq ?_
  refine WC.region ?_
  refine WL.v (RV.move rfl) rfl ?_
  refine WL.v (RV.move rfl) rfl ?_
  refine WL.v (RV.lss rfl rfl) rfl ?_
  refine WL.nil ?_
  refine QF.seqNext ?_
  refine WC.cond rfl ?_ ?_
  · intro hlt
    replace hlt : i < k := by have := of_decide_eq_true hlt; omega
    refine WC.skip ?_
    refine QF.seqNext ?_
    refine WC.seq ?_
    refine WC.block ?_
    refine WC.region ?_
    refine WL.v (RV.move rfl) rfl ?_
    refine WL.v (RV.addS rfl rfl (by simp; omega)) rfl ?_
    refine WL.v (RV.assign rfl) rfl ?_
    refine WL.nil ?_
    refine QF.blockNormal ?_
    refine QF.seqNext ?_
    refine WC.region ?_
    refine WL.v (RV.move rfl) rfl ?_
    refine WL.v (RV.add rfl rfl (Fit.i64 (by omega))) rfl ?_
    refine WL.v (RV.assign rfl) rfl ?_
    refine WL.nil ?_
    refine QF.next (i + 1) (hlt) (by omega) ⟨rfl, rfl, rfl, trivial⟩ rfl
  · intro hge
    obtain rfl : i = k := by have := of_decide_eq_false hge; omega
    refine WC.exit ?_
    refine QF.thenExit ?_
    refine QF.thenExit ?_
    refine QF.blockHit ?_
    refine QF.seqNext ?_
    refine WC.seq ?_
    refine WC.region ?_
    refine WL.v (RV.move rfl) rfl ?_
    generalize hMd : parseT (manyL i) = M at *
    refine WL.call Tryz.call8 rfl (rparse_ret (manyL i) w1.heap.size (fun _ => 0) w1 (Rng.start w1) (by omega) (manyL_ascii i) (otherT_ne (by rw [hMd]; simp only [tabM, Bool.and_eq_true, Bool.not_eq_true'] at htab; exact htab.1))) rfl ?_
    rintro v w2 ⟨hE2, hP2⟩
    rw [hMd] at hP2
    obtain ⟨rv, xs, rfl, hs, hxl⟩ := hP2.shape
    have hro := hs.one
    refine WL.v (RV.move rfl) rfl ?_
    refine WL.v (RV.extract rfl rfl) rfl ?_
    refine WL.v (RV.extract rfl rfl) rfl ?_
    refine WL.v (RV.extract rfl rfl) rfl ?_
    refine WL.allocO (Rng.start w2) 1 (by omega) (Tryz.zeroValue26 _) rfl ?_
    intro xb w3 O3 hx3 hU3 hR3 hE3
    refine WL.storeAgg (us := #[.slice none 0 0, .slice none 0 0, rv]) hx3 rfl (Tryz.sizeOf26 _) (by simp only [List.all_cons, hro]; rfl) rfl rfl rfl ?_
    have hx4 := hx3.setRow (us := #[.slice none 0 0, .slice none 0 0, rv])
    have hE4 : Ext w2 (w3.setRow xb #[.slice none 0 0, .slice none 0 0, rv]) := (hU3.trans (Upd.setRow (by decide) hx3.tag rfl)).ext
    generalize w3.setRow xb #[.slice none 0 0, .slice none 0 0, rv] = w4 at *
    have hs4 := hs.ext hE4
    have c4 : w4.cell? ((⟨xb, 0, none⟩ : Addr).add 2) = some rv := hx4.cell 2 rfl
    generalize hat : atT M = ta at *
    generalize het : errT M = te at *
    refine WL.v (RV.assign rfl) rfl ?_
    refine WL.v (RV.assign rfl) rfl ?_
    refine WL.nil ?_
    refine QF.seqNext ?_
    refine WC.seq ?_
    refine WC.region ?_
    refine WL.makeRow elB8 (val := val8) (0 : UInt8) (by kernel_rfl) (fun _ => rfl) (Rng.start w4) 1 (by decide) N rfl rfl (by omega) (by omega) (by omega) (by omega) rfl ?_
    intro w5 O5 lv hlv hrow5 hU5 hR5 hE5
    clear hlv
    refine WL.v (RV.assign rfl) rfl ?_
    refine WL.nil ?_
    refine QF.seqNext ?_
    refine WC.seq ?_
    refine WC.seq ?_
    refine WC.region ?_
    refine WL.v (RV.assign rfl) rfl ?_
    refine WL.nil ?_
    refine QF.seqNext ?_
    refine WC.block ?_
    refine WC.loop (fun y : Nat × World => [(3, .int .i64 i), (6, .pointer (some ⟨xb, 0, none⟩)), (7, .int .i64 ta), (8, .int .i64 te), (9, lv), (10, .int .i64 y.1)]) (fun y : Nat × World => y.2) (fun y : Nat × World => y.1 ≤ N ∧ RowT (fun b => [val8 b]) 5 1 O5 y.2 1 lv (nlR N y.1) ∧ Upd (fun j => j = 1) (fun _ => 0) w4 O5 y.2) (fun y : Nat × World => N - y.1) (0, w5) (⟨Nat.zero_le _, hrow5, hU5⟩) ⟨rfl, rfl, rfl, rfl, rfl, rfl, trivial⟩ rfl ?_
    rintro ⟨j, w6⟩ ⟨hj, hrow6, hU6⟩
    dsimp only at hj hrow6 hU6 ⊢
    have hs6 := hrow6.sl
    have hnl := nlR_len hj
    refine WC.seq ?_
    refine WC.seq ?_
    refine WC.region ?_
    refine WL.v (RV.move rfl) rfl ?_
    refine WL.v (RV.move rfl) rfl ?_
    refine WL.v (RV.len (by first | exact hs6) Tryz.underlying30 rfl) rfl ?_
    refine WL.v (RV.lss rfl rfl) rfl ?_
    refine WL.nil ?_
    refine QF.seqNext ?_
    refine WC.cond rfl ?_ ?_
    · intro hlt
      replace hlt : j < N := by have := of_decide_eq_true hlt; omega
      refine WC.skip ?_
      refine QF.seqNext ?_
      refine WC.seq ?_
      refine WC.block ?_
      refine WC.region ?_
      refine WL.v (RV.move rfl) rfl ?_
      refine WL.v (RV.move rfl) rfl ?_
      refine WL.v (RV.indexAddr (by first | exact hs6) Tryz.underlying30 (Tryz.sizeOf5 _) rfl rfl _ rfl (by omega)) rfl ?_
      refine WL.storeAt hrow6 j (by omega) (10 : UInt8) (Tryz.sizeOf5 _) rfl (by decide) rfl rfl rfl rfl ?_
      intro w7 hrow7 hU7
      rw [nlR_set hlt] at hrow7
      refine WL.nil ?_
      refine QF.blockNormal ?_
      refine QF.seqNext ?_
      refine WC.region ?_
      refine WL.v (RV.move rfl) rfl ?_
      refine WL.v (RV.add rfl rfl (Fit.i64 (by omega))) rfl ?_
      refine WL.v (RV.assign rfl) rfl ?_
      refine WL.nil ?_
      refine QF.next ((j + 1, w7)) (⟨hlt, hrow7, hU6.trans hU7⟩) (by dsimp only; omega) ⟨rfl, rfl, rfl, rfl, rfl, rfl, trivial⟩ rfl
    · intro hge
      obtain rfl : j = N := by have := of_decide_eq_false hge; omega
      rw [nlR_all] at hs6 hnl
      have hE6 := hU6.ext
      refine WC.exit ?_
      refine QF.thenExit ?_
      refine QF.thenExit ?_
      refine QF.blockHit ?_
      refine QF.seqNext ?_
      refine WC.seq ?_
      refine WC.region ?_
      refine WL.v (RV.move rfl) rfl ?_
      refine WL.v (RV.strOf hs6 Tryz.underlying30 Tryz.underlying5 Tryz.underlying9 rfl) rfl ?_
      refine WL.call Tryz.call8 rfl (rparse_ret (List.replicate j 10) w6.heap.size (fun _ => 0) w6 (Rng.start w6) (by omega) (nl_ascii j) (by rw [nl_long j (by omega)]; intro e; cases e)) rfl ?_
      rintro v w7 ⟨hE7, hP7⟩
      rw [nl_long j (by omega)] at hP7
      obtain ⟨rfl, _⟩ := hP7
      refine WL.v (RV.move rfl) rfl ?_
      refine WL.v (RV.extract rfl rfl) rfl ?_
      refine WL.v (RV.extract rfl rfl) rfl ?_
      refine WL.v (RV.extract rfl rfl) rfl ?_
      refine WL.allocO (Rng.start w7) 1 (by omega) (Tryz.zeroValue26 _) rfl ?_
      intro xb2 w8 O8 hx8 hU8 hR8 hE8
      refine WL.storeAgg (us := #[.slice none 0 0, .slice none 0 0, .slice none 0 0]) hx8 rfl (Tryz.sizeOf26 _) rfl rfl rfl rfl ?_
      have hE9 : Ext w7 (w8.setRow xb2 #[.slice none 0 0, .slice none 0 0, .slice none 0 0]) := (hU8.trans (Upd.setRow (by decide) hx8.tag rfl)).ext
      generalize w8.setRow xb2 #[.slice none 0 0, .slice none 0 0, .slice none 0 0] = w9 at *
      have hs9 := hs6.ext (hE7.trans hE9)
      refine WL.v (RV.assign rfl) rfl ?_
      refine WL.v (RV.assign rfl) rfl ?_
      refine WL.nil ?_
      refine QF.seqNext ?_
      refine WC.seq ?_
      refine WC.region ?_
      refine WL.v (RV.move rfl) rfl ?_
      refine WL.v (RV.sliceHi hs9 Tryz.underlying30 (Tryz.sizeOf5 _) rfl rfl 4096 rfl (by omega)) rfl ?_
      have hsl := hs9.slice (lo := 0) (hi := 4096) (Nat.zero_le _) (by omega)
      rw [List.drop_zero, List.take_replicate, Nat.min_eq_left (by omega)] at hsl
      refine WL.v (RV.strOf hsl Tryz.underlying30 Tryz.underlying5 Tryz.underlying9 rfl) rfl ?_
      obtain ⟨N2, hN2⟩ : ∃ N2 : Nat, N2 = 4096 := ⟨_, rfl⟩
      rw [← hN2]
      refine WL.call Tryz.call8 rfl (rparse_ret (List.replicate N2 10) w9.heap.size (fun _ => 0) w9 (Rng.start w9) (by simp; omega) (nl_ascii N2) (by rw [nl_parse N2 (by omega)]; intro e; cases e)) rfl ?_
      rintro v w10 ⟨hE10, hP10⟩
      rw [nl_parse N2 (by omega)] at hP10
      obtain ⟨rv3, xs3, rfl, hs10, hxl10⟩ := hP10.shape
      have hro3 := hs10.one
      obtain rfl : xs3 = [] := List.eq_nil_of_length_eq_zero hxl10
      refine WL.v (RV.move rfl) rfl ?_
      refine WL.v (RV.extract rfl rfl) rfl ?_
      refine WL.v (RV.extract rfl rfl) rfl ?_
      refine WL.v (RV.extract rfl rfl) rfl ?_
      refine WL.allocO (Rng.start w10) 1 (by omega) (Tryz.zeroValue26 _) rfl ?_
      intro xb3 w11 O11 hx11 hU11 hR11 hE11
      refine WL.storeAgg (us := #[.slice none 0 0, .slice none 0 0, rv3]) hx11 rfl (Tryz.sizeOf26 _) (by simp only [List.all_cons, hro3]; rfl) rfl rfl rfl ?_
      have hx12 := hx11.setRow (us := #[.slice none 0 0, .slice none 0 0, rv3])
      have hE12 : Ext w10 (w11.setRow xb3 #[.slice none 0 0, .slice none 0 0, rv3]) := (hU11.trans (Upd.setRow (by decide) hx11.tag rfl)).ext
      generalize w11.setRow xb3 #[.slice none 0 0, .slice none 0 0, rv3] = w12 at *
      have hs12 := hs10.ext hE12
      have hE412 : Ext w4 w12 := (((hE6.trans hE7).trans hE9).trans hE10).trans hE12
      have hr12 := hs4.ext hE412
      have c3 : w12.cell? ((⟨xb3, 0, none⟩ : Addr).add 2) = some rv3 := hx12.cell 2 rfl
      have c1 : w12.cell? ((⟨xb, 0, none⟩ : Addr).add 2) = some rv := hE412.cell c4
      refine WL.v (RV.assign rfl) rfl ?_
      refine WL.v (RV.assign rfl) rfl ?_
      refine WL.nil ?_
      refine QF.seqNext ?_
      refine WC.seq ?_
      refine WC.seq ?_
      refine WC.region ?_
      refine WL.v (RV.move rfl) rfl ?_
      refine WL.v (RV.neq rfl rfl) rfl ?_
      refine WL.v (RV.move rfl) rfl ?_
      refine WL.know (d := 63) rfl (b' := false) (rfl) ?_
      refine WL.on rfl ?_
      refine WL.v (RV.move rfl) rfl ?_
      refine WL.on rfl ?_
      refine WL.v (RV.neq rfl rfl) rfl ?_
      refine WL.v (RV.pickF rfl rfl) rfl ?_
      refine WL.v (RV.move rfl) rfl ?_
      refine WL.know (d := 67) rfl (b' := false) (rfl) ?_
      refine WL.on rfl ?_
      refine WL.v (RV.move rfl) rfl ?_
      refine WL.on rfl ?_
      refine WL.v (RV.neq rfl rfl) rfl ?_
      refine WL.v (RV.pickF rfl rfl) rfl ?_
      refine WL.v (RV.move rfl) rfl ?_
      refine WL.know (d := 71) rfl (b' := false) (rfl) ?_
      refine WL.on rfl ?_
      refine WL.v (RV.fieldAddr 2 Tryz.underlying26 rfl rfl (Tryz.sizeOf24 _) (by decide) rfl) rfl ?_
      refine WL.on rfl ?_
      refine WL.v (RV.load (by first | exact c3 | exact c1) (Tryz.isAgg24 _) rfl) rfl ?_
      refine WL.on rfl ?_
      refine WL.v (RV.len (by first | exact hs12 | exact hr12) Tryz.underlying24 rfl) rfl ?_
      refine WL.on rfl ?_
      refine WL.v (RV.neq rfl rfl) rfl ?_
      refine WL.v (RV.pickF rfl rfl) rfl ?_
      refine WL.nil ?_
      refine QF.seqNext ?_
      refine WC.condF rfl (rfl) ?_
      simp only [tabM, Bool.and_eq_true] at htab
      refine WC.skip ?_
      refine QF.seqNext ?_
      refine WC.seq ?_
      refine WC.seq ?_
      refine WC.region ?_
      refine WL.v (RV.move rfl) rfl ?_
      refine WL.v (RV.gtr rfl rfl) rfl ?_
      refine WL.nil ?_
      refine QF.seqNext ?_
      by_cases hq4 : q ≤ 4
      · rw [if_pos hq4] at htab
        simp only [Bool.and_eq_true, beq_iff_eq] at htab
        obtain ⟨_, ⟨g1, g2⟩, g3⟩ := htab
        refine WC.condF rfl ((decide_eq_false (by omega))) ?_
        refine WC.skip ?_
        refine QF.seqNext ?_
        refine WC.seq ?_
        refine WC.region ?_
        refine WL.v (RV.fieldAddr 2 Tryz.underlying26 rfl rfl (Tryz.sizeOf24 _) (by decide) rfl) rfl ?_
        refine WL.v (RV.load (by first | exact c3 | exact c1) (Tryz.isAgg24 _) rfl) rfl ?_
        refine WL.v (RV.len (by first | exact hs12 | exact hr12) Tryz.underlying24 rfl) rfl ?_
        refine WL.v (RV.move rfl) rfl ?_
        refine WL.v (RV.eql rfl rfl) rfl ?_
        refine WL.v (RV.move rfl) rfl ?_
        refine WL.know (d := 96) rfl (b' := true) ((by simp; omega)) ?_
        refine WL.on rfl ?_
        refine WL.v (RV.move rfl) rfl ?_
        refine WL.on rfl ?_
        refine WL.v (RV.eql rfl rfl) rfl ?_
        refine WL.v (RV.pickT rfl rfl) rfl ?_
        refine WL.v (RV.assign rfl) rfl ?_
        refine WL.nil ?_
        refine QF.seqNext ?_
        refine WC.ret ?_
        refine QF.done1 rfl rfl (⟨by rw [← het, g3]; rfl, ((hE1.trans hE2).trans hE4).trans hE412⟩)
      · rw [if_neg hq4] at htab
        simp only [Bool.and_eq_true, beq_iff_eq] at htab
        obtain ⟨_, ⟨g1, g2⟩, g3⟩ := htab
        refine WC.condT rfl ((decide_eq_true (by omega))) ?_
        refine WC.seq ?_
        refine WC.region ?_
        refine WL.v (RV.fieldAddr 2 Tryz.underlying26 rfl rfl (Tryz.sizeOf24 _) (by decide) rfl) rfl ?_
        refine WL.v (RV.load (by first | exact c3 | exact c1) (Tryz.isAgg24 _) rfl) rfl ?_
        refine WL.v (RV.len (by first | exact hs12 | exact hr12) Tryz.underlying24 rfl) rfl ?_
        refine WL.v (RV.eql rfl rfl) rfl ?_
        refine WL.v (RV.move rfl) rfl ?_
        refine WL.know (d := 83) rfl (b' := true) ((by rw [hxl, g1]; rfl)) ?_
        refine WL.on rfl ?_
        refine WL.v (RV.move rfl) rfl ?_
        refine WL.on rfl ?_
        refine WL.v (RV.eql rfl rfl) rfl ?_
        refine WL.v (RV.pickT rfl rfl) rfl ?_
        refine WL.v (RV.move rfl) rfl ?_
        refine WL.know (d := 87) rfl (b' := true) ((by rw [← hat, g2]; rfl)) ?_
        refine WL.on rfl ?_
        refine WL.v (RV.move rfl) rfl ?_
        refine WL.on rfl ?_
        refine WL.v (RV.eql rfl rfl) rfl ?_
        refine WL.v (RV.pickT rfl rfl) rfl ?_
        refine WL.v (RV.assign rfl) rfl ?_
        refine WL.nil ?_
        refine QF.seqNext ?_
        refine WC.ret ?_
        refine QF.thenRet ?_
        refine QF.done1 rfl rfl (⟨by rw [← het, g3]; rfl, ((hE1.trans hE2).trans hE4).trans hE412⟩)
end Go.Proofs.YtmohcfjopaccdaaGreatDoor
