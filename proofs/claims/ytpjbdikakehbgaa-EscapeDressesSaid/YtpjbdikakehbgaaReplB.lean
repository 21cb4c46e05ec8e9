/- Package strings, walked: a Replacer's Replace; package escape: Escape. -/
import Derived.Test.YtpjbdikakehbgaaRepl
namespace Go.Proofs.Ytpjbdikakehbgaa
open Go.VL Go.Proofs
set_option maxRecDepth 10000

def RepR (w : World) (sv : Value) : Option (List UInt8) → Prop
  | none => sv = .slice none 0 0
  | some r => Sl encB 1 w sv r ∧ ∃ q c, sv = .slice (some q) r.length c
structure BuiltR (w : World) (rb : Nat) : Prop where
  reps : ∀ k, k < 256 → ∃ sv, w.cell? ((⟨rb, 0, none⟩ : Addr).add k) = some sv ∧ RepR w sv (repAt 3 k)
  to : ∃ tv tl, w.cell? ⟨rb, 256, none⟩ = some tv ∧ Sl encS 1 w tv tl ∧ tl.length = 3
theorem RepR.ext {w w' : World} {sv : Value} {o : Option (List UInt8)} (h : RepR w sv o) (e : Ext w w') : RepR w' sv o := by
  cases o with
  | none => exact h
  | some r => exact ⟨h.1.ext e, h.2⟩
theorem BuiltR.ext {w w' : World} {rb : Nat} (h : BuiltR w rb) (e : Ext w w') : BuiltR w' rb := by
  refine ⟨fun k hk => ?_, ?_⟩
  · obtain ⟨sv, h1, h2⟩ := h.reps k hk
    exact ⟨sv, e.cell h1, h2.ext e⟩
  · obtain ⟨tv, tl, h1, h2, h3⟩ := h.to
    exact ⟨tv, tl, e.cell h1, h2.ext e, h3⟩
theorem add_at (b k : Nat) : (⟨b, 0, none⟩ : Addr).add k = ⟨b, k, none⟩ := by
  simp only [Addr.add]; split <;> simp_all
theorem Built.r {O : Nat → Nat} {w : World} {rb : Nat} {cs : Array Value} (h : Built O w rb cs) : BuiltR w rb := by
  refine ⟨fun k hk => ?_, ?_⟩
  · obtain ⟨sv, h1, h2⟩ := h.reps k hk
    refine ⟨sv, by rw [add_at]; exact h.blk.cell k h1, ?_⟩
    cases hr : repAt 3 k with
    | none => rw [hr] at h2; exact h2
    | some r => rw [hr] at h2; exact ⟨h2.1, h2.2.2⟩
  · obtain ⟨tv, tl, h1, h2, h3⟩ := h.to
    exact ⟨tv, tl, h.blk.cell 256 h1, h2.sl, h3⟩
theorem repAt_len {k : Nat} {r : List UInt8} (h : repAt 3 k = some r) : 0 < r.length ∧ r.length ≤ 5 := by
  unfold repAt at h
  split at h
  · cases h; decide
  · split at h
    · cases h; decide
    · split at h
      · cases h; decide
      · cases h
theorem escM_take {l : List UInt8} {i : Nat} (h : i < l.length) : escM (l.take (i + 1)) = escM (l.take i) ++ (repAt 3 (nth l i).toNat).getD [nth l i] := by
  rw [take_nth h, ← repAt_escB]; simp [escM]
theorem escM_part (l : List UInt8) (i : Nat) : (escM (l.take i)).length ≤ (escM l).length := by
  have : escM l = escM (l.take i) ++ escM (l.drop i) := by
    unfold escM; rw [← List.flatMap_append, List.take_append_drop]
  rw [this, List.length_append]; omega
theorem elB : Elem Try.prog 31 5 1 1 := ⟨Try.underlying31, by kernel_rfl, by decide⟩
theorem infoB : (Try.prog.info? 5).map (·.size) = some 1 := by kernel_rfl
theorem toNat_lt (b : UInt8) : b.toNat < 256 := b.toNat_lt

theorem bsr_ret (l : List UInt8) (rb : Nat) (w : World) (h : BuiltR w rb) (hl : l.length < 24) :
    Ret Try.prog 109 [.pointer (some ⟨rb, 0, none⟩), .string (bs l)] w fun v w' => v = .string (bs (escM l)) ∧ Ext w w' := by
  obtain ⟨tv, tl, htv, hts, htl⟩ := h.to
  have hM := escM_len l
  refine Ret.enter Try.func109 Try.ntmps109 rfl rfl ?_
  refine WC.seq ?_
  refine WC.region ?_
  refine WL.v (RV.assign rfl) rfl ?_
  refine WL.nil ?_
  refine QF.seqNext ?_
  refine WC.seq ?_
  refine WC.region ?_
  refine WL.v (RV.move rfl) rfl ?_
  refine WL.v (RV.lenS Try.underlying9 rfl) rfl ?_
  refine WL.v (RV.assign rfl) rfl ?_
  refine WL.nil ?_
  refine QF.seqNext ?_
  refine WC.seq ?_
  refine WC.region ?_
  refine WL.v (RV.assign rfl) rfl ?_
  refine WL.nil ?_
  refine QF.seqNext ?_
  refine WC.seq ?_
  refine WC.seq ?_
  refine WC.region ?_
  refine WL.v (RV.move rfl) rfl ?_
  refine WL.v (RV.nilPtr rfl) rfl ?_
  refine WL.v (RV.fieldAddr 256 Try.underlying117 rfl rfl (Try.sizeOf46 _) (by decide) rfl) rfl ?_
  refine WL.v (RV.load (by first | exact htv) (Try.isAgg46 _) rfl) rfl ?_
  refine WL.v (RV.len (by first | exact hts) Try.underlying46 rfl) rfl ?_
  refine WL.v (RV.mul rfl rfl (Fit.i64 (by omega))) rfl ?_
  refine WL.v (RV.move rfl) rfl ?_
  refine WL.v (RV.lenS Try.underlying9 rfl) rfl ?_
  refine WL.v (RV.leq rfl rfl) rfl ?_
  refine WL.nil ?_
  refine QF.seqNext ?_
  refine WC.condF rfl (decide_eq_false (by omega)) ?_
  refine WC.seq ?_
  refine WC.region ?_
  refine WL.v (RV.assign rfl) rfl ?_
  refine WL.nil ?_
  refine QF.seqNext ?_
  refine WC.block ?_
  refine WC.loop (fun x : Nat × Int × Bool => [(0, .pointer (some ⟨rb, 0, none⟩)), (1, .string (bs l)), (5, .int .i64 x.2.1), (6, .bool x.2.2), (10, .int .i64 x.1)]) (fun x : Nat × Int × Bool => w) (fun x : Nat × Int × Bool => x.1 ≤ l.length ∧ x.2.1 = ((escM (l.take x.1)).length : Int) + ((l.length : Int) - x.1) ∧ (x.2.2 = false → escM (l.take x.1) = l.take x.1)) (fun x : Nat × Int × Bool => l.length - x.1) (0, (l.length : Int), false) (⟨Nat.zero_le _, by simp [escM], fun _ => rfl⟩) ⟨rfl, rfl, rfl, rfl, rfl, trivial⟩ rfl ?_
  rintro ⟨i, ns, any⟩ ⟨hi, hns, hany⟩
  dsimp only at hi hns hany ⊢
  have hpi := escM_part l i
  refine WC.seq ?_
  refine WC.seq ?_
  refine WC.region ?_
  refine WL.v (RV.move rfl) rfl ?_
  refine WL.v (RV.move rfl) rfl ?_
  refine WL.v (RV.lenS Try.underlying9 rfl) rfl ?_
  refine WL.v (RV.lss rfl rfl) rfl ?_
  refine WL.nil ?_
  refine QF.seqNext ?_
  refine WC.cond rfl ?_ ?_
  · intro hlt
    replace hlt : i < l.length := by have := of_decide_eq_true hlt; omega
    have het := escM_take hlt
    obtain ⟨sv, hsv, hrep⟩ := h.reps (nth l i).toNat (toNat_lt _)
    refine WC.skip ?_
    refine QF.seqNext ?_
    refine WC.seq ?_
    refine WC.block ?_
    refine WC.seq ?_
    refine WC.region ?_
    refine WL.v (RV.move rfl) rfl ?_
    refine WL.v (RV.move rfl) rfl ?_
    refine WL.v (RV.indexS Try.underlying9 rfl rfl _ rfl (by omega)) rfl ?_
    refine WL.v (RV.assign rfl) rfl ?_
    refine WL.nil ?_
    refine QF.seqNext ?_
    refine WC.seq ?_
    refine WC.region ?_
    refine WL.v (RV.move rfl) rfl ?_
    refine WL.v (RV.move rfl) rfl ?_
    refine WL.v (RV.nilPtr rfl) rfl ?_
    refine WL.v (RV.fieldAddr 0 Try.underlying117 rfl rfl (Try.sizeOf115 _) (by decide) rfl) rfl ?_
    refine WL.v (RV.indexAddrA1 Try.underlying115 (Try.sizeOf31 _) rfl rfl (nth l i).toNat rfl (toNat_lt _)) rfl ?_
    refine WL.v (RV.load (by first | exact hsv) (Try.isAgg31 _) rfl) rfl ?_
    cases hr : repAt 3 (nth l i).toNat with
    | none =>
      rw [hr] at hrep het
      obtain rfl : sv = .slice none 0 0 := hrep
      refine WL.v (RV.neqNilSl Try.underlying31 rfl rfl) rfl ?_
      refine WL.nil ?_
      refine QF.seqNext ?_
      refine WC.condF rfl (rfl) ?_
      refine WC.skip ?_
      refine QF.blockNormal ?_
      refine QF.seqNext ?_
      refine WC.region ?_
      refine WL.v (RV.move rfl) rfl ?_
      refine WL.v (RV.add rfl rfl (Fit.i64 (by omega))) rfl ?_
      refine WL.v (RV.assign rfl) rfl ?_
      refine WL.nil ?_
      refine QF.next ((i + 1, ns, any)) (⟨hlt, by dsimp only; rw [het]; simp; omega, fun e => by dsimp only; rw [het, hany e, take_nth hlt]; rfl⟩) (by dsimp only; omega) ⟨rfl, rfl, rfl, rfl, rfl, trivial⟩ rfl
    | some r =>
      rw [hr] at hrep het
      obtain ⟨hrs, q, c, rfl⟩ := hrep
      have hrl := repAt_len hr
      refine WL.v (RV.neqNilSl Try.underlying31 rfl rfl) rfl ?_
      refine WL.nil ?_
      refine QF.seqNext ?_
      refine WC.condT rfl (rfl) ?_
      refine WC.seq ?_
      refine WC.region ?_
      refine WL.v (RV.move rfl) rfl ?_
      refine WL.v (RV.move rfl) rfl ?_
      refine WL.v (RV.move rfl) rfl ?_
      refine WL.v (RV.nilPtr rfl) rfl ?_
      refine WL.v (RV.fieldAddr 0 Try.underlying117 rfl rfl (Try.sizeOf115 _) (by decide) rfl) rfl ?_
      refine WL.v (RV.indexAddrA1 Try.underlying115 (Try.sizeOf31 _) rfl rfl (nth l i).toNat rfl (toNat_lt _)) rfl ?_
      refine WL.v (RV.load (by first | exact hsv) (Try.isAgg31 _) rfl) rfl ?_
      refine WL.v (RV.len (by first | exact hrs) Try.underlying31 rfl) rfl ?_
      refine WL.v (RV.sub rfl rfl (Fit.i64 (by omega))) rfl ?_
      refine WL.v (RV.add rfl rfl (Fit.i64 (by omega))) rfl ?_
      refine WL.v (RV.assign rfl) rfl ?_
      refine WL.nil ?_
      refine QF.seqNext ?_
      refine WC.region ?_
      refine WL.v (RV.assign rfl) rfl ?_
      refine WL.nil ?_
      refine QF.blockNormal ?_
      refine QF.seqNext ?_
      refine WC.region ?_
      refine WL.v (RV.move rfl) rfl ?_
      refine WL.v (RV.add rfl rfl (Fit.i64 (by omega))) rfl ?_
      refine WL.v (RV.assign rfl) rfl ?_
      refine WL.nil ?_
      refine QF.next ((i + 1, ns + ((r.length : Int) - 1), true)) (⟨hlt, by dsimp only; rw [het, List.length_append, Option.getD_some]; omega, fun e => by cases e⟩) (by dsimp only; omega) ⟨rfl, rfl, rfl, rfl, rfl, trivial⟩ rfl
  · intro hge
    obtain rfl : i = l.length := by have := of_decide_eq_false hge; omega
    rw [List.take_length] at hns hany hpi
    obtain rfl : ns = ((escM l).length : Int) := by omega
    refine WC.exit ?_
    refine QF.thenExit ?_
    refine QF.thenExit ?_
    refine QF.blockHit ?_
    refine QF.seqNext ?_
    refine WC.seq ?_
    refine WC.seq ?_
    refine WC.region ?_
    refine WL.v (RV.move rfl) rfl ?_
    refine WL.v (RV.not rfl) rfl ?_
    refine WL.nil ?_
    refine QF.seqNext ?_
    refine WC.cond rfl ?_ ?_
    · intro ha
      replace ha : any = false := by simpa using ha
      refine WC.seq ?_
      refine WC.region ?_
      refine WL.v (RV.move rfl) rfl ?_
      refine WL.v (RV.assign rfl) rfl ?_
      refine WL.nil ?_
      refine QF.seqNext ?_
      refine WC.ret ?_
      refine QF.thenRet ?_
      refine QF.done1 rfl rfl (⟨by rw [hany ha], Ext.refl w⟩)
    · intro ha
      clear hany
      refine WC.skip ?_
      refine QF.seqNext ?_
      refine WC.seq ?_
      refine WC.region ?_
      refine WL.v (RV.move rfl) rfl ?_
      refine WL.makeRow elB (val := bval) (0 : UInt8) (by kernel_rfl) (fun _ => rfl) (Rng.start w) 1 (by decide) (escM l).length rfl rfl rfl rfl (by omega) (by omega) rfl ?_
      intro w2 O2 bv hbv hrow hU2 hR2 hE2
      refine WL.v (RV.assign rfl) rfl ?_
      refine WL.nil ?_
      refine QF.seqNext ?_
      refine WC.seq ?_
      refine WC.region ?_
      refine WL.v (RV.assign rfl) rfl ?_
      refine WL.nil ?_
      refine QF.seqNext ?_
      refine WC.seq ?_
      refine WC.seq ?_
      refine WC.region ?_
      refine WL.v (RV.assign rfl) rfl ?_
      refine WL.nil ?_
      refine QF.seqNext ?_
      refine WC.block ?_
      refine WC.loop (fun x : Nat × World × Int => [(0, .pointer (some ⟨rb, 0, none⟩)), (1, .string (bs l)), (12, bv), (13, .int .i64 x.2.2), (14, .int .i64 x.1)]) (fun x : Nat × World × Int => x.2.1) (fun x : Nat × World × Int => x.1 ≤ l.length ∧ x.2.2 = ((escM (l.take x.1)).length : Int) ∧ RowT (fun b => [bval b]) 5 1 O2 x.2.1 1 bv (escM (l.take x.1) ++ List.replicate ((escM l).length - (escM (l.take x.1)).length) 0) ∧ Upd (fun j => j = 1) (fun _ => 0) w O2 x.2.1) (fun x : Nat × World × Int => l.length - x.1) (0, w2, 0) (⟨Nat.zero_le _, rfl, hrow, hU2⟩) ⟨rfl, rfl, rfl, rfl, rfl, trivial⟩ rfl ?_
      rintro ⟨i, w3, jj⟩ ⟨hi, hjj, hrow3, hU3⟩
      dsimp only at hi hjj hrow3 hU3 ⊢
      subst hjj
      have h3 := h.ext hU3.ext
      have hrs3 := hrow3.sl
      have hpi := escM_part l i
      have hlen : (escM (l.take i) ++ List.replicate ((escM l).length - (escM (l.take i)).length) (0 : UInt8)).length = (escM l).length := by simp; omega
      refine WC.seq ?_
      refine WC.seq ?_
      refine WC.region ?_
      refine WL.v (RV.move rfl) rfl ?_
      refine WL.v (RV.move rfl) rfl ?_
      refine WL.v (RV.lenS Try.underlying9 rfl) rfl ?_
      refine WL.v (RV.lss rfl rfl) rfl ?_
      refine WL.nil ?_
      refine QF.seqNext ?_
      refine WC.cond rfl ?_ ?_
      · intro hlt
        replace hlt : i < l.length := by have := of_decide_eq_true hlt; omega
        have het := escM_take hlt
        have hpi2 := escM_part l (i + 1)
        obtain ⟨sv, hsv0, hrep0⟩ := h.reps (nth l i).toNat (toNat_lt _)
        have hsv := hU3.ext.cell hsv0
        have hrep := hrep0.ext hU3.ext
        refine WC.skip ?_
        refine QF.seqNext ?_
        refine WC.seq ?_
        refine WC.block ?_
        refine WC.seq ?_
        refine WC.region ?_
        refine WL.v (RV.move rfl) rfl ?_
        refine WL.v (RV.move rfl) rfl ?_
        refine WL.v (RV.indexS Try.underlying9 rfl rfl _ rfl (by omega)) rfl ?_
        refine WL.v (RV.assign rfl) rfl ?_
        refine WL.nil ?_
        refine QF.seqNext ?_
        refine WC.seq ?_
        refine WC.region ?_
        refine WL.v (RV.move rfl) rfl ?_
        refine WL.v (RV.move rfl) rfl ?_
        refine WL.v (RV.nilPtr rfl) rfl ?_
        refine WL.v (RV.fieldAddr 0 Try.underlying117 rfl rfl (Try.sizeOf115 _) (by decide) rfl) rfl ?_
        refine WL.v (RV.indexAddrA1 Try.underlying115 (Try.sizeOf31 _) rfl rfl (nth l i).toNat rfl (toNat_lt _)) rfl ?_
        refine WL.v (RV.load (by first | exact hsv) (Try.isAgg31 _) rfl) rfl ?_
        cases hr : repAt 3 (nth l i).toNat with
        | none =>
          rw [hr, Option.getD_none] at het
          rw [hr] at hrep
          obtain rfl : sv = .slice none 0 0 := hrep
          rw [het, List.length_append, List.length_singleton] at hpi2
          refine WL.v (RV.neqNilSl Try.underlying31 rfl rfl) rfl ?_
          refine WL.nil ?_
          refine QF.seqNext ?_
          refine WC.condF rfl (rfl) ?_
          refine WC.seq ?_
          refine WC.region ?_
          refine WL.v (RV.move rfl) rfl ?_
          refine WL.v (RV.move rfl) rfl ?_
          refine WL.v (RV.move rfl) rfl ?_
          refine WL.v (RV.indexAddr hrs3 Try.underlying31 (Try.sizeOf5 _) rfl rfl (escM (l.take i)).length rfl (by omega)) rfl ?_
          refine WL.storeAt hrow3 (escM (l.take i)).length (by omega) (nth l i) (Try.sizeOf5 _) rfl (by decide) rfl rfl rfl rfl ?_
          intro w4 hrow4 hU4
          have hset : (escM (l.take i) ++ List.replicate ((escM l).length - (escM (l.take i)).length) (0 : UInt8)).set (escM (l.take i)).length (nth l i) = escM (l.take (i + 1)) ++ List.replicate ((escM l).length - (escM (l.take (i + 1))).length) 0 := by
            rw [List.set_append_right _ _ (Nat.le_refl _), Nat.sub_self, het, List.append_assoc, List.length_append, List.length_singleton]
            rw [show (escM l).length - (escM (l.take i)).length = ((escM l).length - ((escM (l.take i)).length + 1)) + 1 from by omega, List.replicate_succ]
            rfl
          rw [hset] at hrow4
          refine WL.nil ?_
          refine QF.seqNext ?_
          refine WC.region ?_
          refine WL.v (RV.move rfl) rfl ?_
          refine WL.v (RV.add rfl rfl (Fit.i64 (by omega))) rfl ?_
          refine WL.v (RV.assign rfl) rfl ?_
          refine WL.nil ?_
          refine QF.blockNormal ?_
          refine QF.seqNext ?_
          refine WC.region ?_
          refine WL.v (RV.move rfl) rfl ?_
          refine WL.v (RV.add rfl rfl (Fit.i64 (by omega))) rfl ?_
          refine WL.v (RV.assign rfl) rfl ?_
          refine WL.nil ?_
          refine QF.next ((i + 1, w4, ((escM (l.take i)).length : Int) + 1)) (⟨hlt, by dsimp only; rw [het]; simp, hrow4, hU3.trans hU4⟩) (by dsimp only; omega) ⟨rfl, rfl, rfl, rfl, rfl, trivial⟩ rfl
        | some r =>
          rw [hr, Option.getD_some] at het
          rw [hr] at hrep
          obtain ⟨hrs, q, c, rfl⟩ := hrep
          have hrl := repAt_len hr
          rw [het, List.length_append] at hpi2
          refine WL.v (RV.neqNilSl Try.underlying31 rfl rfl) rfl ?_
          refine WL.nil ?_
          refine QF.seqNext ?_
          refine WC.condT rfl (rfl) ?_
          refine WC.draw (fun W => W.cell? ((⟨rb, 0, none⟩ : Addr).add (nth l i).toNat) = some (.slice (some q) r.length c) ∧ ∃ xs : List UInt8, Sl (fun b => [bval b]) 1 W bv xs ∧ xs.length = (escM l).length) 13 rfl (by kernel_rfl) ?_
          refine WH.take 0 rfl (by kernel_rfl) (by kernel_rfl) (by kernel_rfl) ⟨hsv, _, hrs3.drew, hlen⟩ (fun w1 hw1 => RV.move rfl) rfl ?_
          refine WH.take 1 rfl (by kernel_rfl) (by kernel_rfl) (by kernel_rfl) ⟨hsv, _, hrs3.drew, hlen⟩ (fun w1 hw1 => RV.move rfl) rfl ?_
          refine WH.take 2 rfl (by kernel_rfl) (by kernel_rfl) (by kernel_rfl) ⟨hsv, _, hrs3.drew, hlen⟩ (fun w1 hw1 => RV.move rfl) rfl ?_
          refine WH.take 3 rfl (by kernel_rfl) (by kernel_rfl) (by kernel_rfl) ⟨hsv, _, hrs3.drew, hlen⟩ (fun w1 hw1 => (show RV _ _ _ _ _ _ (sliceV bv 1 (escM (l.take i)).length (escM l).length) from by obtain ⟨xs, hx1, hx2⟩ := hw1.2; rw [← hx2]; exact RV.sliceLo hx1 Try.underlying31 (Try.sizeOf5 _) rfl rfl (escM (l.take i)).length rfl (by omega))) rfl ?_
          refine WH.take 4 rfl (by kernel_rfl) (by kernel_rfl) (by kernel_rfl) ⟨hsv, _, hrs3.drew, hlen⟩ (fun w1 hw1 => RV.move rfl) rfl ?_
          refine WH.take 5 rfl (by kernel_rfl) (by kernel_rfl) (by kernel_rfl) ⟨hsv, _, hrs3.drew, hlen⟩ (fun w1 hw1 => RV.move rfl) rfl ?_
          refine WH.take 6 rfl (by kernel_rfl) (by kernel_rfl) (by kernel_rfl) ⟨hsv, _, hrs3.drew, hlen⟩ (fun w1 hw1 => RV.nilPtr rfl) rfl ?_
          refine WH.take 7 rfl (by kernel_rfl) (by kernel_rfl) (by kernel_rfl) ⟨hsv, _, hrs3.drew, hlen⟩ (fun w1 hw1 => RV.fieldAddr 0 Try.underlying117 rfl rfl (Try.sizeOf115 _) (by decide) rfl) rfl ?_
          refine WH.take 8 rfl (by kernel_rfl) (by kernel_rfl) (by kernel_rfl) ⟨hsv, _, hrs3.drew, hlen⟩ (fun w1 hw1 => RV.indexAddrA1 Try.underlying115 (Try.sizeOf31 _) rfl rfl (nth l i).toNat rfl (toNat_lt _)) rfl ?_
          refine WH.take 9 rfl (by kernel_rfl) (by kernel_rfl) (by kernel_rfl) ⟨hsv, _, hrs3.drew, hlen⟩ (fun w1 hw1 => RV.load (by first | exact hw1.1) (Try.isAgg31 _) rfl) rfl ?_
          refine WH.one 10 (by kernel_rfl) rfl ?_
          refine WL.copyAt Try.underlying31 infoB hrow3.drew (by decide) hrs.drew (escM (l.take i)).length (by omega) (by omega) (fun _ => rfl) (by rw [hlen]; rfl) rfl rfl ?_
          intro w4 hrow4 hU4
          have hset : (escM (l.take i) ++ List.replicate ((escM l).length - (escM (l.take i)).length) (0 : UInt8)).take (escM (l.take i)).length ++ r ++ (escM (l.take i) ++ List.replicate ((escM l).length - (escM (l.take i)).length) (0 : UInt8)).drop ((escM (l.take i)).length + r.length) = escM (l.take (i + 1)) ++ List.replicate ((escM l).length - (escM (l.take (i + 1))).length) 0 := by
            rw [het, List.length_append]
            simp [Nat.sub_sub]
          rw [hset] at hrow4
          refine WL.nil ?_
          refine QF.after (⟨(hU3.drew.trans hU4).ext.cell hsv0, _, hrow4.sl, by rw [List.length_append, het, List.length_append, List.length_replicate]; omega⟩) ?_
          refine WH.take 11 rfl (by kernel_rfl) (by kernel_rfl) (by kernel_rfl) (⟨(hU3.drew.trans hU4).ext.cell hsv0, _, hrow4.sl, by rw [List.length_append, het, List.length_append, List.length_replicate]; omega⟩) (fun w1 hw1 => RV.add rfl rfl (Fit.i64 (by omega))) rfl ?_
          refine WH.take 12 rfl (by kernel_rfl) (by kernel_rfl) (by kernel_rfl) (⟨(hU3.drew.trans hU4).ext.cell hsv0, _, hrow4.sl, by rw [List.length_append, het, List.length_append, List.length_replicate]; omega⟩) (fun w1 hw1 => RV.assign rfl) rfl ?_
          refine WH.done (by kernel_rfl) ?_
          refine QF.blockNormal ?_
          refine QF.seqNext ?_
          refine WC.region ?_
          refine WL.v (RV.move rfl) rfl ?_
          refine WL.v (RV.add rfl rfl (Fit.i64 (by omega))) rfl ?_
          refine WL.v (RV.assign rfl) rfl ?_
          refine WL.nil ?_
          refine QF.next ((i + 1, w4, ((escM (l.take i)).length : Int) + (r.length : Int))) (⟨hlt, by dsimp only; rw [het]; simp, hrow4, hU3.drew.trans hU4⟩) (by dsimp only; omega) ⟨rfl, rfl, rfl, rfl, rfl, trivial⟩ rfl
      · intro hge
        obtain rfl : i = l.length := by have := of_decide_eq_false hge; omega
        rw [List.take_length, Nat.sub_self] at hrs3
        refine WC.exit ?_
        refine QF.thenExit ?_
        refine QF.thenExit ?_
        refine QF.blockHit ?_
        refine QF.seqNext ?_
        refine WC.seq ?_
        refine WC.region ?_
        refine WL.v (RV.move rfl) rfl ?_
        refine WL.v (RV.strOf (by simpa using hrs3) Try.underlying31 Try.underlying5 Try.underlying9 rfl) rfl ?_
        refine WL.v (RV.assign rfl) rfl ?_
        refine WL.nil ?_
        refine QF.seqNext ?_
        refine WC.ret ?_
        refine QF.done1 rfl rfl (⟨rfl, hU3.ext⟩)

theorem Built.upd {S : Nat → Prop} {O O' : Nat → Nat} {w w' : World} {rb : Nat} {cs : Array Value} (h : Built O w rb cs) (u : Upd S O w O' w') (h3 : ¬ S 3) (h4 : ¬ S 4) : Built O' w' rb cs := by
  obtain ⟨tv, tl, t1, t2, t3⟩ := h.to
  exact ⟨h.blk.upd u (by decide) h3, h.reps.upd u, h.size, tv, tl, t1, t2.upd u (by decide) h4, t3⟩
def OnceK (O : Nat → Nat) (w : World) (O' : Nat → Nat) (w' : World) (cs : Array Value) : Prop :=
  ∃ rb rcs, cs[3]? = some (.iface 118 (.pointer (some ⟨rb, 0, none⟩))) ∧ Built O' w' rb rcs ∧ Upd (fun j => j ≠ 0) O w O' w'
theorem buildOnce_ret (B : Nat) (O : Nat → Nat) (b : Nat) (ov : Value) (w : World) (hR : Rng B O w) (hb : BlkO O w 1 b #[.int .u32 0, .int .i32 1, .int .u32 0, .nilIface, ov] 90) (hs : Sl encS 1 w ov oldM) (hf : Free O w ov) :
    Ret Try.prog 33 [.pointer (some ⟨b, 0, none⟩)] w fun _ w' => ∃ O' cs', BlkO O' w' 1 b cs' 90 ∧ 1 < cs'.size ∧ cs'[1]? = some (.int .i32 1) ∧ OnceK O w O' w' cs' := by
  refine Ret.enter Try.func33 Try.ntmps33 rfl rfl ?_
  refine WC.seq ?_
  refine WC.region ?_
  refine WL.v (RV.move rfl) rfl ?_
  refine WL.v (RV.move rfl) rfl ?_
  refine WL.call Try.call40 rfl (build_ret B O b _ ov w hR hb rfl hs hf) rfl ?_
  rintro v w1 ⟨rb, O1, rcs, rfl, hbt, hU1, hR1⟩
  have hb1 := hb.upd hU1 (by decide) (by decide)
  refine WL.v (RV.nilPtr rfl) rfl ?_
  refine WL.v (RV.fieldAddr 3 Try.underlying90 rfl rfl (Try.sizeOf88 _) (by decide) rfl) rfl ?_
  refine WL.storeBlk (j := 3) hb1 rfl (Try.sizeOf88 _) rfl rfl rfl rfl ?_
  have hb2 := hb1.set 3 (.iface 118 (.pointer (some ⟨rb, 0, none⟩)))
  have hU2 : Upd (fun k => k = 1) O1 w1 O1 (w1.setCell ⟨b, 3, none⟩ (.iface 118 (.pointer (some ⟨rb, 0, none⟩)))) := Upd.set (by decide) hb1.tag rfl
  generalize w1.setCell ⟨b, 3, none⟩ (.iface 118 (.pointer (some ⟨rb, 0, none⟩))) = w2 at *
  refine WL.nil ?_
  refine QF.seqNext ?_
  refine WC.region ?_
  refine WL.v (RV.move rfl) rfl ?_
  refine WL.v (RV.nilPtr rfl) rfl ?_
  refine WL.v (RV.fieldAddr 4 Try.underlying90 rfl rfl (Try.sizeOf46 _) (by decide) rfl) rfl ?_
  refine WL.storeBlk (j := 4) hb2 rfl (Try.sizeOf46 _) rfl rfl rfl rfl ?_
  have hb3 := hb2.set 4 (.slice none 0 0)
  have hU3 : Upd (fun k => k = 1) O1 w2 O1 (w2.setCell ⟨b, 4, none⟩ (.slice none 0 0)) := Upd.set (by decide) hb2.tag rfl
  have hU23 := hU2.trans hU3
  refine WL.nil ?_
  exact QF.end0 rfl ⟨O1, _, hb3, by simp, rfl, rb, rcs, rfl, hbt.upd hU23 (by decide) (by decide), (hU1.mono (by rintro _ (rfl | rfl) <;> decide) (by decide)).trans (hU23.mono (by rintro _ rfl; decide) (by decide))⟩

theorem replace_ret (l : List UInt8) (w0 w : World) (b : Nat) (ov : Value) (h : NewRep w0 w b ov oldM) (hl : l.length < 24) :
    Ret Try.prog 23 [.pointer (some ⟨b, 0, none⟩), .string (bs l)] w fun v w' => v = .string (bs (escM l)) ∧ Ext w0 w' := by
  have hFn : ∀ W, BlkO (own1 (fun _ => 0) b 1) W 1 b (#[.int .u32 0, .int .i32 0, .int .u32 0, .nilIface, ov].setIfInBounds 1 (.int .i32 1)) 90 → Upd (fun k => k = 1) (own1 (fun _ => 0) b 1) w (own1 (fun _ => 0) b 1) W →
      Ret Try.prog 33 [.pointer (some ⟨b, 0, none⟩)] W fun _ W' => ∃ O' cs', BlkO O' W' 1 b cs' 90 ∧ 1 < cs'.size ∧ cs'[1]? = some (.int .i32 1) ∧ OnceK (own1 (fun _ => 0) b 1) w O' W' cs' := by
    intro W hW hUW
    refine (buildOnce_ret w0.heap.size _ b ov W (h.rng.upd hUW) hW (h.sl.upd h.free hUW) (h.free.upd hUW)).mono ?_
    rintro v w' ⟨O', cs', g1, g2, g3, rb, rcs, g4, g5, g6⟩
    exact ⟨O', cs', g1, g2, g3, rb, rcs, g4, g5, (hUW.mono (by rintro _ rfl; decide) (by decide)).trans g6⟩
  refine Ret.enter Try.func23 Try.ntmps23 rfl rfl ?_
  refine WC.seq ?_
  refine WC.region ?_
  refine WL.v (RV.assign rfl) rfl ?_
  refine WL.nil ?_
  refine QF.seqNext ?_
  refine WC.seq ?_
  refine WC.region ?_
  refine WL.v (RV.move rfl) rfl ?_
  refine WL.v (RV.nilPtr rfl) rfl ?_
  refine WL.v (RV.fieldAddr 0 Try.underlying90 rfl rfl (Try.sizeOf86 _) (by decide) rfl) rfl ?_
  refine WL.v (RV.move rfl) rfl ?_
  refine WL.v (RV.mkFunc rfl rfl) rfl ?_
  refine WL.call Try.call32 rfl (onceDo_ret _ 1 b _ _ w (by decide) h.blk rfl rfl 33 [.pointer (some ⟨b, 0, none⟩)] Try.call33 (OnceK (own1 (fun _ => 0) b 1) w) hFn) rfl ?_
  rintro v _ ⟨O1, w1, cs1, hb1, ⟨rb, rcs, hif, hbt, hU1⟩, rfl⟩
  have hUa : Upd (fun k => k = 1) O1 w1.drew O1 (w1.drew.setCell ⟨b, 0, none⟩ (.int .u32 1)) := Upd.set (by decide) hb1.tag rfl
  have hb2 := hb1.drew.set 0 (.int .u32 1)
  have hUb : Upd (fun k => k = 1) O1 (w1.drew.setCell ⟨b, 0, none⟩ (.int .u32 1)) O1 ((w1.drew.setCell ⟨b, 0, none⟩ (.int .u32 1)).setCell ⟨b, 1, none⟩ (.int .i32 0)) := Upd.set (by decide) hb1.tag rfl
  have hb3 := hb2.set 1 (.int .i32 0)
  have hUab : Upd (fun k => k = 1) O1 w1 O1 ((w1.drew.setCell ⟨b, 0, none⟩ (.int .u32 1)).setCell ⟨b, 1, none⟩ (.int .i32 0)) := (hUa.trans hUb).ofDrew'
  have hUt := hU1.trans (hUab.mono (by rintro _ rfl; decide) (by decide))
  have hbt3 := (hbt.upd hUab (by decide) (by decide)).r
  have hif3 : ((cs1.setIfInBounds 0 (.int .u32 1)).setIfInBounds 1 (.int .i32 0))[3]? = some (.iface 118 (.pointer (some ⟨rb, 0, none⟩))) := by
    rw [Array.getElem?_setIfInBounds_ne (by decide), Array.getElem?_setIfInBounds_ne (by decide)]; exact hif
  generalize (w1.drew.setCell ⟨b, 0, none⟩ (.int .u32 1)).setCell ⟨b, 1, none⟩ (.int .i32 0) = w3 at *
  refine WL.nil ?_
  refine QF.seqNext ?_
  refine WC.seq ?_
  refine WC.region ?_
  refine WL.v (RV.move rfl) rfl ?_
  refine WL.v (RV.nilPtr rfl) rfl ?_
  refine WL.v (RV.fieldAddr 3 Try.underlying90 rfl rfl (Try.sizeOf88 _) (by decide) rfl) rfl ?_
  refine WL.v (RV.load (by first | exact hb3.cell 3 hif3) (Try.isAgg88 _) rfl) rfl ?_
  refine WL.v (RV.move rfl) rfl ?_
  refine WL.callI rfl Try.underlying118 (by kernel_rfl) Try.call109 rfl (bsr_ret l rb w3 hbt3 hl) rfl ?_
  rintro v w4 ⟨rfl, hE4⟩
  refine WL.v (RV.assign rfl) rfl ?_
  refine WL.nil ?_
  refine QF.seqNext ?_
  refine WC.ret ?_
  refine QF.done1 rfl rfl (⟨rfl, (h.ext.trans' hUt h.rng).trans hE4⟩)
theorem escEscape_ret (l : List UInt8) (w : World) (hl : l.length < 24) : Ret Try.prog 11 [.string (bs l)] w fun v w' => v = .string (bs (escM l)) ∧ Ext w w' := by
  refine Ret.enter Try.func11 Try.ntmps11 rfl rfl ?_
  refine WC.seq ?_
  refine WC.region ?_
  refine WL.v (RV.assign rfl) rfl ?_
  refine WL.nil ?_
  refine QF.seqNext ?_
  refine WC.seq ?_
  refine WC.region ?_
  refine WL.buildSl Try.underlying46 (Try.sizeOf9 _) (Try.zeroValue9 _) encS oldM rfl rfl rfl rfl (by kernel_rfl) (by simp) rfl ?_
  intro v1 w1 h1 hE1
  refine WL.call Try.call22 rfl (newReplacer_ret oldM v1 w1 h1 (by decide) (by decide) (by decide)) rfl ?_
  rintro v w2 ⟨b, ov, rfl, hn⟩
  refine WL.v (RV.move rfl) rfl ?_
  refine WL.call Try.call23 rfl (replace_ret l w1 w2 b ov hn hl) rfl ?_
  rintro v w3 ⟨rfl, hE3⟩
  refine WL.v (RV.assign rfl) rfl ?_
  refine WL.nil ?_
  refine QF.seqNext ?_
  refine WC.ret ?_
  refine QF.done1 rfl rfl (⟨rfl, hE1.trans hE3⟩)
end Go.Proofs.Ytpjbdikakehbgaa
