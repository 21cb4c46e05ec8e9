/- Texts that the proof of this statement needs, merged and shortened. -/
import Derived.Test.YtlehnbkknlpkbaaGreatDoorQTableRuns6
open Go.VL.RV renaming move->ix,assign->ln,len->Gv,eql->J0,not->J2,add->J3,neq->J5,extract->Jr,slice->Jy
open Go.VL.WC renaming region->ka,seq->la,skip->Gi,block->IJ,exit->J7,ret->Jn
open Go.VL.WL renaming nil->Gb,off->GT
open Go.Proofs.Tryz renaming underlying66->Gc,underlying22->Gh,sizeOf25->J6,sizeOf4->J9,isAgg25->Ji,underlying64->Js,call25->JA,call24->JB,call22->JC
open Go.VL.Fit renaming i64->GY
open Option.some renaming inj->GZ
open List renaming range->I4
open Go renaming Value->J1
open Go.Value renaming bool->J4
open Go.VL.Ret renaming enter->J8
open Nat renaming zero_le->Jo,le_refl->Jp
open Go.Value.tuple renaming injEq->Jq
open Go.Value.int renaming injEq->Jt
open Go.Value.agg renaming injEq->Ju
open List.cons renaming injEq->Jv
open Go.VL.Ext renaming refl->Jw
open Array.mk renaming injEq->Jz
open Go.Proofs.YtlehnbkknlpkbaaGreatDoor renaming RunS->JD
set_option maxRecDepth 10000
open Go.VL Go.Proofs Go.Proofs.Tryz
namespace Go.Proofs.YtlehnbkknlpkbaaGreatDoor
theorem lx{O:Nat->Nat}{w:World}{i j rb:Nat}{t:TabM}{gv:J1}{lc rc:List J1}{wv:J1}{s:JD}(h:RunO O w i j rb t gv lc rc wv s)(a0:s.closed=true)(id:Int):
  Ret prog 22 [nP rb,nI id] w fun v w'=>v=sG/\w'=w:=by
 have k22:=h.k22;rw[a0]at k22;refine J8 func22 ntmps22 rfl rfl ?_;refine zh ?_;refine zvH (ec (q:=some ⟨rb,0,none⟩) Js rfl rfl) ?_;refine ay (d:=10) rfl (b':=false) (rfl) ?_;refine zh ?_;refine zTH rfl rfl ?_;refine ae rfl rfl (⟨rfl,rfl⟩)
theorem jv{O:Nat->Nat}{w:World}{i j rb:Nat}{t:TabM}{gv:J1}{lc rc:List J1}{wv:J1}{s:JD}(h:RunO O w i j rb t gv lc rc wv s)(a0:s.closed=true):
  Ret prog 25 [nP rb] w fun v w'=>v=sG/\w'=w:=by
 have k22:=h.k22;rw[a0]at k22;refine J8 func25 ntmps25 rfl rfl ?_;refine zh ?_;refine zvH (ec (q:=some ⟨rb,0,none⟩) Js rfl rfl) ?_;refine ay (d:=8) rfl (b':=false) (rfl) ?_;refine zh ?_;refine zTH rfl rfl ?_;refine ae rfl rfl (⟨rfl,rfl⟩)
theorem pN{li lk ids:List Int}{ts:List R3}{k:Nat}(h1:1<=k)(h2:k<ids.length):nth (jT li lk ids ts) k=dM li lk ids ts k:=by
 obtain⟨j,rfl⟩:∃j,k=j+1:=⟨k-1,zo⟩
 unfold jT;rw[aA,if_pos (by simp;omega),bd,rI _ zo]
theorem mR(li lk ids:List Int)(ts:List R3):ids.length<=(jT li lk ids ts).length:=by
 unfold jT;simp only[List.length_append,List.length_cons,List.length_map,List.length_range]
 split<;>simp<;>omega
theorem mO{li lk ids:List Int}{ts:List R3}{a n:Nat}(h1:1<=a)(h2:n=0\/a+n<=ids.length):(I4 n).map (fun j=>dM li lk ids ts (a+j))=((jT li lk ids ts).take (a+n)).drop a:=by
 have hl:=mR li lk ids ts
 by_cases h0:n=0
 ·subst h0;rw[List.range_zero,List.map_nil,List.drop_of_length_le];simp;omega
 refine List.ext_getElem (by simp;omega) fun j j1 j2=>?_
 have hj:j<n:=by simpa using j1
 rw[List.getElem_map,List.getElem_range,List.getElem_drop,List.getElem_take,<-aB (show a+j<(jT li lk ids ts).length by omega),pN zo zo]
theorem ny(li lk:List Int)(ts:List R3)(ids:List Int)(v dv:J1)(w:World)(h:Tx w v li lk ts)(hd:Ints w dv ids)(hT:eF w):
  Ret prog 5 [v, dv] w fun u w' => u = .bool true ∧ Ext w w' := by
 obtain⟨ig, kp, ru, xs, rfl, h1, h2, h3, h4, h5⟩ := h
 have hz:¬(0 = 1) := by decide
 have o3 := h3.one
 have hdl := hd.len_le
 have hg := oM hT
 refine J8 func5 ntmps5 rfl rfl ?_
 refine la ?_
 refine ka ?_
 refine aE (au w) 1 (by omega) rfl rfl ?_
 intro xb w1 O1 hx1 hU1 hR1 hE1
 have hTx:∀W, Ext w W → Tx W (sF ig kp ru) li lk ts := fun W e => ⟨⟨ig, kp, ru, xs, rfl, h1.ext e, h2.ext e, h3.ext e, h4, fun i hi => (h5 i hi).ext e⟩⟩
 have ac:∀W, Ext w1 W → ∀(j:Nat) (u:J1), [ig, kp, ru][j]? = some u → W.cell? (nA xb j) = some u := fun W e j u hu => e.cell (hx1.cellsAdd j u hu)
 refine zv (ln rfl) ?_
 refine Gb ?_
 refine az ?_
 refine la ?_
 refine la ?_
 refine ka ?_
 refine zv (ai (us := [ig, kp, ru]) (ac w1 (Jw _)) (Ji _) (J6 _) rfl) ?_
 refine zc call7 (AK li lk ts (sF ig kp ru) w1 (hTx w1 hE1)) ?_
 rintro _ w2 ⟨g, rfl, hE2, hsm⟩
 have hE12 := hE1.trans hE2
 refine zv (J2 rfl) ?_
 refine zv (ix rfl) ?_
 refine bK (fun w1 => _ = w1) (decide ((14:Int) < (ids.length:Int))) 3 (rfl) rfl rfl rfl rfl rfl ?_ ?_
 ·skip
  intro a1
  refine Cl rfl ?_
  refine zv (ix rfl) ?_
  refine Cl rfl ?_
  refine zv (Gv (by first | exact hd.ext hE12) Gh rfl) ?_
  refine Cl rfl ?_
  refine zv (RV.gtr rfl rfl) ?_
  refine Gb ?_
  refine Cy (tA := 20) 4 (rfl) rfl rfl rfl (fun v hv => (GZ hv).symm.trans (congrArg J4 a1)) rfl
 rintro _ rfl
 refine zv (ix rfl) ?_
 refine bK (Ext w2) (!true) 2 (Jw w2) rfl rfl rfl rfl rfl ?_ ?_
 ·skip
  intro a2
  refine Cl rfl ?_
  refine zc call8 (oO w2 (cH hT hE12)) ?_
  rintro _ w3 ⟨rfl, hE3⟩
  refine Cl rfl ?_
  refine zv (J2 rfl) ?_
  refine Gb ?_
  refine Cy (tA := 25) 3 (hE3) rfl rfl rfl (fun v hv => (GZ hv).symm.trans (congrArg J4 a2)) rfl
 intro w3 hE3
 have hE03 := hE12.trans hE3
 refine Gb ?_
 refine az ?_
 refine zC ?_ ?_
 ·intro hc
  refine la ?_
  refine ka ?_
  refine zc call8 (oO w3 (cH hT hE03)) ?_
  rintro _ w4 ⟨rfl, hE4⟩
  refine zv (ln rfl) ?_
  refine Gb ?_
  refine az ?_
  refine Jn ?_
  refine bT ?_
  refine ae rfl rfl (⟨rfl, hE03.trans hE4⟩)
 ·intro hc
  simp only[Bool.or_eq_false_iff, Bool.not_eq_false', decide_eq_false_iff_not]at hc
  obtain⟨⟨hg1, hc2⟩, _⟩ := hc
  obtain⟨hfew, h8⟩ := hsm hg1
  have h14:ids.length ≤ 14 := by omega
  refine Gi ?_
  refine az ?_
  refine la ?_
  refine ka ?_
  refine zv (ai (us := [ig, kp, ru]) (ac w3 (hE2.trans hE3)) (Ji _) (J6 _) rfl) ?_
  refine zc call10 (Fm li lk ts xs ig kp ru w3.heap.size (fun _ => 0) w3 (au w3) (h1.ext hE03) (h2.ext hE03) (h3.ext hE03) h4 (fun i hi => (h5 i hi).ext hE03) hfew) ?_
  rintro _ w4 ⟨rv, rfl, hrv, hE4⟩
  have hE04 := hE03.trans hE4
  refine zc call9 (oG li lk ts (sF ig kp rv) w4 (RulesO.tx (h1.ext hE04) (h2.ext hE04) hrv)) ?_
  rintro cv w5 ⟨hE5, hC⟩
  have hE05 := hE04.trans hE5
  obtain⟨cs, e, rfl, hcl, hc1⟩ := hC.shape
  refine zv (ix rfl) ?_
  refine zv (Jr rfl rfl) ?_
  refine zv (Jr rfl rfl) ?_
  refine ax (au w5) 1 (by omega) (zeroValue35 _) rfl ?_
  intro tb w6 O6 htb6 hU6 hR6 hE6
  refine bE (us := cs.toArray) htb6 (show cs.toArray.size = 17 from by simpa using hcl) (by rw[show cs.toArray.size = 17 from by simpa using hcl]; exact sizeOf35 _) (by simpa using hc1) rfl rfl rfl ?_
  have htb7 := htb6.setRow (us := cs.toArray)
  have hE57 := (hU6.trans (Upd.setRow (us := cs.toArray) hz htb6.tag rfl)).ext
  generalize w6.setRow tb cs.toArray = w7 at *
  have hE07 := hE05.trans hE57
  have hE17:Ext w1 w7 := ((((hE2.trans hE3).trans hE4).trans hE5).trans hE57)
  rcases hC.made with⟨e', he', hv, hbad⟩ | ⟨a, b, clA, clB, gv, lc, rc, hM, hv, k1, k2, k3, hn⟩
  ·have hee:e = e' := by simp at hv; exact hv.2
   subst hee
   refine zv (ln rfl) ?_
   refine Gb ?_
   refine az ?_
   refine la ?_
   refine la ?_
   refine ka ?_
   refine zv (ix rfl) ?_
   refine zv (J5 rfl rfl) ?_
   refine Gb ?_
   refine az ?_
   refine aZ rfl ((by simpa using he')) ?_
   refine la ?_
   refine ka ?_
   refine zv (ln rfl) ?_
   refine Gb ?_
   refine az ?_
   refine Jn ?_
   refine bT ?_
   refine ae rfl rfl (⟨rfl, hE07⟩)
  ·have hi := hM.inv
   have hA0 := hM.runAt0 ids
   have hStep := fun(i told:Nat) (hlt:i < ids.length) (s p:JD) hs hp => hM.runAt ids (by omega) (i := i) (told := told) hlt (s := s) (p := p) hs hp
   have hEnd := fun(told:Nat) (s:JD) hs => hM.runEnd ids (by omega) (told := told) (s := s) hs
   generalize bW li lk ts a b clA clB = t at *
   generalize aU clA a.1 a.2 = LA at *
   have hcs:cs = dq t.ig t.kp t.br t.rules gv lc rc ∧ e = 0 := by
    simp only[Jq, Jz, Jv, Ju, Jt, and_true, true_and, ]at hv
    simpa using hv
   obtain⟨rfl, rfl⟩ := hcs
   have hz2:¬(0 = 1 ∨ 0 = 2 ∨ 0 = 3 ∨ 0 = 1000) := by omega
   have hg7:G5 < w7.heap.size := Nat.lt_of_lt_of_le hg hE07.size
   refine zv (ln rfl) ?_
   refine Gb ?_
   refine az ?_
   refine la ?_
   refine la ?_
   refine ka ?_
   refine zv (ix rfl) ?_
   refine zv (J5 rfl rfl) ?_
   refine Gb ?_
   refine az ?_
   refine aS rfl rfl ?_
   refine Gi ?_
   refine az ?_
   refine la ?_
   refine ka ?_
   refine zv (ai (us := dq t.ig t.kp t.br t.rules gv lc rc) (by simpa using htb7.cellsAdd) (isAgg35 _) (by rw[hcl]; exact sizeOf35 _) rfl) ?_
   refine zc call19 (jF w7.heap.size (fun _ => 0) w7 1 2 t gv lc rc (k1.ext hE57) (k2.ext hE57) (k3.ext hE57) (nz (k1.ext hE57) (k2.ext hE57) (k3.ext hE57)) (by decide) (by decide) (by decide) (by decide) hi.ok hi.right (au w7)) ?_
   rintro _ w8 ⟨O8, rb, rfl, hr8, hU8, hR8⟩
   have hU78:Upd (fun q => q = 1 ∨ q = 2 ∨ q = 3 ∨ q = 1000) (fun _ => 0) w7 O8 w8 := hU8.mono (fun _ h => by omega) hz2
   have hE08 := hE07.trans hU78.ext
   have hE18 := hE17.trans hU78.ext
   refine zv (ln rfl) ?_
   refine Gb ?_
   refine az ?_
   refine la ?_
   refine ka ?_
   refine zv (ai (us := [ig, kp, ru]) (ac w8 hE18) (Ji _) (J6 _) rfl) ?_
   refine zv (ix rfl) ?_
   refine zc call20 (rk li lk ts ids (sF ig kp ru) dv w8 (hTx w8 hE08) (hd.ext hE08) (by omega)) ?_
   rintro bv w9 ⟨hb9, hE9, hbn⟩
   have hX9 := aa (S := fun _ => False) (fun h => h) O8 hE9
   have hbf9:Free O8 w9 bv := hbn.free hb9 (fun x _ => by simp) hR8
   have hr9 := hr8.upd hX9 (by decide) (by decide) (fun h => h) (fun h => h)
   have hR9 := hR8.upd hX9
   have hU79 := hU78.trans (hX9.mono (fun _ h => h.elim) hz2)
   refine zv (ln rfl) ?_
   refine Gb ?_
   refine az ?_
   refine la ?_
   refine ka ?_
   refine zv (ai (us := [ig, kp, ru]) (ac w9 (hE18.trans hE9)) (Ji _) (J6 _) rfl) ?_
   refine zv (ix rfl) ?_
   refine zc call21 (rj li lk ids ig kp ru dv w9 (h1.ext (hE08.trans hE9)) (h2.ext (hE08.trans hE9)) o3 (hd.ext (hE08.trans hE9)) (by omega)) ?_
   rintro hv w10 ⟨hh10, hE10, hhn⟩
   have hX10 := aa (S := fun _ => False) (fun h => h) O8 hE10
   have hhf10:Free O8 w10 hv := hhn.free hh10 (fun x _ => by simp) hR9
   have hb10 := hb9.upd hbf9 hX10
   have hbf10 := hbf9.upd hX10
   have hr10 := hr9.upd hX10 (by decide) (by decide) (fun h => h) (fun h => h)
   have hR10 := hR9.upd hX10
   have hU710 := hU79.trans (hX10.mono (fun _ h => h.elim) hz2)
   have hbl := mR li lk ids ts
   have hhl := ow li lk ids (Jp ids.length)
   refine zv (ln rfl) ?_
   refine Gb ?_
   refine az ?_
   refine la ?_
   refine ka ?_
   refine zv (ln rfl) ?_
   refine Gb ?_
   refine az ?_
   refine la ?_
   refine la ?_
   refine ka ?_
   refine zv (ln rfl) ?_
   refine Gb ?_
   refine az ?_
   refine IJ ?_
   refine zlp (fun z:Nat×Nat×(Nat → Nat)×World×J1×JD => [(1, dv), (2, nP xb), (7, nP rb), (8, bv), (9, hv), (10, nI (z.2.1:Nat)), (11, nI (z.1:Nat))]) (fun z => z.2.2.2.1) (fun z => z.1 ≤ ids.length ∧ RunAt li lk ids LA z.1 z.2.1 z.2.2.2.2.2 ∧ RunO z.2.2.1 z.2.2.2.1 1 2 rb t gv lc rc z.2.2.2.2.1 z.2.2.2.2.2 ∧ OkS t z.2.2.2.2.2 ∧ Sl cP 1 z.2.2.2.1 bv (jT li lk ids ts) ∧ Free z.2.2.1 z.2.2.2.1 bv ∧ Sl cP 1 z.2.2.2.1 hv (gQ li lk ids ids.length) ∧ Free z.2.2.1 z.2.2.2.1 hv ∧ Upd (fun q => q = 1 ∨ q = 2 ∨ q = 3 ∨ q = 1000) (fun _ => 0) w7 z.2.2.1 z.2.2.2.1 ∧ Rng w7.heap.size z.2.2.1 z.2.2.2.1) (fun z => ids.length - z.1) (0, 1, O8, w10, nS, ed t) (⟨Jo _, hA0, hr10, vq hi.ok, hb10, hbf10, hh10, hhf10, hU710, hR10⟩) ?_
   rintro⟨i, told, O11, w11, wv, s⟩ ⟨hin, hat, hr11, hs11, hb11, hbf11, hh11, hhf11, hU11, hR11⟩
   dsimp only at hin hat hr11 hs11 hb11 hbf11 hh11 hhf11 hU11 hR11 ⊢
   have hd11 := hd.ext (hE07.trans hU11.ext)
   have ht1 := hat.t1
   have ht2 := hat.t2
   have hcl11 := hat.open_
   have hT11:eF w11 := cH hT (hE07.trans hU11.ext)
   refine la ?_
   refine la ?_
   refine ka ?_
   refine zv (ix rfl) ?_
   refine zv (ix rfl) ?_
   refine zv (Gv (by first | exact hd11) Gh rfl) ?_
   refine zv (RV.lss rfl rfl) ?_
   refine Gb ?_
   refine az ?_
   refine zC ?_ ?_
   ·intro hlt
    replace hlt:i < ids.length := by have := of_decide_eq_true hlt; omega
    have hh:∀k, k < ids.length → w11.cell? (adr hv 1 k) = some (.bool (gL li lk ids k)) := fun k hk => by
     have := hh11.cell (i := k) (j := 0) (by omega) rfl
     rw[ao, ug _ _ _ hk]at this; exact this
    have d1:w11.cell? (adr dv 1 i) = some (nI (nth ids i)) := by have := hd11.cell (i := i) (j := 0) hlt rfl; rw[ao]at this; exact this
    obtain⟨N, hNN⟩:∃N, N = dW (win li lk ids told (i + 1)) := ⟨_, rfl⟩
    have hNle := nN (win li lk ids told (i + 1))
    rw[← hNN, dQ]at hNle
    have hst := hStep i told hlt s _ hat rfl
    rw[← hNN]at hst
    have hpw := A2 t s (aJ (nth ids i))
    have hsw:s.wait.length ≤ 100000 := by rw[hat.wait, dQ]; omega
    refine Gi ?_
    refine az ?_
    refine la ?_
    refine IJ ?_
    refine la ?_
    refine ka ?_
    refine zv (ix rfl) ?_
    refine zv (ln rfl) ?_
    refine Gb ?_
    refine az ?_
    refine la ?_
    refine iK (fun z:Nat => [(1, dv), (2, nP xb), (7, nP rb), (8, bv), (9, hv), (10, nI (told:Nat)), (11, nI (i:Nat)), (12, nI (z:Nat))]) (fun z:Nat => w11) (fun z:Nat => z = told + N) ?_ ?_
    ·intro hN
     refine IJ ?_
     refine zlp (fun y:Nat => [(1, dv), (2, nP xb), (7, nP rb), (8, bv), (9, hv), (10, nI (told:Nat)), (11, nI (i:Nat)), (12, nI (y:Nat))]) (fun y => w11) (fun y => told ≤ y ∧ y ≤ max (i + 1) told ∧ told + N = y + dW (win li lk ids y (i + 1))) (fun y => i + 2 - y) told (⟨Jp _, by omega, by rw[hNN]⟩) ?_
     rintro y ⟨hy1, hy2, hy3⟩
     refine la ?_
     refine la ?_
     refine ka ?_
     refine zv (ix rfl) ?_
     refine zv (ix rfl) ?_
     refine zv (RV.leq rfl rfl) ?_
     refine Gb ?_
     refine az ?_
     refine zC ?_ ?_
     ·intro hyi
      replace hyi:y ≤ i := by have := of_decide_eq_true hyi; omega
      refine Gi ?_
      refine az ?_
      refine IJ ?_
      refine la ?_
      refine ka ?_
      refine zv (ln rfl) ?_
      refine Gb ?_
      refine az ?_
      refine la ?_
      refine la ?_
      refine ka ?_
      refine zv (ix rfl) ?_
      refine zv (ln rfl) ?_
      refine Gb ?_
      refine az ?_
      refine IJ ?_
      refine zlp (fun x:Nat => [(1, dv), (2, nP xb), (7, nP rb), (8, bv), (9, hv), (10, nI (told:Nat)), (11, nI (i:Nat)), (12, nI (y:Nat)), (13, nI (eM li lk ids y x:Nat)), (14, nI ((y + x:Nat):Int))]) (fun x => w11) (fun x => x ≤ i + 1 - y) (fun x => i + 1 - y - x) 0 (Jo _) ?_
      rintro x hx
      have hsl := su li lk ids y x
      refine la ?_
      refine la ?_
      refine ka ?_
      refine zv (ix rfl) ?_
      refine zv (ix rfl) ?_
      refine zv (RV.leq rfl rfl) ?_
      refine Gb ?_
      refine az ?_
      refine zC ?_ ?_
      ·intro hxi
       replace hxi:y + x ≤ i := by have := of_decide_eq_true hxi; omega
       have hc := hh (y + x) (by omega)
       refine Gi ?_
       refine az ?_
       refine la ?_
       refine IJ ?_
       refine la ?_
       refine ka ?_
       refine zv (ix rfl) ?_
       refine zv (ix rfl) ?_
       refine zv (ah hh11.sh Gc (J9 _) rfl rfl (y + x) rfl (by omega)) ?_
       refine zv (RV.ld hc rfl) ?_
       refine zv (J2 rfl) ?_
       refine Gb ?_
       refine az ?_
       cases hb:gL li lk ids (y + x)with
       |true =>
        have e:eM li lk ids y (x + 1) = eM li lk ids y x := by rw[eM, hb]; rfl
        refine aS rfl rfl ?_
        refine Gi ?_
        refine eh ?_
        refine az ?_
        refine ka ?_
        refine zv (ix rfl) ?_
        refine zv (J3 rfl rfl (GY (by omega))) ?_
        refine zv (ln rfl) ?_
        refine Gb ?_
        rw[← e]
        refine zxd (x + 1) (by omega)
       |false =>
        have e:((eM li lk ids y (x + 1):Nat):Int) = ((eM li lk ids y x:Nat):Int) + 1 := by rw[eM, hb]; simp
        refine aZ rfl rfl ?_
        refine ka ?_
        refine zv (ix rfl) ?_
        refine zv (J3 rfl rfl (GY (by omega))) ?_
        refine zv (ln rfl) ?_
        refine Gb ?_
        refine eh ?_
        refine az ?_
        refine ka ?_
        refine zv (ix rfl) ?_
        refine zv (J3 rfl rfl (GY (by omega))) ?_
        refine zv (ln rfl) ?_
        refine Gb ?_
        rw[← e]
        refine zxd (x + 1) (by omega)
      ·intro hxi
       have hxe:x = i + 1 - y := by have := of_decide_eq_false hxi; omega
       have hc := hh y (by omega)
       have hrd := tG li lk ids (a := y) (b := i + 1) (by omega)
       have hwc := qN li lk ids (a := y) (b := i + 1) (by omega)
       rw[← hxe]at hrd
       have hstp:dW (win li lk ids y (i + 1)) = if(gL li lk ids y || decide (4 ≤ eM li lk ids y x)) = true then dW (win li lk ids (y + 1) (i + 1)) + 1 else 0 := by
        rw[← hrd, hwc, dW]
       refine J7 ?_
       refine cT ?_
       refine cT ?_
       refine eY ?_
       refine az ?_
       refine la ?_
       refine la ?_
       refine ka ?_
       refine zv (ix rfl) ?_
       refine zv (ix rfl) ?_
       refine zv (ah hh11.sh Gc (J9 _) rfl rfl y rfl (by omega)) ?_
       refine zv (RV.ld hc rfl) ?_
       refine zv (J2 rfl) ?_
       refine zv (ix rfl) ?_
       refine aP (fun w1 => _ = w1) (decide (((eM li lk ids y x:Nat):Int) < 4)) 2 (rfl) rfl rfl rfl rfl rfl ?_ ?_
       ·skip
        intro a3
        refine Cl rfl ?_
        refine zv (ix rfl) ?_
        refine Cl rfl ?_
        refine zv (RV.lss rfl rfl) ?_
        refine Gb ?_
        refine Cy (tA := 74) 3 (rfl) rfl rfl rfl (fun v hv => (GZ hv).symm.trans (congrArg J4 a3)) rfl
       rintro _ rfl
       refine Gb ?_
       refine az ?_
       refine zC ?_ ?_
       ·intro hnr
        have hrd0:(gL li lk ids y || decide (4 ≤ eM li lk ids y x)) = false := by
         simp only[Bool.and_eq_true, Bool.not_eq_true', decide_eq_true_eq]at hnr
         rw[hnr.1, decide_eq_false (by omega)]; rfl
        rw[hrd0, if_neg (by decide)]at hstp
        refine J7 ?_
        refine cT ?_
        refine mJ rfl ?_
        refine cT ?_
        refine eY ?_
        exact eD (hN (y) (by omega)) ⟨rfl, rfl, rfl, rfl, rfl, rfl, rfl, rfl, trivial⟩ rfl
       ·intro hnr
        have hrd0:(gL li lk ids y || decide (4 ≤ eM li lk ids y x)) = true := by
         cases hb:gL li lk ids y with
         |true => rfl
         |false =>
          rw[hb]at hnr
          have:¬((eM li lk ids y x:Nat):Int) < 4 := by simpa using hnr
          rw[decide_eq_true (by omega)]; rfl
        rw[hrd0, if_pos rfl]at hstp
        refine Gi ?_
        refine az ?_
        refine ka ?_
        refine zv (ix rfl) ?_
        refine zv (J3 rfl rfl (GY (by omega))) ?_
        refine zv (ln rfl) ?_
        refine Gb ?_
        refine eh ?_
        refine zxd (y + 1) (⟨by omega, by omega, by omega⟩)
     ·intro hyi
      have hye:win li lk ids y (i + 1) = [] := by
       have := of_decide_eq_false hyi
       unfold win
       rw[show i + 1 - y = 0 from by omega]; rfl
      have h0:told + N = y := by rw[hy3, hye]; rfl
      refine J7 ?_
      refine cT ?_
      refine cT ?_
      refine eY ?_
      exact eD (hN (y) (h0.symm)) ⟨rfl, rfl, rfl, rfl, rfl, rfl, rfl, rfl, trivial⟩ rfl
    rintro z hze
    subst hze
    refine az ?_
    refine la ?_
    refine ka ?_
    refine zv (ix rfl) ?_
    refine zv (ix rfl) ?_
    refine zv (ix rfl) ?_
    refine zv (ah hd11.sh Gh (sizeOf3 _) rfl rfl i rfl (by omega)) ?_
    refine zv (RV.ld d1 rfl) ?_
    refine zc JC (ib w7.heap.size O11 w11 1 2 3 rb t gv lc rc wv s hr11 (by decide) (by decide) (by decide) (by decide) (by decide) (by decide) (by decide) (by decide) (by decide) hi.ok hs11 (by omega) hcl11 hR11 hT11 hg7 (nth ids i) _ rfl) ?_
    rintro gv2 w12 ⟨O12, wv12, hr12, hs12, hg12, hU12, hR12⟩
    obtain⟨_, hst2, hat12⟩ := hst
    rw[hst2]at hg12
    have hgl:((I4 N).map fun j => dM li lk ids ts (told + j)).length = N := by simp
    have hseg := mO (li := li) (lk := lk) (ids := ids) (ts := ts) (a := told) (n := N) ht1 (by omega)
    have hb12 := hb11.upd hbf11 hU12
    have hU712 := hU11.trans (hU12.mono (fun _ h => by omega) hz2)
    have hw12 := congrArg List.length hat12.wait
    rw[dQ]at hw12
    have ht12 := hat12.t2
    generalize (I4 N).map (fun j => dM li lk ids ts (told + j)) = G at *
    refine zv (ln rfl) ?_
    refine Gb ?_
    refine az ?_
    refine la ?_
    refine la ?_
    refine ka ?_
    refine zv (ix rfl) ?_
    refine zv (Gv (by first | exact hg12.sl) Gc rfl) ?_
    refine zv (ix rfl) ?_
    refine zv (ix rfl) ?_
    refine zv (RV.sub rfl rfl (GY (by omega))) ?_
    refine zv (J5 rfl rfl) ?_
    refine zv (ix rfl) ?_
    refine ay (d := 92) rfl (b' := false) ((by rw[bne_eq_false_iff_eq, hgl]; omega)) ?_
    refine Cl rfl ?_
    refine zv (ix rfl) ?_
    refine Cl rfl ?_
    refine zv (ix rfl) ?_
    refine Cl rfl ?_
    refine zv (ix rfl) ?_
    refine Cl rfl ?_
    refine zv (ix rfl) ?_
    refine Cl rfl ?_
    refine zv (Jy hb12 Gc (J9 _) rfl rfl rfl told (told + N) rfl rfl (by omega) (by omega)) ?_
    refine Cl rfl ?_
    refine zc call23 (ot G _ gv2 _ w12 hg12.sl (hb12.slice (lo := told) (hi := told + N) (by omega) (by omega))) ?_
    rintro _ w13 ⟨rfl, hE13⟩
    rw[decide_eq_true hseg]
    have hX13 := aa (S := fun _ => False) (fun h => h) O12 hE13
    have hr13 := hr12.upd hX13 (by decide) (by decide) (fun h => h) (fun h => h)
    refine Cl rfl ?_
    refine zv (J2 rfl) ?_
    refine zv (aW rfl rfl) ?_
    refine Gb ?_
    refine az ?_
    refine aS rfl rfl ?_
    refine Gi ?_
    refine az ?_
    refine la ?_
    refine ka ?_
    refine zv (ix rfl) ?_
    refine zv (ln rfl) ?_
    refine Gb ?_
    refine az ?_
    refine la ?_
    refine ka ?_
    refine zv (ix rfl) ?_
    refine zc JB (eC O12 w13 1 2 rb t gv lc rc wv12 _ hr13) ?_
    rintro _ w13 ⟨rfl, rfl⟩
    refine zv (ix rfl) ?_
    refine zv (J3 rfl rfl (GY (by omega))) ?_
    refine zv (ix rfl) ?_
    refine zv (RV.sub rfl rfl (GY (by omega))) ?_
    refine zv (gH rfl rfl) ?_
    refine zv (J5 rfl rfl) ?_
    refine Gb ?_
    refine az ?_
    refine aS rfl ((by rw[bne_eq_false_iff_eq, hw12, Int.max_eq_left (by omega)]; omega)) ?_
    refine Gi ?_
    refine eh ?_
    refine az ?_
    refine ka ?_
    refine zv (ix rfl) ?_
    refine zv (J3 rfl rfl (GY (by omega))) ?_
    refine zv (ln rfl) ?_
    refine Gb ?_
    refine zxd (i + 1, told + N, O12, w13, wv12, _) (⟨hlt, hat12, hr13, hs12, hb12.ext hE13, (hbf11.upd hU12).upd hX13, (hh11.upd hhf11 hU12).ext hE13, (hhf11.upd hU12).upd hX13, hU712.trans (hX13.mono (fun _ h => h.elim) hz2), hR12.upd hX13⟩)
   ·intro hge
    have hie:i = ids.length := by have := of_decide_eq_false hge; omega
    rw[hie]at hat
    have hE := hEnd told s hat
    refine J7 ?_
    refine cT ?_
    refine cT ?_
    refine eY ?_
    refine az ?_
    refine la ?_
    refine ka ?_
    refine zv (ix rfl) ?_
    refine zc JA (kY w7.heap.size O11 w11 1 2 3 rb t gv lc rc wv s hr11 (by decide) (by decide) (by decide) (by decide) (by decide) (by decide) (by decide) (by decide) (by decide) hi.ok hs11 hcl11 hR11 hT11 hg7) ?_
    rintro cv w12 ⟨O12, wv12, s12, hr12, hs12, hw12, hc12, hcv12, hU12, hR12⟩
    rw[hE]at hcv12
    have hgl:((I4 (ids.length - told)).map fun j => dM li lk ids ts (told + j)).length = ids.length - told := by simp
    have hat2 := hat.t2
    have hb12 := hb11.upd hbf11 hU12
    have hU712 := hU11.trans (hU12.mono (fun _ h => by omega) hz2)
    have hE012 := hE07.trans hU712.ext
    have hd12 := hd.ext hE012
    have fin:∀W, Ext w12 W → RunO O12 W 1 2 rb t gv lc rc wv12 s12 := fun W e => hr12.upd (aa (S := fun _ => False) (fun h => h) O12 e) (by decide) (by decide) (fun h => h) (fun h => h)
    refine zv (ln rfl) ?_
    refine Gb ?_
    refine az ?_
    refine la ?_
    refine la ?_
    refine ka ?_
    refine zv (ix rfl) ?_
    refine zv (Gv (by first | exact hd12 | exact hcv12.sl) Gh rfl) ?_
    refine zv (RV.gtr rfl rfl) ?_
    refine zv (ix rfl) ?_
    by_cases hn0:0 < ids.length
    ·have hseg := mO (li := li) (lk := lk) (ids := ids) (ts := ts) (a := told) (n := ids.length - told) ht1 (by omega)
     rw[show told + (ids.length - told) = ids.length from by omega]at hseg
     generalize (I4 (ids.length - told)).map (fun j => dM li lk ids ts (told + j)) = G at *
     refine ay (d := 115) rfl (b' := true) ((decide_eq_true (by omega))) ?_
     refine Cl rfl ?_
     refine zv (ix rfl) ?_
     refine Cl rfl ?_
     refine zv (ix rfl) ?_
     refine Cl rfl ?_
     refine zv (ix rfl) ?_
     refine Cl rfl ?_
     refine zv (ix rfl) ?_
     refine Cl rfl ?_
     refine zv (Gv (by first | exact hd12 | exact hcv12.sl) Gh rfl) ?_
     refine Cl rfl ?_
     refine zv (Jy hb12 Gc (J9 _) rfl rfl rfl told ids.length rfl rfl (by omega) (by omega)) ?_
     refine Cl rfl ?_
     refine zc call23 (ot G _ cv _ w12 hcv12.sl (hb12.slice (lo := told) (hi := ids.length) (by omega) (by omega))) ?_
     rintro _ w13 ⟨rfl, hE13⟩
     rw[decide_eq_true hseg]
     have hr13 := fin w13 hE13
     refine Cl rfl ?_
     refine zv (J2 rfl) ?_
     refine zv (aQ rfl rfl) ?_
     refine zv (ix rfl) ?_
     refine ay (d := 125) rfl (b' := false) (rfl) ?_
     refine Cl rfl ?_
     refine zv (ix rfl) ?_
     refine Cl rfl ?_
     refine zv (Gv (by first | exact hd12.ext hE13) Gh rfl) ?_
     refine Cl rfl ?_
     refine zv (J0 rfl rfl) ?_
     refine Cl rfl ?_
     refine zv (ix rfl) ?_
     refine ay (d := 129) rfl (b' := false) ((by rw[beq_eq_false_iff_ne]; omega)) ?_
     refine GT rfl rfl rfl ?_
     refine GT rfl rfl rfl ?_
     refine GT rfl rfl rfl ?_
     refine Cl rfl ?_
     refine zv (aW rfl rfl) ?_
     refine zv (aW rfl rfl) ?_
     refine Gb ?_
     refine az ?_
     refine aS rfl rfl ?_
     refine Gi ?_
     refine az ?_
     refine la ?_
     refine ka ?_
     refine zv (ix rfl) ?_
     refine zc JC (lx hr13 hc12 1) ?_
     rintro _ w13 ⟨rfl, rfl⟩
     refine zv (Gv (by first | exact rm cP 1 w13) Gc rfl) ?_
     refine zv (J0 rfl rfl) ?_
     refine zv (ix rfl) ?_
     refine ay (d := 139) rfl (b' := true) (rfl) ?_
     refine Cl rfl ?_
     refine zv (ix rfl) ?_
     refine Cl rfl ?_
     refine zc JA (jv hr13 hc12) ?_
     rintro _ w13 ⟨rfl, rfl⟩
     refine Cl rfl ?_
     refine zv (Gv (by first | exact rm cP 1 w13) Gc rfl) ?_
     refine Cl rfl ?_
     refine zv (J0 rfl rfl) ?_
     refine zv (aQ rfl rfl) ?_
     refine zv (ix rfl) ?_
     refine ay (d := 145) rfl (b' := true) (rfl) ?_
     refine Cl rfl ?_
     refine zv (ix rfl) ?_
     refine Cl rfl ?_
     refine zc JB (eC O12 w13 1 2 rb t gv lc rc wv12 _ hr13) ?_
     rintro _ w13 ⟨rfl, rfl⟩
     refine Cl rfl ?_
     refine zv (J0 rfl rfl) ?_
     refine zv (aQ rfl rfl) ?_
     refine zv (ln rfl) ?_
     refine Gb ?_
     refine az ?_
     refine Jn ?_
     refine ae rfl rfl (⟨by rw[hw12]; rfl, hE012.trans hE13⟩)
    ·have h0:ids.length = 0 := by omega
     refine ay (d := 115) rfl (b' := false) ((decide_eq_false (by omega))) ?_
     refine GT rfl rfl rfl ?_
     refine GT rfl rfl rfl ?_
     refine GT rfl rfl rfl ?_
     refine GT rfl rfl rfl ?_
     refine GT rfl rfl rfl ?_
     refine GT rfl rfl rfl ?_
     refine GT rfl rfl rfl ?_
     refine GT rfl rfl rfl ?_
     refine zv (aW rfl rfl) ?_
     refine zv (ix rfl) ?_
     refine Cl rfl ?_
     refine zv (ix rfl) ?_
     refine Cl rfl ?_
     refine zv (Gv (by first | exact hd12 | exact hcv12.sl) Gh rfl) ?_
     refine Cl rfl ?_
     refine zv (J0 rfl rfl) ?_
     refine Cl rfl ?_
     refine zv (ix rfl) ?_
     refine ay (d := 129) rfl (b' := true) ((by rw[h0]; rfl)) ?_
     refine Cl rfl ?_
     refine zv (ix rfl) ?_
     refine Cl rfl ?_
     refine zv (Gv (by first | exact hd12 | exact hcv12.sl) Gc rfl) ?_
     refine Cl rfl ?_
     refine zv (J5 rfl rfl) ?_
     refine Cl rfl ?_
     refine zv (aQ rfl rfl) ?_
     refine zv (aW rfl rfl) ?_
     refine Gb ?_
     refine az ?_
     refine aS rfl ((by rw[bne_eq_false_iff_eq, hgl]; omega)) ?_
     refine Gi ?_
     refine az ?_
     refine la ?_
     refine ka ?_
     refine zv (ix rfl) ?_
     refine zc JC (lx hr12 hc12 1) ?_
     rintro _ w12 ⟨rfl, rfl⟩
     refine zv (Gv (by first | exact rm cP 1 w12) Gc rfl) ?_
     refine zv (J0 rfl rfl) ?_
     refine zv (ix rfl) ?_
     refine ay (d := 139) rfl (b' := true) (rfl) ?_
     refine Cl rfl ?_
     refine zv (ix rfl) ?_
     refine Cl rfl ?_
     refine zc JA (jv hr12 hc12) ?_
     rintro _ w12 ⟨rfl, rfl⟩
     refine Cl rfl ?_
     refine zv (Gv (by first | exact rm cP 1 w12) Gc rfl) ?_
     refine Cl rfl ?_
     refine zv (J0 rfl rfl) ?_
     refine zv (aQ rfl rfl) ?_
     refine zv (ix rfl) ?_
     refine ay (d := 145) rfl (b' := true) (rfl) ?_
     refine Cl rfl ?_
     refine zv (ix rfl) ?_
     refine Cl rfl ?_
     refine zc JB (eC O12 w12 1 2 rb t gv lc rc wv12 _ hr12) ?_
     rintro _ w12 ⟨rfl, rfl⟩
     refine Cl rfl ?_
     refine zv (J0 rfl rfl) ?_
     refine zv (aQ rfl rfl) ?_
     refine zv (ln rfl) ?_
     refine Gb ?_
     refine az ?_
     refine Jn ?_
     refine ae rfl rfl (⟨by rw[hw12]; rfl, hE012⟩)
end Go.Proofs.YtlehnbkknlpkbaaGreatDoor
