/- Texts that the proof of this statement needs, merged and shortened. -/
import Derived.Test.YtlehnbkknlpkbaaGreatDoorQTableRuns5
open Go.VL.RV renaming move->ix,assign->Gh,add->JI,indexAddr->JP,extract->K7,len->Kf,build->Kg,fieldAddr->Kq,eql->Ky,lss->KY,neq->LU,load->Mf
open Go.VL.WL renaming nil->ka,storeAt->JJ,push->Lr
open Go.VL.WC renaming region->la,seq->Gv,tail->JV,block->JZ,skip->K2,ret->Lj,exit->Ls
open Go.VL.BlkO renaming upd->ln,drew->Ke,setRow->Kx,tag->LV,set->LW,q7->M7,q6->M8
open List renaming dropWhile_suffix->Gb,mem_singleton->GT,getElem_append_right->GZ,range->IJ,getElem_append_left->J0,length_singleton->J9,mem_cons->Ji,length_append->Jn,getElem_cons_zero->Jo,append_assoc->Js,all_cons->Jy,replicate->JB,ext_getElem->JC,getElem_range->JD,map_append->JG,getElem_map->JK,pairwise_cons->JN,takeWhile_prefix->JR,not_mem_nil->JS,drop_zero->JW,drop_eq_getElem_cons->K0,all_nil->K4,take_left'->K5,append_nil->K6,take_append_drop->K8,take_zero->Kc,length_cons->Kr,length->Kw,range_succ->KB,mem_append->KC,length_set->KD,length_map->KE,drop_of_length_le->KP,contains_iff_mem->KU,take_succ_cons->L4,replicate_succ->L5,map_congr_left->L6,drop_succ_cons->L7,length_range->Li,toArray_inj->Ll,length_drop->Lm,drop_left'->Lv,drop_drop->Ly
open Go.VL.WH renaming one->Gc,done->J8
open And renaming intro->Gi
open Go.Proofs.YtlehnbkknlpkbaaGreatDoor renaming pushL->GY,closeL->Kj,FirstR->KV,Made->L3,Rd6->Lh,PostC->Lt,MatO->LL,TabM->Me
open Nat renaming le_refl->I4,zero_le->J3,not_lt_zero->Jq,le_of_eq->JE,sub_self->JO,add_zero->Km,lt_succ_iff_lt_or_eq->KM,zero_add->KT,lt_succ_self->Lu,add_assoc->LH
open Go renaming World->J1,Value->J5
open Go.Proofs.Tryz renaming underlying22->J2,underlying66->J7,sizeOf3->Ju,sizeOf41->Jz,sizeOf4->JA,underlying9->JH,zeroValue41->JL,sizeOf47->JM,call156->JT,prog->JX,underlying23->K1,sizeOf83->K9,sizeOf35->Ka,isAgg47->Kd,zeroValue83->Kh,isAgg41->Kk,call132->Kl,underlying123->Ko,sizeOf49->KG,sizeOf22->KH,zeroValue35->KJ,call129->KN,sizeOf66->KQ,call36->KR,sizeOf168->L9,underlying45->Ld,call130->Le,zeroValue85->Lo,sizeOf39->Lp,ntmps132->Lq,call97->Lz,isAgg83->LB,isAgg35->LC,func132->LD,call161->LF,call160->LG,sizeOf81->LN,zeroValue243->LX,underlying49->LY,underlying26->LZ,call159->M0,call96->Ma,call57->Mb,call22->Mc
open Go.VL.Ext renaming refl->J4
open Go.VL.Ret renaming enter->J6
open Go.VL.Upd renaming setRow->Jp,set->Jr,trans->KO,refl->L0,lowT->L1,drew->M1
open Go.Value renaming oneCell'->Jt,bool->JQ
open Go.VL renaming Upd->Jv,BlkO->JU,RowT->JY,Ext->Ku,Rng->KS,Ret->L2,Free->Lw,Ints->M5
open Go.VL.Fit renaming i64->Jw
open Go.World renaming setCell->JF,setRow->Ki,drew->KI
open Go.VL.RowT renaming nil->Kb,drew->LO,upd->LQ
open Go.VL.WS renaming go->Kp
open Bool renaming and_eq_true->Kv,or_eq_true->KF,false_or->KL,false_ne_true->Lb,eq_iff_iff->Lx
open Or renaming inr->Kz,inl->KA
open Go.Value.tuple renaming injEq->KK
open Go.Value.int renaming injEq->KW
open Go.Value.agg renaming injEq->KX
open List.cons renaming injEq->KZ,inj->La
open Go.Lib renaming compact->L8
open Array.mk renaming injEq->Lc
open Go.VL.Rng renaming upd->Lk,drew->M4
open Go.Proofs.YtlehnbkknlpkbaaGreatDoor.LR renaming bad->Ln
open Go.Addr renaming add_add->LJ
open Go.Proofs.YtlehnbkknlpkbaaGreatDoor.RowsT renaming push->LK
open Option.some renaming inj->LP
open Classical renaming byContradiction->M6
open Go.Proofs.YtlehnbkknlpkbaaGreatDoor.Mac renaming upd->M9
open Go.VL.WQ renaming call->Md
open Go.Proofs.YtlehnbkknlpkbaaGreatDoor.Nd renaming kids->Mg
set_option maxRecDepth 10000
open Go.VL Go.Proofs Go.Proofs.Tryz
namespace Go.Proofs.YtlehnbkknlpkbaaGreatDoor
theorem gX(ms:List Int)(mv:J5)(hml:ms.length ≤ 60): ∀(n:Nat) (t:Nd), nsz t ≤ n → ∀(x:N3) (w:J1), Nt (fun _ => 0) w t x → M5 w mv ms → L2 JX 57 [nv x, mv] w fun v w' => MatN w.heap.size w' v (ms.length + 1) (bG ms t) ∧ Ku w w'
 |0, t, hn => by have := cN t; omega
 |n + 1, .mk k c kids, hn => by
  intro x w h hm
  have hx0 := h.ones
  obtain⟨xs, hs, hf, hl, hk⟩ := h.kids
  simp only[Mg]at hl hk
  simp only[nsz]at hn
  have hM:bG ms (.mk k c kids) = dk ms k kids (fc ms k c) := by rw[bG]
  rw[hM]
  generalize x.2.2 = sv at *
  subst hx0
  simp only[Nd.kind, Nd.cls]
  obtain⟨K, hK⟩:∃K, K = ms.length + 1 := ⟨_, rfl⟩
  rw[← hK]
  have hz:¬(0 = 1 ∨ 0 = 2 ∨ 10 ≤ 0) := by omega
  have hmf:Lw (fun _ => 0) w mv := hm.free0 (fun x => by simp)
  refine J6 func57 ntmps57 rfl rfl ?_
  refine Gv ?_
  refine la ?_
  refine aE (au w) 1 (by omega) rfl rfl ?_
  intro xb w1 O1 hxb1 hU1 hR1 hE1
  refine zv (Gh rfl) ?_
  refine ka ?_
  refine az ?_
  refine Gv ?_
  refine la ?_
  refine zv (ix rfl) ?_
  refine zv (Kf (by first | exact hm.ext hE1) J2 rfl) ?_
  refine zv (JI rfl rfl (Jw (by omega))) ?_
  refine zv (Gh rfl) ?_
  refine ka ?_
  refine az ?_
  refine Gv ?_
  refine la ?_
  refine zv (ix rfl) ?_
  rw[show((ms.length:Nat):Int) + 1 = ((K:Nat):Int)from by rw[hK]; omega]
  refine gG IP (nS) (by kernel_rfl) rfl hR1 2 (by decide) K rfl rfl rfl rfl (by omega) (by omega) rfl ?_
  intro w2 O2 ov hov2 hU2 hR2 hE2
  have hxb2 := hxb1.upd hU2 (by decide) (by decide)
  have hU02:Jv (fun q => q = 1 ∨ q = 2 ∨ 10 ≤ q) (fun _ => 0) w O2 w2 := (hU1.mono (fun _ h => by omega) hz).trans (hU2.mono (fun _ h => by omega) hz)
  refine zv (Gh rfl) ?_
  refine ka ?_
  refine az ?_
  refine Gv ?_
  refine Gv ?_
  refine la ?_
  refine zv (Gh rfl) ?_
  refine ka ?_
  refine az ?_
  refine JZ ?_
  refine zlp (fun z:Nat×(Nat → Nat)×World×List J5 => [(1, mv), (2, nP xb), (5, nI (K:Nat)), (6, ov), (7, nI (z.1:Nat))]) (fun z => z.2.2.1) (fun z => z.1 ≤ K ∧ LL z.2.1 z.2.2.1 ov z.2.2.2 K z.1 (fc ms k c) ∧ JU z.2.1 z.2.2.1 1 xb #[nI k, nI c, sv] 47 ∧ Jv (fun q => q = 1 ∨ q = 2 ∨ 10 ≤ q) (fun _ => 0) w z.2.1 z.2.2.1 ∧ KS w.heap.size z.2.1 z.2.2.1) (fun z => K - z.1) (0, O2, w2, JB K (nS)) (⟨J3 _, ⟨hov2, by simp, fun i hi => absurd hi (Jq i)⟩, hxb2, hU02, hR2⟩) ?_
  rintro⟨i, O3, w3, rs⟩ ⟨hi, hMt, hxb3, hU3, hR3⟩
  dsimp only at hi hMt hxb3 hU3 hR3 ⊢
  have hrsl := hMt.len
  refine Gv ?_
  refine Gv ?_
  refine la ?_
  refine zv (ix rfl) ?_
  refine zv (ix rfl) ?_
  refine zv (KY rfl rfl) ?_
  refine ka ?_
  refine az ?_
  refine zC ?_ ?_
  ·intro hlt
   replace hlt:i < K := by have := of_decide_eq_true hlt; omega
   refine K2 ?_
   refine az ?_
   refine Gv ?_
   refine JZ ?_
   refine Gv ?_
   refine la ?_
   refine zv (ix rfl) ?_
   refine zv (ix rfl) ?_
   refine zv (ix rfl) ?_
   refine bN uy (val := fun b:Bool => JQ b) false (by kernel_rfl) (fun _ => rfl) hR3 (10 + i) (by omega) K rfl rfl rfl rfl (by omega) (by omega) rfl ?_
   intro w4 O4 rv hre hrv4 hU4 hR4 hE4
   have hMt4 := hMt.upd hU4 (by omega) (fun t ht => by omega)
   have hxb4 := hxb3.upd hU4 (by decide) (by omega)
   refine zv (ah hMt4.row.sl.sh Ko (KQ _) rfl rfl i rfl (by omega)) ?_
   refine JJ hMt4.row i (by omega) rv (KQ _) hrv4.one (by decide) rfl rfl rfl rfl ?_
   intro w5 hov5 hU5
   have hrv5 := hrv4.upd hU5 (by omega) (by omega)
   have hxb5 := hxb4.upd hU5 (by decide) (by decide)
   have hR5 := hR4.upd hU5
   have hU05 := (hU3.trans (hU4.mono (fun _ h => by omega) hz)).trans (hU5.mono (fun _ h => by omega) hz)
   have hMt5:LL O4 w5 ov (rs.set i rv) K i (fc ms k c) := ⟨hov5, by rw[KD]; exact hrsl, fun t ht => by
    rw[aT (by omega), if_neg (by omega)]
    exact(hMt4.at_ t ht).upd hU5 (by omega) (by omega)⟩
   have hmi:nth (rs.set i rv) i = rv := by rw[aT (by omega), if_pos rfl]
   have hml5:(rs.set i rv).length = K := by rw[KD]; exact hrsl
   generalize rs.set i rv = rs5 at *
   refine ka ?_
   refine az ?_
   refine Gv ?_
   obtain⟨b0, hb0⟩:∃b0, b0 = decide (k = 4 ∨ k = 6 ∨ k = 8 ∨ k = 9) := ⟨_, rfl⟩
   refine iK (fun z:J1 => [(1, mv), (2, nP xb), (5, nI (K:Nat)), (6, ov), (7, nI (i:Nat))]) (fun z:J1 => z) (fun z:J1 => LL O4 z ov rs5 K i (fc ms k c) ∧ JU O4 z 1 xb #[nI k, nI c, sv] 47 ∧ JY cP 4 1 O4 z (10 + i) rv ((JB K false).set i b0) ∧ Jv (fun q => q = 1 ∨ q = 2 ∨ 10 ≤ q) (fun _ => 0) w O4 z ∧ KS w.heap.size O4 z) ?_ ?_
   ·intro hN
    have hXd := aa (S := fun _ => False) (fun h => h) O4 (J4 w5).drew
    have hMd := hMt5.upd hXd (fun h => h) (fun _ _ h => h)
    have hxbd := hxb5.upd hXd (by decide) (fun h => h)
    have hUd := hU05.trans (hXd.mono (fun _ h => h.elim) hz)
    have hRd := hR5.upd hXd
    have hrvd:JY (fun x => [(fun b:Bool => JQ b) x]) 4 1 O4 w5.drew (10 + i) rv (JB K false) := hrv5.upd hXd (by omega) (fun h => h)
    have cells5:∀W, LL O4 W ov rs5 K i (fc ms k c) → JU O4 W 1 xb #[nI k, nI c, sv] 47 → W.cell? (adr ov 1 i) = some rv ∧ W.cell? (nA xb 0) = some (nI k) := fun W hm hb => by
     refine⟨?_, hb.cell 0 rfl⟩
     have := hm.row.sl.cell (i := i) (j := 0) (by omega) rfl; rw[ao, hmi]at this; exact this
    obtain⟨e0, e1⟩ := cells5 w5.drew hMd hxbd
    have hrl:(JB K false).length = K := by simp
    refine aI (fun W => W.cell? (adr ov 1 i) = some rv ∧ W.cell? (nA xb 0) = some (nI k)) 25 rfl (by kernel_rfl) ?_
    refine zin ⟨e0, e1⟩ fun zS => ?_
    refine zrm 0 rfl zS rfl ?_
    refine zrm 1 rfl zS rfl ?_
    refine zr 2 rfl zS (fun _ => ah hMt5.row.sl.sh Ko (KQ _) rfl rfl i rfl (by omega)) ?_
    refine zt 3 rfl zS (fun w1 hw1 => RV.ld hw1.1 rfl) ?_
    refine zrm 4 rfl zS rfl ?_
    refine zrf 5 rfl zS rfl ?_
    refine zt 6 rfl zS (fun w1 hw1 => RV.ld hw1.2 rfl) ?_
    refine zr 7 rfl zS (fun _ => Ky rfl rfl) ?_
    refine zrm 8 rfl zS rfl ?_
    by_cases h4:k = 4
    ·skip
     refine bL (d := 35) rfl (b' := true) ((by rw[h4]; rfl)) ?_
     refine zin ⟨e0, e1⟩ fun zS => ?_
     refine zte 9 rfl rfl zS ?_
     refine zte 10 rfl rfl zS ?_
     refine zte 11 rfl rfl zS ?_
     refine zr 12 rfl zS (fun _ => aQ rfl rfl) ?_
     refine zrm 13 rfl zS rfl ?_
     refine zte 14 rfl rfl zS ?_
     refine zte 15 rfl rfl zS ?_
     refine zte 16 rfl rfl zS ?_
     refine zr 17 rfl zS (fun _ => aQ rfl rfl) ?_
     refine zrm 18 rfl zS rfl ?_
     refine zte 19 rfl rfl zS ?_
     refine zte 20 rfl rfl zS ?_
     refine zte 21 rfl rfl zS ?_
     refine zr 22 rfl zS (fun _ => aQ rfl rfl) ?_
     refine zr 23 rfl zS (fun _ => ah hrv5.sl.sh J7 (JA _) rfl rfl i rfl (by omega)) ?_
     refine Gc 24 (by kernel_rfl) rfl ?_
     refine JJ hrvd i (by omega) (true) (JA _) rfl (by omega) rfl rfl rfl rfl ?_
     intro w6 hrv6 hU6
     have hM6 := hMd.upd hU6 (by omega) (fun t ht => by omega)
     have hx6 := hxbd.upd hU6 (by decide) (by omega)
     refine ka ?_
     refine af ((cells5 w6 hM6 hx6)) ?_
     refine J8 (by kernel_rfl) ?_
     exact eD (hN (w6) (⟨hM6, hx6, by rw[hb0, decide_eq_true (KA h4)]; exact hrv6, hUd.trans (hU6.mono (fun _ h => by omega) hz), hRd.upd hU6⟩)) ⟨rfl, rfl, rfl, rfl, rfl, trivial⟩ rfl
    ·skip
     refine bL (d := 35) rfl (b' := false) ((by rw[beq_eq_false_iff_ne]; exact h4)) ?_
     refine zin ⟨e0, e1⟩ fun zS => ?_
     refine zro 9 rfl zS (fun _ => RV.fa rfl) ?_
     refine zto 10 rfl zS (fun w1 hw1 => RV.ld hw1.2 rfl) ?_
     refine zro 11 rfl zS (fun _ => Ky rfl rfl) ?_
     refine zr 12 rfl zS (fun _ => aW rfl rfl) ?_
     refine zrm 13 rfl zS rfl ?_
     by_cases h6:k = 6
     ·skip
      refine bL (d := 40) rfl (b' := true) ((by rw[h6]; rfl)) ?_
      refine zin ⟨e0, e1⟩ fun zS => ?_
      refine zte 14 rfl rfl zS ?_
      refine zte 15 rfl rfl zS ?_
      refine zte 16 rfl rfl zS ?_
      refine zr 17 rfl zS (fun _ => aQ rfl rfl) ?_
      refine zrm 18 rfl zS rfl ?_
      refine zte 19 rfl rfl zS ?_
      refine zte 20 rfl rfl zS ?_
      refine zte 21 rfl rfl zS ?_
      refine zr 22 rfl zS (fun _ => aQ rfl rfl) ?_
      refine zr 23 rfl zS (fun _ => ah hrv5.sl.sh J7 (JA _) rfl rfl i rfl (by omega)) ?_
      refine Gc 24 (by kernel_rfl) rfl ?_
      refine JJ hrvd i (by omega) (true) (JA _) rfl (by omega) rfl rfl rfl rfl ?_
      intro w6 hrv6 hU6
      have hM6 := hMd.upd hU6 (by omega) (fun t ht => by omega)
      have hx6 := hxbd.upd hU6 (by decide) (by omega)
      refine ka ?_
      refine af ((cells5 w6 hM6 hx6)) ?_
      refine J8 (by kernel_rfl) ?_
      exact eD (hN (w6) (⟨hM6, hx6, by rw[hb0, decide_eq_true (Kz (KA h6))]; exact hrv6, hUd.trans (hU6.mono (fun _ h => by omega) hz), hRd.upd hU6⟩)) ⟨rfl, rfl, rfl, rfl, rfl, trivial⟩ rfl
     ·skip
      refine bL (d := 40) rfl (b' := false) ((by rw[beq_eq_false_iff_ne]; exact h6)) ?_
      refine zin ⟨e0, e1⟩ fun zS => ?_
      refine zro 14 rfl zS (fun _ => RV.fa rfl) ?_
      refine zto 15 rfl zS (fun w1 hw1 => RV.ld hw1.2 rfl) ?_
      refine zro 16 rfl zS (fun _ => Ky rfl rfl) ?_
      refine zr 17 rfl zS (fun _ => aW rfl rfl) ?_
      refine zrm 18 rfl zS rfl ?_
      by_cases h8:k = 8
      ·skip
       refine bL (d := 45) rfl (b' := true) ((by rw[h8]; rfl)) ?_
       refine zin ⟨e0, e1⟩ fun zS => ?_
       refine zte 19 rfl rfl zS ?_
       refine zte 20 rfl rfl zS ?_
       refine zte 21 rfl rfl zS ?_
       refine zr 22 rfl zS (fun _ => aQ rfl rfl) ?_
       refine zr 23 rfl zS (fun _ => ah hrv5.sl.sh J7 (JA _) rfl rfl i rfl (by omega)) ?_
       refine Gc 24 (by kernel_rfl) rfl ?_
       refine JJ hrvd i (by omega) (true) (JA _) rfl (by omega) rfl rfl rfl rfl ?_
       intro w6 hrv6 hU6
       have hM6 := hMd.upd hU6 (by omega) (fun t ht => by omega)
       have hx6 := hxbd.upd hU6 (by decide) (by omega)
       refine ka ?_
       refine af ((cells5 w6 hM6 hx6)) ?_
       refine J8 (by kernel_rfl) ?_
       exact eD (hN (w6) (⟨hM6, hx6, by rw[hb0, decide_eq_true (Kz (Kz (KA h8)))]; exact hrv6, hUd.trans (hU6.mono (fun _ h => by omega) hz), hRd.upd hU6⟩)) ⟨rfl, rfl, rfl, rfl, rfl, trivial⟩ rfl
      ·skip
       refine bL (d := 45) rfl (b' := false) ((by rw[beq_eq_false_iff_ne]; exact h8)) ?_
       refine zin ⟨e0, e1⟩ fun zS => ?_
       refine zro 19 rfl zS (fun _ => RV.fa rfl) ?_
       refine zto 20 rfl zS (fun w1 hw1 => RV.ld hw1.2 rfl) ?_
       refine zro 21 rfl zS (fun _ => Ky rfl rfl) ?_
       refine zr 22 rfl zS (fun _ => aW rfl rfl) ?_
       refine zr 23 rfl zS (fun _ => ah hrv5.sl.sh J7 (JA _) rfl rfl i rfl (by omega)) ?_
       refine Gc 24 (by kernel_rfl) rfl ?_
       refine JJ hrvd i (by omega) (k == 9) (JA _) rfl (by omega) rfl rfl rfl rfl ?_
       intro w6 hrv6 hU6
       have hM6 := hMd.upd hU6 (by omega) (fun t ht => by omega)
       have hx6 := hxbd.upd hU6 (by decide) (by omega)
       refine ka ?_
       refine af ((cells5 w6 hM6 hx6)) ?_
       refine J8 (by kernel_rfl) ?_
       exact eD (hN (w6) (⟨hM6, hx6, by rw[hb0, show decide (k = 4 ∨ k = 6 ∨ k = 8 ∨ k = 9) = (k == 9)from by rw[Lx]; simp[h4, h6, h8]]; exact hrv6, hUd.trans (hU6.mono (fun _ h => by omega) hz), hRd.upd hU6⟩)) ⟨rfl, rfl, rfl, rfl, rfl, trivial⟩ rfl
   rintro w7 ⟨hM7, hxb7, hrv7, hU7, hR7⟩
   refine az ?_
   have hrow := DH (k := k) (c := c) hlt hK
   rw[← hb0]at hrow
   have x7:w7.cell? (nA xb 0) = some (nI k) := hxb7.cell 0 rfl
   refine Gv ?_
   refine la ?_
   refine zv (ix rfl) ?_
   refine zv (JI rfl rfl (Jw (by omega))) ?_
   refine zv (ix rfl) ?_
   refine zv (KY rfl rfl) ?_
   refine zv (ix rfl) ?_
   refine aP (fun w1 => _ = w1) (decide (k < 4)) 3 (rfl) rfl rfl rfl rfl rfl ?_ ?_
   ·skip
    intro g1
    refine Cl rfl ?_
    refine zv (RV.fa rfl) ?_
    refine Cl rfl ?_
    refine zv (RV.ld x7 rfl) ?_
    refine Cl rfl ?_
    refine zv (KY rfl rfl) ?_
    refine ka ?_
    refine Cy (tA := 55) 4 (rfl) rfl rfl rfl (fun v hv => (LP hv).symm.trans (congrArg JQ g1)) rfl
   rintro _ rfl
   refine ka ?_
   refine az ?_
   refine iK (fun z:J1 => [(1, mv), (2, nP xb), (5, nI (K:Nat)), (6, ov), (7, nI (i:Nat))]) (fun z:J1 => z) (fun z:J1 => LL O4 z ov rs5 K (i + 1) (fc ms k c) ∧ JU O4 z 1 xb #[nI k, nI c, sv] 47 ∧ Jv (fun q => q = 1 ∨ q = 2 ∨ 10 ≤ q) (fun _ => 0) w O4 z ∧ KS w.heap.size O4 z) ?_ ?_
   ·intro hN
    have last:∀W, LL O4 W ov rs5 K i (fc ms k c) → JY cP 4 1 O4 W (10 + i) rv ((IJ K).map (fc ms k c i)) → LL O4 W ov rs5 K (i + 1) (fc ms k c) := fun W h1 h2 => ⟨h1.row, h1.len, fun t ht => by
     by_cases e:t = i
     ·subst e; rw[hmi]; exact h2
     ·exact h1.at_ t (by omega)⟩
    refine zC ?_ ?_
    ·intro hc
     have hc':i + 1 < K ∧ k < 4 := by
      rw[Kv]at hc
      have a1 := of_decide_eq_true hc.1
      have a2 := of_decide_eq_true hc.2
      exact⟨by omega, a2⟩
     rw[if_pos hc']at hrow
     have hXd := aa (S := fun _ => False) (fun h => h) O4 (J4 w7).drew
     have hMd := hM7.upd hXd (fun h => h) (fun _ _ h => h)
     have hxbd := hxb7.upd hXd (by decide) (fun h => h)
     have hUd := hU7.trans (hXd.mono (fun _ h => h.elim) hz)
     have hRd := hR7.upd hXd
     have hrvd := hrv7.upd hXd (by omega) (fun h => h)
     have him:i < ms.length := by omega
     have cells7:∀W, LL O4 W ov rs5 K i (fc ms k c) → JU O4 W 1 xb #[nI k, nI c, sv] 47 → Jv (fun q => q = 1 ∨ q = 2 ∨ 10 ≤ q) (fun _ => 0) w O4 W → W.cell? (adr ov 1 i) = some rv ∧ W.cell? (adr mv 1 i) = some (nI (nth ms i)) ∧ (∀j u, [nI k, nI c, sv][j]? = some u → W.cell? (nA xb j) = some u) := fun W hm' hb hu => by
      refine⟨?_, ?_, hb.cellsAdd⟩
      ·have := hm'.row.sl.cell (i := i) (j := 0) (by omega) rfl; rw[ao, hmi]at this; exact this
      ·have := (hm.upd hmf hu).cell (i := i) (j := 0) him rfl; rw[ao]at this; exact this
     have e5 := cells7 w7.drew hMd hxbd hUd
     have hm7 := hm.upd hmf hU7
     have hrl:((JB K false).set i b0).length = K := by simp
     refine aI (fun W => W.cell? (adr ov 1 i) = some rv ∧ W.cell? (adr mv 1 i) = some (nI (nth ms i)) ∧ (∀j u, [nI k, nI c, sv][j]? = some u → W.cell? (nA xb j) = some u)) 14 rfl (by kernel_rfl) ?_
     refine zrm 0 rfl e5 rfl ?_
     refine zrm 1 rfl e5 rfl ?_
     refine zr 2 rfl e5 (fun _ => ah hM7.row.sl.sh Ko (KQ _) rfl rfl i rfl (by omega)) ?_
     refine zt 3 rfl e5 (fun w1 hw1 => RV.ld hw1.1 rfl) ?_
     refine zrm 4 rfl e5 rfl ?_
     refine zr 5 rfl e5 (fun _ => JI rfl rfl (Jw (by omega))) ?_
     refine zt 6 rfl e5 (fun w1 hw1 => ai (us := [nI k, nI c, sv]) hw1.2.2 (Kd _) (JM _) rfl) ?_
     refine zrm 7 rfl e5 rfl ?_
     refine zrm 8 rfl e5 rfl ?_
     refine zr 9 rfl e5 (fun _ => ah hm7.sh J2 (Ju _) rfl rfl i rfl (by omega)) ?_
     refine zt 10 rfl e5 (fun w1 hw1 => RV.ld hw1.2.1 rfl) ?_
     refine Gc 11 (by kernel_rfl) rfl ?_
     refine zc call95 (ze k c (nth ms i) sv w7.drew) ?_
     rintro _ w9 ⟨rfl, hE9⟩
     have hX9 := aa (S := fun _ => False) (fun h => h) O4 hE9
     have hM9 := hMd.upd hX9 (fun h => h) (fun _ _ h => h)
     have hxb9 := hxbd.upd hX9 (by decide) (fun h => h)
     have hU9 := hUd.trans (hX9.mono (fun _ h => h.elim) hz)
     have hrv9:JY (fun x => [(fun b:Bool => JQ b) x]) 4 1 O4 w9 (10 + i) rv ((JB K false).set i b0) := hrvd.upd hX9 (by omega) (fun h => h)
     refine ka ?_
     refine af ((cells7 w9 hM9 hxb9 hU9)) ?_
     refine zr 12 rfl ((cells7 w9 hM9 hxb9 hU9)) (fun _ => ah hrv7.sl.sh J7 (JA _) rfl rfl (i + 1) rfl (by omega)) ?_
     refine Gc 13 (by kernel_rfl) rfl ?_
     refine JJ hrv9 (i + 1) (by omega) (FP k c (nth ms i)) (JA _) rfl (by omega) rfl rfl rfl rfl ?_
     intro w10 hrv10 hU10
     have hM10 := hM9.upd hU10 (by omega) (fun t ht => by omega)
     have hxb10 := hxb9.upd hU10 (by decide) (by omega)
     have hU010 := hU9.trans (hU10.mono (fun _ h => by omega) hz)
     refine ka ?_
     refine af ((cells7 w10 hM10 hxb10 hU010)) ?_
     refine J8 (by kernel_rfl) ?_
     exact eD (hN (w10) (⟨last w10 hM10 (by rw[hrow]; exact hrv10), hxb10, hU010, (hRd.upd hX9).upd hU10⟩)) ⟨rfl, rfl, rfl, rfl, rfl, trivial⟩ rfl
    ·intro hc
     have hc':¬(i + 1 < K ∧ k < 4) := fun h => by
      rw[decide_eq_true (show((i:Nat):Int) + 1 < ((K:Nat):Int) by omega), decide_eq_true h.2]at hc
      cases hc
     rw[if_neg hc']at hrow
     refine K2 ?_
     exact eD (hN (w7) (⟨last w7 hM7 (by rw[hrow]; exact hrv7), hxb7, hU7, hR7⟩)) ⟨rfl, rfl, rfl, rfl, rfl, trivial⟩ rfl
   rintro w8 ⟨hM8, hxb8, hU8, hR8⟩
   refine eh ?_
   refine az ?_
   refine la ?_
   refine zv (ix rfl) ?_
   refine zv (JI rfl rfl (Jw (by omega))) ?_
   refine zv (Gh rfl) ?_
   refine ka ?_
   refine zxd (i + 1, O4, w8, rs5) (⟨hlt, hM8, hxb8, hU8, hR8⟩)
  ·intro hge
   have hiK:i = K := by have := of_decide_eq_false hge; omega
   rw[hiK]at hMt
   have hE3 := hU3.ext
   have c30:w3.cell? (nA xb 0) = some (nI k) := hxb3.cell 0 rfl
   have c32:w3.cell? (nA xb 2) = some sv := hxb3.cell 2 rfl
   have hlen := hs.len_le
   obtain⟨R, hR⟩:∃R, R = dk ms k kids (fc ms k c) := ⟨_, rfl⟩
   rw[← hR]
   refine Ls ?_
   refine cT ?_
   refine cT ?_
   refine eY ?_
   refine az ?_
   refine Gv ?_
   refine Gv ?_
   refine la ?_
   refine zv (Gh rfl) ?_
   refine ka ?_
   refine az ?_
   refine JZ ?_
   refine zlp (fun z:Nat×J1×J5×Tb => [(1, mv), (2, nP xb), (5, nI (K:Nat)), (6, z.2.2.1), (8, nI (z.1:Nat))]) (fun z => z.2.1) (fun z => z.1 ≤ xs.length ∧ Ku w3 z.2.1 ∧ MatN w.heap.size z.2.1 z.2.2.1 K z.2.2.2 ∧ dk ms k (kids.drop z.1) z.2.2.2 = R) (fun z => xs.length - z.1) (0, w3, ov, fc ms k c) (⟨J3 _, J4 _, hMt.matN hR3, hR.symm⟩) ?_
   rintro⟨p, w4, out, f⟩ ⟨hp, hE4, hf4, heq⟩
   dsimp only at hp hE4 hf4 heq ⊢
   have hs4 := hs.ext (hE3.trans hE4)
   have d0 := hE4.cell c30
   have d2 := hE4.cell c32
   refine Gv ?_
   refine Gv ?_
   refine la ?_
   refine zv (ix rfl) ?_
   refine zv (RV.fa rfl) ?_
   refine zv (RV.ld d2 rfl) ?_
   refine zv (Kf (by first | exact hs4) Ld rfl) ?_
   refine zv (KY rfl rfl) ?_
   refine ka ?_
   refine az ?_
   refine zC ?_ ?_
   ·intro hlt
    replace hlt:p < xs.length := by have := of_decide_eq_true hlt; omega
    have hkz := bD kids p (by omega)
    rw[K0 (by omega), ← aB (show p < kids.length by omega), dk, ← hK]at heq
    refine K2 ?_
    refine az ?_
    refine Gv ?_
    refine JZ ?_
    refine Gv ?_
    refine la ?_
    refine zv (RV.fa rfl) ?_
    refine zv (RV.ld d2 rfl) ?_
    refine zv (ix rfl) ?_
    refine zv (JP (by first | exact hs4) Ld (JM _) rfl rfl _ rfl (by omega)) ?_
    refine zv (ai (us := aY (nth xs p)) (fun j u hu => hs4.cell hlt hu) (Kd _) (JM _) rfl) ?_
    refine zv (ix rfl) ?_
    refine zc Mb (gX ms mv hml n (nth kids p) (by omega) (nth xs p) w4 ((hk p hlt).ext (hE3.trans hE4)) (hm.ext (hE3.trans hE4))) ?_
    rintro tv w5 ⟨ht5, hE5⟩
    rw[← hK]at ht5
    have hf5 := hf4.mat.ext hE5
    have hE5' := (hE3.trans hE4).trans hE5
    replace ht5 := ht5.mat
    have d50 := hE5.cell d0
    refine zv (Gh rfl) ?_
    refine ka ?_
    refine az ?_
    refine Gv ?_
    refine la ?_
    refine zv (RV.fa rfl) ?_
    refine zv (RV.ld d50 rfl) ?_
    refine ka ?_
    refine az ?_
    refine JZ ?_
    refine Gv ?_
    refine la ?_
    refine zv (Ky rfl rfl) ?_
    refine zv (Gh rfl) ?_
    refine ka ?_
    refine az ?_
    by_cases h4:k = 4
    ·have hst:stepT K k f (bG ms (nth kids p)) = fun i j => gM f (bG ms (nth kids p)) i K j := by unfold stepT; rw[if_pos h4]
     rw[hst]at heq
     refine aZ rfl ((by rw[h4]; rfl)) ?_
     refine la ?_
     refine zv (ix rfl) ?_
     refine zv (ix rfl) ?_
     refine zc Ma (gW K f (bG ms (nth kids p)) out tv w5 hf5 ht5 (by omega)) ?_
     rintro ov6 w6 ⟨hf6, hE6⟩
     refine zv (Gh rfl) ?_
     refine ka ?_
     refine eh ?_
     refine eh ?_
     refine az ?_
     refine la ?_
     refine zv (ix rfl) ?_
     refine zv (JI rfl rfl (Jw (by omega))) ?_
     refine zv (Gh rfl) ?_
     refine ka ?_
     refine zxd (p + 1, w6, ov6, _) (⟨hlt, (hE4.trans hE5).trans hE6, hf6.mono hE5'.size, heq⟩)
    ·skip
     refine aS rfl ((by rw[beq_eq_false_iff_ne]; exact h4)) ?_
     refine Gv ?_
     refine Gv ?_
     refine la ?_
     refine zv (Ky rfl rfl) ?_
     refine zv (Gh rfl) ?_
     refine ka ?_
     refine az ?_
     by_cases h6:k = 6
     ·have hst:stepT K k f (bG ms (nth kids p)) = fun i j => f i j || DM K (bG ms (nth kids p)) K i j := by unfold stepT; rw[if_neg h4, if_pos (.inl h6)]
      rw[hst]at heq
      refine aZ rfl ((by rw[h6]; rfl)) ?_
      refine K2 ?_
      refine az ?_
      refine aZ rfl ((by rw[h6]; rfl)) ?_
      refine Gv ?_
      refine la ?_
      refine zv (ix rfl) ?_
      refine zv (Gh rfl) ?_
      refine ka ?_
      refine az ?_
      refine Gv ?_
      refine Gv ?_
      refine la ?_
      refine zv (Gh rfl) ?_
      refine ka ?_
      refine az ?_
      refine JZ ?_
      refine zlp (fun y:Nat×J1×J5 => [(1, mv), (2, nP xb), (5, nI (K:Nat)), (6, out), (8, nI (p:Nat)), (9, tv), (10, y.2.2), (11, nI (y.1:Nat))]) (fun y => y.2.1) (fun y => y.1 ≤ K ∧ Ku w5 y.2.1 ∧ MatV y.2.1 y.2.2 K (DM K (bG ms (nth kids p)) y.1)) (fun y => K - y.1) (0, w5, tv) (⟨J3 _, J4 _, ht5⟩) ?_
      rintro⟨r, w6, av⟩ ⟨hr, hE6, ha6⟩
      dsimp only at hr hE6 ha6 ⊢
      refine Gv ?_
      refine Gv ?_
      refine la ?_
      refine zv (ix rfl) ?_
      refine zv (ix rfl) ?_
      refine zv (KY rfl rfl) ?_
      refine ka ?_
      refine az ?_
      refine zC ?_ ?_
      ·intro hlt3
       replace hlt3:r < K := by have := of_decide_eq_true hlt3; omega
       refine K2 ?_
       refine az ?_
       refine Gv ?_
       refine JZ ?_
       refine la ?_
       refine zv (ix rfl) ?_
       refine zv (ix rfl) ?_
       refine zv (ix rfl) ?_
       refine zc Ma (gW K _ _ av tv w6 ha6 (ht5.ext hE6) (by omega)) ?_
       rintro bv w7 ⟨hb7, hE7⟩
       refine zc Lz (dG K _ _ av bv w7 (ha6.ext hE7) hb7.mat (by omega)) ?_
       rintro cv w8 ⟨hc8, hE8⟩
       refine zv (Gh rfl) ?_
       refine ka ?_
       refine eh ?_
       refine az ?_
       refine la ?_
       refine zv (ix rfl) ?_
       refine zv (JI rfl rfl (Jw (by omega))) ?_
       refine zv (Gh rfl) ?_
       refine ka ?_
       refine zxd (r + 1, w8, cv) (⟨hlt3, (hE6.trans hE7).trans hE8, hc8.mat⟩)
      ·intro hge3
       have hrK:r = K := by have := of_decide_eq_false hge3; omega
       rw[hrK]at ha6
       refine Ls ?_
       refine cT ?_
       refine cT ?_
       refine eY ?_
       refine az ?_
       refine la ?_
       refine zv (ix rfl) ?_
       refine zv (ix rfl) ?_
       refine zc Lz (dG K f _ out av w6 (hf5.ext hE6) ha6 (by omega)) ?_
       rintro ov7 w7 ⟨hf7, hE7⟩
       refine zv (Gh rfl) ?_
       refine ka ?_
       refine eh ?_
       refine eh ?_
       refine az ?_
       refine la ?_
       refine zv (ix rfl) ?_
       refine zv (JI rfl rfl (Jw (by omega))) ?_
       refine zv (Gh rfl) ?_
       refine ka ?_
       refine zxd (p + 1, w7, ov7, _) (⟨hlt, ((hE4.trans hE5).trans hE6).trans hE7, hf7.mono (hE5'.trans hE6).size, heq⟩)
     ·skip
      refine aS rfl ((by rw[beq_eq_false_iff_ne]; exact h6)) ?_
      refine la ?_
      refine zv (Ky rfl rfl) ?_
      refine zv (Gh rfl) ?_
      refine ka ?_
      refine az ?_
      by_cases h7:k = 7
      ·have hst:stepT K k f (bG ms (nth kids p)) = fun i j => f i j || DM K (bG ms (nth kids p)) K i j := by unfold stepT; rw[if_neg h4, if_pos (.inr h7)]
       rw[hst]at heq
       refine aZ rfl ((by rw[h7]; rfl)) ?_
       refine Gv ?_
       refine la ?_
       refine zv (ix rfl) ?_
       refine zv (Gh rfl) ?_
       refine ka ?_
       refine az ?_
       refine Gv ?_
       refine Gv ?_
       refine la ?_
       refine zv (Gh rfl) ?_
       refine ka ?_
       refine az ?_
       refine JZ ?_
       refine zlp (fun y:Nat×J1×J5 => [(1, mv), (2, nP xb), (5, nI (K:Nat)), (6, out), (8, nI (p:Nat)), (9, tv), (10, y.2.2), (11, nI (y.1:Nat))]) (fun y => y.2.1) (fun y => y.1 ≤ K ∧ Ku w5 y.2.1 ∧ MatV y.2.1 y.2.2 K (DM K (bG ms (nth kids p)) y.1)) (fun y => K - y.1) (0, w5, tv) (⟨J3 _, J4 _, ht5⟩) ?_
       rintro⟨r, w6, av⟩ ⟨hr, hE6, ha6⟩
       dsimp only at hr hE6 ha6 ⊢
       refine Gv ?_
       refine Gv ?_
       refine la ?_
       refine zv (ix rfl) ?_
       refine zv (ix rfl) ?_
       refine zv (KY rfl rfl) ?_
       refine ka ?_
       refine az ?_
       refine zC ?_ ?_
       ·intro hlt3
        replace hlt3:r < K := by have := of_decide_eq_true hlt3; omega
        refine K2 ?_
        refine az ?_
        refine Gv ?_
        refine JZ ?_
        refine la ?_
        refine zv (ix rfl) ?_
        refine zv (ix rfl) ?_
        refine zv (ix rfl) ?_
        refine zc Ma (gW K _ _ av tv w6 ha6 (ht5.ext hE6) (by omega)) ?_
        rintro bv w7 ⟨hb7, hE7⟩
        refine zc Lz (dG K _ _ av bv w7 (ha6.ext hE7) hb7.mat (by omega)) ?_
        rintro cv w8 ⟨hc8, hE8⟩
        refine zv (Gh rfl) ?_
        refine ka ?_
        refine eh ?_
        refine az ?_
        refine la ?_
        refine zv (ix rfl) ?_
        refine zv (JI rfl rfl (Jw (by omega))) ?_
        refine zv (Gh rfl) ?_
        refine ka ?_
        refine zxd (r + 1, w8, cv) (⟨hlt3, (hE6.trans hE7).trans hE8, hc8.mat⟩)
       ·intro hge3
        have hrK:r = K := by have := of_decide_eq_false hge3; omega
        rw[hrK]at ha6
        refine Ls ?_
        refine cT ?_
        refine cT ?_
        refine eY ?_
        refine az ?_
        refine la ?_
        refine zv (ix rfl) ?_
        refine zv (ix rfl) ?_
        refine zc Lz (dG K f _ out av w6 (hf5.ext hE6) ha6 (by omega)) ?_
        rintro ov7 w7 ⟨hf7, hE7⟩
        refine zv (Gh rfl) ?_
        refine ka ?_
        refine eh ?_
        refine eh ?_
        refine az ?_
        refine la ?_
        refine zv (ix rfl) ?_
        refine zv (JI rfl rfl (Jw (by omega))) ?_
        refine zv (Gh rfl) ?_
        refine ka ?_
        refine zxd (p + 1, w7, ov7, _) (⟨hlt, ((hE4.trans hE5).trans hE6).trans hE7, hf7.mono (hE5'.trans hE6).size, heq⟩)
      ·have hst:stepT K k f (bG ms (nth kids p)) = fun i j => f i j || bG ms (nth kids p) i j := by unfold stepT; rw[if_neg h4, if_neg (fun h => h.elim h6 h7)]
       rw[hst]at heq
       refine aS rfl ((by rw[beq_eq_false_iff_ne]; exact h7)) ?_
       refine la ?_
       refine zv (ix rfl) ?_
       refine zv (ix rfl) ?_
       refine zc Lz (dG K f _ out tv w5 hf5 ht5 (by omega)) ?_
       rintro ov6 w6 ⟨hf6, hE6⟩
       refine zv (Gh rfl) ?_
       refine ka ?_
       refine eh ?_
       refine eh ?_
       refine az ?_
       refine la ?_
       refine zv (ix rfl) ?_
       refine zv (JI rfl rfl (Jw (by omega))) ?_
       refine zv (Gh rfl) ?_
       refine ka ?_
       refine zxd (p + 1, w6, ov6, _) (⟨hlt, (hE4.trans hE5).trans hE6, hf6.mono hE5'.size, heq⟩)
   ·intro hge2
    have hpx:p = xs.length := by have := of_decide_eq_false hge2; omega
    rw[KP (by omega), dk]at heq
    subst heq
    refine Ls ?_
    refine cT ?_
    refine cT ?_
    refine eY ?_
    refine az ?_
    refine Gv ?_
    refine la ?_
    refine zv (ix rfl) ?_
    refine zv (Gh rfl) ?_
    refine ka ?_
    refine az ?_
    refine Lj ?_
    refine ae rfl rfl (⟨hf4, hE3.trans hE4⟩)
section
variable{α:Type}
def gR(n:Nat)(f:Nat->α)(z:α)(k:Nat):List α:=(IJ k).map f++JB (n-k) z
theorem uw(n:Nat)(f:Nat->α)(z:α){k:Nat}(h:k<=n):(gR n f z k).length=n:=by simp[gR];omega
theorem qy(n:Nat)(f:Nat->α)(z:α):gR n f z 0=JB n z:=by simp[gR]
theorem B1(n:Nat)(f:Nat->α)(z:α):gR n f z n=(IJ n).map f:=by simp[gR]
theorem oD(n:Nat)(f:Nat->α)(z:α){k:Nat}(h:k<n):(gR n f z k).set k (f k)=gR n f z (k+1):=by
 unfold gR;rw[List.set_append_right _ _ (by simp),KB,JG];obtain⟨d,hd⟩:∃d,n-k=d+1:=⟨n-k-1,zo⟩
 rw[hd,show n-(k+1)=d from by omega];simp[L5]
theorem zI(n:Nat)(f:Nat->α)(z:α){k:Nat}(h:k<n)(hz:f k=z):gR n f z k=gR n f z (k+1):=by
 unfold gR;rw[KB,JG,Js];obtain⟨d,hd⟩:∃d,n-k=d+1:=⟨n-k-1,zo⟩
 rw[hd,show n-(k+1)=d from by omega,L5];simp[hz]
theorem rI[Inhabited α](f:Nat->α){n j:Nat}(h:j<n):nth ((IJ n).map f) j=f j:=by
 rw[aB (by simpa using h),JK,JD]
def uU(n:Nat)(p q:Nat->α)(j:Nat):List α:=(IJ n).map fun t=>if t<j then p t else q t
theorem Da(n:Nat)(p q:Nat->α)(j:Nat):(uU n p q j).length=n:=by simp[uU]
theorem Bh(n:Nat)(p q:Nat->α):uU n p q 0=(IJ n).map q:=by simp[uU]
theorem Db(n:Nat)(p q:Nat->α):uU n p q n=(IJ n).map p:=by
 unfold uU;exact L6 fun t ht=>if_pos (List.mem_range.1 ht)
theorem C9(n:Nat)(p q:Nat->α){j:Nat}:(uU n p q j).set j (p j)=uU n p q (j+1):=by
 unfold uU;refine JC (by simp) fun t h1 h2=>?_
 simp only[List.getElem_set,JK,JD]
 by_cases e:j=t
 ·subst e;rw[if_pos rfl,if_pos zo]
 rw[if_neg e]
 by_cases e2:t<j
 ·rw[if_pos e2,if_pos zo]
 rw[if_neg e2,if_neg zo]
theorem tI(n:Nat)(p q:Nat->α){j:Nat}(h:p j=q j):uU n p q j=uU n p q (j+1):=by
 unfold uU;refine L6 fun t _=>?_
 by_cases e:t=j
 ·subst e;rw[if_neg zo,if_pos zo,h]
 by_cases e2:t<j
 ·rw[if_pos e2,if_pos zo]
 rw[if_neg e2,if_neg zo]
end
def jq(li lk ids:List Int):Nat->List Int
 |0=>[36]
 |k+1=>if gL li lk ids k=true then jq li lk ids k else jq li lk ids k++[((aJ (nth ids k):Nat):Int)]
theorem qP(li lk ids:List Int):∀k,(jq li lk ids k).length<=k+1/\1<=(jq li lk ids k).length
 |0=>⟨I4 _,I4 _⟩
 |k+1=>by
  obtain⟨h1,h2⟩:=qP li lk ids k;unfold jq
  split
  ·exact⟨zo,h2⟩
  rw[Jn,J9];exact⟨zo,zo⟩
theorem sP(li lk ids:List Int): ∀ {k n:Nat}, k ≤ n → ∃r, jq li lk ids n = jq li lk ids k ++ r
  | k, 0, h => by obtain rfl : k = 0 := by omega
                  exact⟨[], by simp⟩
  |k, n + 1, h => by
    by_cases e:k = n + 1
    · subst e; exact⟨[], by simp⟩
    · obtain⟨r, hr⟩ := sP li lk ids (show k ≤ n by omega)
      rw[jq]
      split
      · exact⟨r, hr⟩
      · rw[hr, Js]; exact⟨_, rfl⟩
def atN(li lk ids:List Int)(i:Nat):Nat:=if gL li lk ids i=true then 0 else(jq li lk ids i).length
theorem G6(li lk ids:List Int){i n:Nat}(h:i<=n):atN li lk ids i<=(jq li lk ids n).length:=by
 unfold atN
 split
 ·exact J3 _
 obtain⟨r,hr⟩:=sP li lk ids h;rw[hr,Jn];omega
def lj(f:Tb)(a:Nat):Nat->Bool
 |0=>false
 |k+1=>lj f a k||f k a
theorem oR(f:Tb)(a:Nat):∀k,lj f a k=true↔∃m,m<k/\f m a=true
 |0=>by simp[lj]
 |k+1=>by
  unfold lj;rw[KF,oR f a k]
  constructor
  ·rintro(⟨m,h1,h2⟩|h)
   ·exact⟨m,zo,h2⟩
   exact⟨k,zo,h⟩
  rintro⟨m,h1,h2⟩
  by_cases e:m=k
  ·subst e;exact .inr h2
  exact .inl ⟨m,zo,h2⟩
def gE(f:Tb)(a:Nat):Nat->Bool
 |0=>false
 |k+1=>gE f a k||f a (a+k)
theorem mD(f:Tb)(a:Nat):∀k,gE f a k=true↔∃m,m<k/\f a (a+m)=true
 |0=>by simp[gE]
 |k+1=>by
  unfold gE;rw[KF,mD f a k]
  constructor
  ·rintro(⟨m,h1,h2⟩|h)
   ·exact⟨m,zo,h2⟩
   exact⟨k,zo,h⟩
  rintro⟨m,h1,h2⟩
  by_cases e:m=k
  ·subst e;exact .inr h2
  exact .inl ⟨m,zo,h2⟩
def Cf(ms:List Int)(x:R3)(a:Nat):Bool:=lj (bG ms x.1) a (a+1)&&gE (bG ms x.2.1) a (ms.length+1-a)
def oC(ms:List Int)(a:Nat):List R3->Nat->Int
 |[],_=>-1
 |x::l,r=>if Cf ms x a=true then(r:Int)else oC ms a l (r+1)
theorem gC(ms:List Int)(a:Nat):∀(l:List R3) (r:Nat),(oC ms a l r = -1/\∀i,i<l.length->Cf ms (nth l i) a=false)\/∃i,i<l.length/\oC ms a l r=((r+i:Nat):Int)/\Cf ms (nth l i) a=true/\∀j,j<i->Cf ms (nth l j) a=false
 |[],r=>.inl ⟨rfl,fun i hi=>absurd hi (Jq i)⟩
 |x::l,r=>by
  unfold oC
  by_cases hx:Cf ms x a=true
  ·rw[if_pos hx];exact .inr ⟨0,Nat.succ_pos _,rfl,by rw[ar];exact hx,fun j hj=>absurd hj (Jq j)⟩
  rw[if_neg hx];have a0:Cf ms x a=false:=by simpa using hx
  rcases gC ms a l (r+1)with⟨h1,h2⟩|⟨i,h1,h2,h3,h4⟩
  ·refine .inl ⟨h1,fun i hi=>?_⟩
   cases i with
   |zero=>rw[ar];exact a0
   |succ i=>rw[bd];exact h2 i (by simpa using hi)
  refine .inr ⟨i+1,by simpa using h1,by rw[h2];congr 1;omega,by rw[bd];exact h3,fun j hj=>?_⟩
  cases j with
  |zero=>rw[ar];exact a0
  |succ j=>rw[bd];exact h4 j zo
def bu(li lk ids:List Int)(ts:List R3)(r i:Nat):Int:=if gL li lk ids i=true then -2 else oC (jq li lk ids ids.length) (atN li lk ids i) (ts.drop r) r
def mj(li lk ids:List Int)(ts:List R3):List Int:=(IJ ids.length).map (bu li lk ids ts 0)
def dM(li lk ids:List Int)(ts:List R3)(i:Nat):Bool:=bu li lk ids ts 0 i == -1||(decide (0<=bu li lk ids ts 0 i)&&(nth ts (bu li lk ids ts 0 i).toNat).2.2)
def jT(li lk ids:List Int)(ts:List R3):List Bool:=true::(IJ (ids.length-1)).map (fun i=>dM li lk ids ts (i+1))++if 0<ids.length then [true]else []
theorem xo{ms:List Int}{t:Nd}(h:bj t=true){a:Nat}(ha:a<=ms.length):lj (bG ms t) a (a+1)=true↔∃u v,ms.take a=u++v/\Lg t v:=by
 rw[oR];have hS:=og ms h
 constructor
 ·rintro⟨m,h1,h2⟩;obtain⟨_,h3⟩:=(hS m a zo ha).1 h2;refine⟨ms.take m,seg ms m a,?_,h3⟩;have:=vm ms (J3 m) (show m<=a by omega);simpa[seg]using this
 rintro⟨u,v,e,h3⟩;have hl:=congrArg Kw e;rw[List.length_take,Jn]at hl;have e0:seg ms 0 a=u++v:=by simpa[seg]using e
 obtain⟨s1,s2,s3⟩:=te (J3 a) ha e0;rw[KT]at s1 s3;exact⟨u.length,zo,(hS _ a zo ha).2 ⟨s1,s3▸h3⟩⟩
theorem uH{ms:List Int}{t:Nd}(h:bj t=true){a:Nat}(ha:a<=ms.length):gE (bG ms t) a (ms.length+1-a)=true↔∃u v,ms.drop a=u++v/\Lg t u:=by
 rw[mD];have hS:=og ms h
 constructor
 ·rintro⟨m,h1,h2⟩;obtain⟨_,h3⟩:=(hS a (a+m) ha zo).1 h2;refine⟨seg ms a (a+m),ms.drop (a+m),?_,h3⟩;unfold seg;rw[show a+m-a=m from by omega,<-Ly,K8]
 rintro⟨u,v,e,h3⟩;have hl:=congrArg Kw e;rw[Lm,Jn]at hl;refine⟨u.length,zo,(hS a _ ha zo).2 ⟨zo,?_⟩⟩;unfold seg;rw[show a+u.length-a=u.length from by omega,e,K5]
 ·exact h3
 rfl
theorem uq{ms:List Int}{ts:List R3}(hr:∀t∈ts,bj t.1=true/\bj t.2.1=true){a:Nat}(ha:a<=ms.length){a0 after:List Nat}(hb:ints a0=ms.take a)(hf:ints after=ms.drop a):KV ts a0 after (oC ms a ts 0):=by
 have a1:∀i,jY ts a0 after i↔i<ts.length/\Cf ms (nth ts i) a=true:=fun i=>by
  unfold jY;refine and_congr_right fun hi=>?_
  obtain⟨r1,r2⟩:=hr _ (aO hi);unfold Cf;rw[Kv,xo r1 ha,uH r2 ha,hb,hf,dI hi,dI hi]
 rcases gC ms a ts 0 with⟨h1,h2⟩|⟨i,h1,h2,h3,h4⟩
 ·refine .inl ⟨h1,fun i hi=>?_⟩;obtain⟨k1,k2⟩:=(a1 i).1 hi;rw[h2 i k1]at k2;cases k2
 refine .inr ⟨i,by rw[h2,KT],(a1 i).2 ⟨h1,h3⟩,fun j hj hA=>?_⟩;have:=((a1 j).1 hA).2;rw[h4 j hj]at this;cases this
theorem xP{l:List Int}(h:∀c∈l,0<=c/\c<=35)(c:Nat):(cY l).testBit c=decide ((c:Int)∈l):=by
 have a0:∀(l:List Int),(∀c∈l,0<=c/\c<=35)->∀b:Nat,(l.foldl (fun b c=>b ||| 2^c.toNat) b).testBit c=(b.testBit c||decide ((c:Int)∈l)):=by
  intro l
  induction l with
  |nil=>intro _ b;simp
  |cons x r ih=>
   intro hl b;have hx:=hl x (by simp);rw[List.foldl_cons,ih (fun y hy=>hl y (by simp[hy])),Nat.testBit_or,Nat.testBit_two_pow,Bool.or_assoc];congr 1;rw[Lx,KF,decide_eq_true_eq,decide_eq_true_eq,decide_eq_true_eq,Ji];refine or_congr_left ?_;omega
 have:=a0 l h 0;simpa[cY]using this
theorem np(t:Me)(li lk ids:List Int)(a1:∀c:Nat,t.ig.testBit c=decide ((c:Int)∈li))(a0:∀c:Nat,t.kp.testBit c=decide ((c:Int)∈lk)):∀(r:List Int) (k:Nat),r=ids.drop (k+1)->∀j,j<r.length->nth (pJ t (aJ (nth ids k),gL li lk ids k) r) j=(aJ (nth ids (k+1+j)),gL li lk ids (k+1+j))
 |[],_,_,j,hj=>absurd hj (Jq j)
 |c::r,k,e,j,hj=>by
  have hk:k+1<ids.length:=by
   refine M6 fun hn=>?_
   rw[KP zo]at e;cases e
  rw[K0 hk,<-aB hk]at e;obtain⟨rfl,e2⟩:=La e;have hh:(t.ig.testBit (aJ (nth ids (k+1)))&&(gL li lk ids k || !(t.kp.testBit (aJ (nth ids k)))))=gL li lk ids (k+1):=by rw[a1,a0,gL]
  unfold pJ;dsimp only;rw[hh]
  cases j with
  |zero=>rw[ar,Km]
  |succ j=>
   rw[bd,np t li lk ids a1 a0 r (k+1) e2 j (by simpa using hj),show k+1+(j+1)=k+1+1+j from by omega]
theorem uZ(t:Me)(li lk:List Int)(c:Int)(r:List Int)(a1:∀c:Nat,t.ig.testBit c=decide ((c:Int)∈li))(a0:∀c:Nat,t.kp.testBit c=decide ((c:Int)∈lk)):∀n,n<=r.length->jq li lk (c::r) (n+1)=ints ([36,aJ c]++ff ((pJ t (aJ c,false) r).take n))
 |0,_=>by
  unfold jq jq;rw[Kc,if_neg (by rw[gL];simp),ar];rfl
 |n+1,hn=>by
  have hL:=kN t r (aJ c,false);have hx:=np t li lk (c::r) a1 a0 r 0 rfl n hn;rw[ar,show gL li lk (c::r) 0=false from rfl,show 0+1+n=n+1 from by omega]at hx;rw[jq,uZ t li lk c r a1 a0 n zo,aR zo,hx,mX,<-Js];generalize [36,aJ c]++ff ((pJ t (aJ c,false) r).take n)=X
  cases gL li lk (c::r) (n+1)with
  |true=>
   show ints X=ints (X++[]);rw[K6]
  |false=>
   show ints X++[((aJ (nth (c::r) (n+1)):Nat):Int)]=ints (X++[aJ (nth (c::r) (n+1))]);unfold ints;rw[JG];rfl
section
variable{li lk:List Int}{ts:List R3}{a b:List (List Nat)×List Nat}{clA clB:Nat→Nat}
theorem Made.ig(h:L3 li lk ts a b clA clB)(c:Nat):(bW li lk ts a b clA clB).ig.testBit c=decide ((c:Int)∈li):=xP (eo h.rt).2.1 c
theorem Made.kp(h:L3 li lk ts a b clA clB)(c:Nat):(bW li lk ts a b clA clB).kp.testBit c=decide ((c:Int)∈lk):=xP (eo h.rt).2.2.1 c
theorem Made.row(h:L3 li lk ts a b clA clB)(c:Int):stL (bW li lk ts a b clA clB) (stL (bW li lk ts a b clA clB) 0 36) (aJ c)=jj (aU clA a.1 a.2).1 [36,aJ c] 0:=by
 have h0:=(h.left [] (fun m hm=>by cases hm)).1;have h1:=(h.left [36] (fun m hm=>by rw[GT.1 hm];decide)).1;rw[h.inv.left 0 36 h0 zd];have hc:=cy c;exact h.inv.left _ _ h1 zo
theorem ml(hr:∀t∈ts,bj t.1=true/\bj t.2.1=true)(t:Me)(c:Int)(r:List Int)(a1:∀c:Nat,t.ig.testBit c=decide ((c:Int)∈li))(a0:∀c:Nat,t.kp.testBit c=decide ((c:Int)∈lk)){n:Nat}(hn:n<r.length)(hh:gL li lk (c::r) (n+1)=false):
  KV ts ([36,aJ c]++ff ((pJ t (aJ c,false) r).take n)) (ff ((pJ t (aJ c,false) r).drop n)) (bu li lk (c::r) ts 0 (n+1)):=by
 have hL:=kN t r (aJ c,false);have hw:=uZ t li lk c r a1 a0 n zo;have hN:=uZ t li lk c r a1 a0 r.length (I4 _);rw[List.take_of_length_le zo]at hN;have a2:ff (pJ t (aJ c,false) r)=ff ((pJ t (aJ c,false) r).take n)++ff ((pJ t (aJ c,false) r).drop n):=by rw[<-mX,K8]
 have hA:atN li lk (c::r) (n+1)=(jq li lk (c::r) (n+1)).length:=by unfold atN;rw[hh];rfl
 have e0:jq li lk (c::r) (c::r).length=jq li lk (c::r) (n+1)++ints (ff ((pJ t (aJ c,false) r).drop n)):=by
  rw[hw,Kr,hN,a2,<-Js];unfold ints;rw[JG]
 unfold bu;rw[hh,if_neg zd,JW,hA,e0];refine uq hr (by rw[Jn];omega) ?_ ?_
 ·rw[K5 rfl,hw]
 rw[Lv rfl]
theorem zU(li lk ids:List Int)(ts:List R3)(i:Nat):dM li lk ids ts i=if gL li lk ids i=true then false else brk ts (bu li lk ids ts 0 i):=by
 unfold dM brk
 split
 ·rename_i hh;have:bu li lk ids ts 0 i = -2:=by unfold bu;rw[if_pos hh]
  rw[this];rfl
 rename_i hh;have hk : -1<=bu li lk ids ts 0 i:=by
  unfold bu;rw[if_neg hh]
  rcases gC (jq li lk ids ids.length) (atN li lk ids i) (ts.drop 0) 0 with⟨h1,_⟩|⟨_,_,h1,_⟩<;>rw[h1]<;>omega
 generalize bu li lk ids ts 0 i=k at *
 by_cases e:k = -1
 ·subst e;rfl
 rw[decide_eq_false (show¬k<0 by omega),decide_eq_true (show 0<=k by omega),KL,Bool.true_and,show(k == -1)=false from by simpa using e,KL]
theorem Made.rules2(h:L3 li lk ts a b clA clB):∀t∈ts,bj t.1=true/\bj t.2.1=true:=fun t ht=>⟨(h.rules t ht).1,(h.rules t ht).2.1⟩
theorem Made.breaks(h:L3 li lk ts a b clA clB)(ids:List Int)(hn:ids.length<=100000):oN (bW li lk ts a b clA clB) ids=jT li lk ids ts:=by
 cases ids with
 |nil=>rfl
 |cons c r=>
  obtain⟨p1,p2⟩:=mu (bW li lk ts a b clA clB) c r;unfold oN jT;rw[p1,p2,h.row,Kr,Nat.add_sub_cancel];congr 2;have hL:=kN (bW li lk ts a b clA clB) r (aJ c,false);have a0:∀m∈[36,aJ c],m<37:=fun m hm=>by
   have:=cy c;simp only[Ji,JS,or_false]at hm;omega
  refine JC (by rw[lX,hL];simp) fun i h1 h2=>?_
  have hi:i<r.length:=by simpa using h2
  rw[<-aB h1,JK,JD];obtain⟨k,k1,k2⟩:=h.closeL (pJ (bW li lk ts a b clA clB) (aJ c,false) r) [36,aJ c] a0 (xa _ _ _) (by rw[hL];simp at hn;omega) i zo;have hx:=np (bW li lk ts a b clA clB) li lk (c::r) h.ig h.kp r 0 rfl i hi;rw[ar,show gL li lk (c::r) 0=false from rfl,show 0+1+i=i+1 from by omega]at hx;rw[k2,hx,zU]
  cases hh:gL li lk (c::r) (i+1)with
  |true=>rfl
  |false=>
   have:=ml h.rules2 _ c r h.ig h.kp hi hh;rw[this.uniq k1];rfl
end
theorem nw:∀l:List En,iy l=(ff l).length
 |[]=>rfl
 |(c,h)::r=>by
  have ih:=nw r;unfold iy at ih ⊢;unfold ff
  cases h with
  |true=>simpa using ih
  |false=>simpa using ih
def dW:List En->Nat
 |[]=>0
 |x::r=>if xU (x::r)=true then dW r+1 else 0
theorem nN:∀l:List En,dW l<=l.length
 |[]=>I4 _
 |x::r=>by
  have:=nN r;unfold dW
  split
  ·simpa using this
  exact J3 _
section
variable{li lk:List Int}{ts:List R3}{a b:List (List Nat)×List Nat}{clA clB:Nat→Nat}
theorem Made.more(h:L3 li lk ts a b clA clB){a0 x y:List Nat}(h4:4<=x.length){k:Int}(hk:KV ts a0 (x++y) k):KV ts a0 x k:=by
 have a1:∀i,jY ts a0 x i↔jY ts a0 (x++y) i:=fun i=>by
  unfold jY;refine and_congr_right fun hi=>and_congr_right fun _=>?_
  constructor
  ·rintro⟨u,v,e,hu⟩;exact⟨u,v++ints y,by unfold ints at e ⊢;rw[JG,e,Js],hu⟩
  rintro⟨u,v,e,hu⟩
  have a2:u.length<=4:=Dn (by
   rw[dI hi]
   exact(h.rules _ (aO hi)).2.2) hu
  have e2:u=(ints x).take u.length:=by
   have e3:=congrArg (List.take u.length) e;rw[K5 rfl]at e3;refine e3.symm.trans ?_;unfold ints;rw[JG,List.take_append_of_le_length (by rw[KE];omega)]
  exact⟨u,(ints x).drop u.length,(K8 u.length (ints x)).symm.trans (congrArg (· ++ (ints x).drop u.length) e2.symm),hu⟩
 rcases hk with⟨h1,h2⟩|⟨i,h1,h2,h3⟩
 ·exact .inl ⟨h1,fun i hA=>h2 i ((a1 i).1 hA)⟩
 exact .inr ⟨i,h1,(a1 i).2 h2,fun j hj hA=>h3 j hj ((a1 j).1 hA)⟩
theorem Made.pushL(h:L3 li lk ts a b clA clB)(r:List En):∀(l:List En) (a0:List Nat),(∀m∈a0,m<37)->(∀y∈l,y.1<36)->l.length<=1000000->
  (pushL (bW li lk ts a b clA clB) l (jj (aU clA a.1 a.2).1 a0 0)).1.length=dW l/\
  (pushL (bW li lk ts a b clA clB) l (jj (aU clA a.1 a.2).1 a0 0)).2=(l.drop (dW l),jj (aU clA a.1 a.2).1 (a0++ff (l.take (dW l))) 0)/\
  ∀i,i<dW l->∀k,KV ts (a0++ff (l.take i)) (ff (l.drop i++r)) k->nth (pushL (bW li lk ts a b clA clB) l (jj (aU clA a.1 a.2).1 a0 0)).1 i=(!(nth l i).2&&brk ts k)
 |[],a0,_,_,_=>⟨rfl,by unfold GY dW ff;simp,fun i hi=>absurd hi (Jq i)⟩
 |x::l,a0,hb,hl,hf=>by
  obtain⟨s1,s2⟩:=h.stepL x (hl x (by simp)) a0 hb;unfold GY dW
  by_cases hr:xU (x::l)=true
  ·rw[if_pos hr,if_pos hr,s1];obtain⟨p1,p2⟩:=h.passB (x::l) x hl hf a0 hb;obtain⟨i1,i2,i3⟩:=Made.pushL h r l (a0++ff [x]) s2 (fun y hy=>hl y (by simp[hy])) (by simp at hf;omega);refine⟨by dsimp only;rw[Kr,i1],?_,fun i hi k hk=>?_⟩
   ·dsimp only;rw[i2,L7,L4,show x::l.take (dW l)=[x]++l.take (dW l)from rfl,mX,Js]
   dsimp only
   cases i with
   |zero=>
    rw[ar,ar,p2]
    cases hx:x.2 with
    |true=>rfl
    |false=>
     have h4:4<=(ff (x::l)).length:=by
      rw[<-nw];have a1:(x.2||decide (4<=iy (x::l)))=true:=hr;rw[hx,KL]at a1;exact of_decide_eq_true a1
     rw[Kc,JW,show ff []=[]from rfl,K6,mX]at hk;rw[(h.more h4 hk).uniq p1]
   |succ i=>
    rw[bd,bd];refine i3 i zo k ?_;rw[L4,L7,show x::l.take i=[x]++l.take i from rfl,mX,<-Js]at hk;exact hk
  rw[if_neg hr,if_neg hr];exact⟨rfl,by rw[JW,Kc,show ff []=[]from rfl,K6],fun i hi=>absurd hi (Jq i)⟩
end
theorem gU{w:J1}{ru:J5}{xs:List X3}(h:Sl cj 7 w ru xs){k:Nat}(hk:k<xs.length):(∀j u,(aY (nth xs k).1)[j]? = some u->w.cell? (((adr ru 7 k).add 0).add j)=some u)/\(∀j u,(aY (nth xs k).2.1)[j]? = some u->w.cell? (((adr ru 7 k).add 3).add j)=some u)/\w.cell? ((adr ru 7 k).add 6)=some (.bool (nth xs k).2.2):=by
 refine⟨fun j u hu=>?_,fun j u hu=>?_,h.cell hk (j:=6) rfl⟩
 ·match j,hu with
  |0,hu=>exact h.cell hk (j:=0) hu
  |1,hu=>exact h.cell hk (j:=1) hu
  |2,hu=>exact h.cell hk (j:=2) hu
  |j+3,hu=>simp at hu
 match j,hu with
 |0,hu=>exact h.cell hk (j:=3) hu
 |1,hu=>exact h.cell hk (j:=4) hu
 |2,hu=>exact h.cell hk (j:=5) hu
 |j+3,hu=>simp at hu
theorem pR{li lk ids:List Int}{ts:List R3}{i:Nat}(r:Nat)(h:gL li lk ids i=true):bu li lk ids ts r i = -2:=by unfold bu;rw[if_pos h]
theorem uY{li lk ids:List Int}{ts:List R3}{i k:Nat}(hk:k<ts.length)(h:gL li lk ids i=false):bu li lk ids ts k i=if Cf (jq li lk ids ids.length) (nth ts k) (atN li lk ids i)=true then(k:Int)else bu li lk ids ts (k+1) i:=by
 unfold bu;rw[h,if_neg Lb,if_neg Lb,K0 hk,<-aB hk,oC]
theorem yP(li lk ids:List Int)(ts:List R3)(i:Nat):bu li lk ids ts ts.length i=if gL li lk ids i=true then -2 else -1:=by
 unfold bu;rw[List.drop_length];rfl
def zl(li lk ids:List Int)(i:Nat):Int:=if gL li lk ids i=true then -2 else -1
def atI(li lk ids:List Int)(i:Nat):Int:=(atN li lk ids i:Nat)
theorem ug(li lk ids:List Int){i:Nat}(h:i<ids.length):nth (gQ li lk ids ids.length) i=gL li lk ids i:=rU _ _ _ h (I4 _)
theorem mn(li lk:List Int)(ts:List R3)(ids:List Int)(v dv:J5)(w:J1)(h:Tx w v li lk ts)(hd:M5 w dv ids)(hn:ids.length<=50):
  L2 JX 27 [v,dv] w fun u w'=>M5 w' u (mj li lk ids ts)/\Ku w w'/\NewV w.heap.size u:=by
 obtain⟨ig,kp,ru,xs,rfl,h1,h2,h3,h4,h5⟩:=h;have o3:=h3.one;have n8:=h3.len_le;have hz:¬(0=1\/0=2\/0=3\/0=4):=zo;have o0:=ow li lk ids (I4 ids.length);refine J6 func27 ntmps27 rfl rfl ?_;refine zh ?_;refine aE (au w) 1 zo rfl rfl ?_;intro xb w1 O1 e6 m' k1 j5;refine zh ?_;refine zvH (ai (us:=[ig,kp,ru]) e6.cellsAdd (isAgg25 _) (sizeOf25 _) rfl) ?_;refine zc call21 (rj li lk ids ig kp ru dv w1 (h1.ext j5) (h2.ext j5) o3 (hd.ext j5) zo) ?_;rintro hv w2 ⟨j',n5,l0⟩;have d0:Lw O1 w2 hv:=l0.free j' (fun x _=>by simp) k1;have j0:=aa (S:=fun _=>False) (fun h=>h) O1 n5;have h0:=e6.upd j0 zd (fun h=>h);have n4:=k1.upd j0;have j2:Jv (fun q=>q=1\/q=2\/q=3\/q=4) (fun _=>0) w O1 w2:=(m'.mono (fun _ h=>zo) hz).trans (j0.mono (fun _ h=>h.elim) hz);refine zh ?_;refine oU pL (enc:=encI) 36 n4 2 zd rfl rfl rfl zd rfl ?_;intro k4 w3 O3 h9 e3 n3;have f9:=j2.trans (e3.mono (fun _ h=>zo) hz);have o5:=hd.ext f9.ext;refine zh ?_;refine bN pL (val:=fun c:Int=>nI c) 0 zk (fun _=>rfl) n3 3 zd ids.length rfl rfl rfl rfl zo zo rfl ?_;intro w4 O4 av o7 i' e0 n2 o9;have f8:=f9.trans (e0.mono (fun _ h=>zo) hz);have o4:=hd.ext f8.ext;refine zh ?_;refine bN pL (val:=fun c:Int=>nI c) 0 zk (fun _=>rfl) n2 4 zd ids.length rfl rfl rfl rfl zo zo rfl ?_;intro w5 O5 ov n' f4 d' n1 o8;have j1:=f8.trans (d'.mono (fun _ h=>zo) hz);have h8:=(h9.upd e0 zd zd).upd d' zd zd;have f7:=i'.upd d' zd zd
 have g':=((h0.upd e3 zd zd).upd e0 zd zd).upd d' zd zd;have i1:=((j'.upd d0 e3).upd (d0.upd e3) e0).upd ((d0.upd e3).upd e0) d';have i3:=((d0.upd e3).upd e0).upd d';rw[<-qy ids.length (atI li lk ids) 0]at f7;rw[<-qy ids.length (zl li lk ids) 0]at f4;refine zh ?_;refine zlp (fun z:Nat×(Nat->Nat)×World×J5=>[(1,dv),(2,nP xb),(5,hv),(6,z.2.2.2),(7,av),(8,ov),(9,nI (z.1:Nat))]) (fun z=>z.2.2.1) (fun z=>z.1<=ids.length/\JY encI 3 1 z.2.1 z.2.2.1 2 z.2.2.2 (jq li lk ids z.1)/\JY encI 3 1 z.2.1 z.2.2.1 3 av (gR ids.length (atI li lk ids) 0 z.1)/\JY encI 3 1 z.2.1 z.2.2.1 4 ov (gR ids.length (zl li lk ids) 0 z.1)/\JU z.2.1 z.2.2.1 1 xb #[ig,kp,ru] 25/\Lw z.2.1 z.2.2.1 hv/\Sl cP 1 z.2.2.1 hv (gQ li lk ids ids.length)/\Jv (fun q=>q=1\/q=2\/q=3\/q=4) (fun _=>0) w z.2.1 z.2.2.1/\KS w.heap.size z.2.1 z.2.2.1) (fun z=>ids.length-z.1) (0,O5,w5,k4) (⟨J3 _,h8,f7,f4,g',i3,i1,j1,n1⟩) ?_;rintro⟨k,O6,w6,wv⟩ ⟨hk,a3,a9,a5,b4,a0,b6,d5,f'⟩;dsimp only at hk a3 a9 a5 b4 a0 b6 d5 f' ⊢;have o2:=hd.ext d5.ext;refine zh ?_;refine zC ?_ ?_
 ·intro a8;replace a8:k<ids.length:=dT a8;have o6:=uw ids.length (atI li lk ids) 0 hk;have l9:=uw ids.length (zl li lk ids) 0 hk;have f3:JY (fun x=>[(fun c:Int=>nI c) x]) 3 1 O6 w6 4 ov (gR ids.length (zl li lk ids) 0 k):=a5;have f6:JY (fun x=>[(fun c:Int=>nI c) x]) 3 1 O6 w6 3 av (gR ids.length (atI li lk ids) 0 k):=a9;have n9:=qP li lk ids k;refine zh ?_;refine zv (ah a5.sl.sh J2 (Ju _) rfl rfl k rfl zo) ?_;refine JJ f3 k zo (-1) (Ju _) rfl zd rfl rfl rfl rfl ?_;intro w7 a2 a1;have e9:=b6.upd a0 a1;have e1:w7.cell? (adr hv 1 k)=some (.bool (gL li lk ids k)):=by have:=e9.cell (i:=k) (j:=0) zo rfl;rw[ao,ug _ _ _ a8]at this;exact this
  have l8:((gR ids.length (zl li lk ids) 0 k).set k (-1)).length=ids.length:=by rw[KD];exact l9
  refine zh ?_;refine zvH (ah e9.sh J7 (JA _) rfl rfl k rfl zo) ?_
  refine zC ?_ ?_
  ·intro hh;refine zh ?_;refine zv (ah a2.sl.sh J2 (Ju _) rfl rfl k rfl zo) ?_;refine JJ a2 k zo (-2) (Ju _) rfl zd rfl rfl rfl rfl ?_;intro w8 d2 b3;have a6:=a1.trans b3;have s1:=oD ids.length (zl li lk ids) 0 a8;have s2:=zI ids.length (atI li lk ids) 0 a8 (by unfold atI atN;rw[if_pos hh];rfl);rw[List.set_set,show(-2:Int)=zl li lk ids k from by unfold zl;rw[if_pos hh],s1]at d2;have h':jq li lk ids (k+1)=jq li lk ids k:=by rw[jq,if_pos hh]
   have d3:=a9.upd a6 zd zd;rw[s2]at d3;refine zh ?_;refine zxd (k+1,O6,w8,wv) (⟨a8,by dsimp only;rw[h'];exact a3.upd a6 zd zd,d3,d2,b4.upd a6 zd zd,a0.upd a6,b6.upd a0 a6,d5.trans (a6.mono (fun _ h=>zo) hz),f'.upd a6⟩)
  intro hh;have b5:=a3.upd a1 zd zd;have f5:JY (fun x=>[(fun c:Int=>nI c) x]) 3 1 O6 w7 3 av (gR ids.length (atI li lk ids) 0 k):=f6.upd a1 zd zd;have s1:=oD ids.length (zl li lk ids) 0 a8;have s2:=oD ids.length (atI li lk ids) 0 a8;have ea:atN li lk ids k=(jq li lk ids k).length:=by unfold atN;rw[if_neg (by rw[hh];decide)]
  have h':jq li lk ids (k+1)=jq li lk ids k++[((aJ (nth ids k):Nat):Int)]:=by rw[jq,if_neg (by rw[hh];decide)]
  refine zh ?_;refine zv (Kf (by first|exact b5.sl) J2 rfl) ?_
  refine zv (ah f5.sl.sh J2 (Ju _) rfl rfl k rfl zo) ?_;refine JJ f5 k zo (((jq li lk ids k).length:Nat):Int) (Ju _) rfl zd rfl rfl rfl rfl ?_
  intro w8 d3 b3;have h7:=b5.upd b3 zd zd;have d2:=a2.upd b3 zd zd;have m5:=hd.ext (((d5.trans (a1.mono (fun _ h=>zo) hz)).trans (b3.mono (fun _ h=>zo) hz)).ext);have e2:w8.cell? (adr dv 1 k)=some (nI (nth ids k)):=by have:=m5.cell (i:=k) (j:=0) a8 rfl;rw[ao]at this;exact this
  refine zh ?_;refine zc call53 (gY (nth ids k) w8) ?_
  rintro _ w9 ⟨rfl,rfl⟩;have g5:=(f'.upd a1).upd b3;refine Lr pL h7 g5 (((aJ (nth ids k):Nat):Int)) (fun _=>rfl) rfl rfl rfl (by simp[Jt]) zo zo zo zd rfl rfl ?_;intro k3 w9 O9 c' a' n0;rw[<-h']at c';have b9:=d3.upd a' zd zd;have b8:=d2.upd a' zd zd;rw[show(((jq li lk ids k).length:Nat):Int)=atI li lk ids k from by unfold atI;rw[ea],s2]at b9;rw[show(-1:Int)=zl li lk ids k from by unfold zl;rw[if_neg (by rw[hh];decide)],s1]at b8;refine zh ?_;refine zxd (k+1,O9,w9,k3) (⟨a8,c',b9,b8,((b4.upd a1 zd zd).upd b3 zd zd).upd a' zd zd,((a0.upd a1).upd b3).upd a',((b6.upd a0 a1).upd (a0.upd a1) b3).upd ((a0.upd a1).upd b3) a',((d5.trans (a1.mono (fun _ h=>zo) hz)).trans (b3.mono (fun _ h=>zo) hz)).trans (a'.mono (fun _ h=>zo) hz),n0⟩)
 intro m4;have m1:k=ids.length:=dF m4;rw[m1]at a3 a9 a5;rw[B1]at a9 a5;rw[show zl li lk ids=bu li lk ids ts xs.length from funext fun i=>by rw[<-h4,yP,zl]]at a5;obtain⟨ms,i7⟩:∃ms,ms=jq li lk ids ids.length:=⟨_,rfl⟩
 have m0:=qP li lk ids ids.length;rw[<-i7]at a3 m0;have c2:w6.cell? (nA xb 2)=some ru:=b4.cell 2 rfl;have g3:=h3.ext d5.ext;refine zh ?_;refine zlp (fun z:Nat×Int×J1=>[(1,dv),(2,nP xb),(5,hv),(6,wv),(7,av),(8,ov),(10,nI z.2.1)]) (fun z=>z.2.2) (fun z=>z.1<=xs.length/\z.2.1=(z.1:Int)-1/\JY encI 3 1 O6 z.2.2 4 ov ((IJ ids.length).map (bu li lk ids ts z.1))/\Jv (fun q=>q=4) O6 w6 O6 z.2.2) (fun z=>z.1) (xs.length,(xs.length:Int)-1,w6) (⟨I4 _,rfl,a5,L0 zd _ _⟩) ?_;rintro⟨r,ri,w7⟩ ⟨hr,l5,a2,a1⟩;dsimp only at hr l5 a2 a1 ⊢;have g6:=(d5.trans (a1.mono (fun _ h=>zo) hz)).ext;refine zh ?_;refine zC ?_ ?_
 ·intro a8;replace a8:0<=ri:=of_decide_eq_true a8;obtain⟨k,rfl⟩:∃k,r=k+1:=⟨r-1,zo⟩
  have l4:ri=(k:Int):=zo;subst l4;have g0:k<xs.length:=zo;have g7:=h3.ext g6;have c7:w7.cell? (nA xb 2)=some ru:=(b4.upd a1 zd zd).cell 2 rfl;have b5:=a3.upd a1 zd zd;obtain⟨l1,l2,_⟩:=gU g7 g0;refine zh ?_;refine zvH (ai (us:=aY (nth xs k).1) l1 (Kd _) (JM _) rfl) ?_;refine zc Mb (gX ms wv zo (nsz (nth ts k).1) (nth ts k).1 (I4 _) (nth xs k).1 w7 ((h5 k g0).1.ext g6) b5.sl) ?_;rintro lv w8 ⟨i9,e4⟩;have j3:=f'.upd a1;have k0:=aa (S:=fun q=>q=4) zd O6 e4;have b3:=a1.trans k0;have g8:=g7.ext e4;have c8:=e4.cell c7;obtain⟨_,m2,_⟩:=gU g8 g0;refine zh ?_;refine zvH (ai (us:=aY (nth xs k).2.1) m2 (Kd _) (JM _) rfl) ?_;refine zc Mb (gX ms wv zo (nsz (nth ts k).2.1) (nth ts k).2.1 (I4 _) (nth xs k).2.1 w8 ((h5 k g0).2.1.ext (g6.trans e4)) (b5.sl.ext e4)) ?_;rintro rv w9 ⟨i4,j4⟩;have i8:=i9.ext j4;have g5:=j3.upd k0;have m8:=aa (S:=fun q=>q=4) zd O6 j4;have a':=b3.trans m8;obtain⟨e5,j9,n7,j8,k',k9⟩:=i8;obtain⟨g9,j7,n6,j6,k7,k6⟩:=i4;have k8:Lw O6 w9 lv:=k'.free j9 (fun x _=>by simp) j3;have lf:∀i,i<ms.length+1->Lw O6 w9 (nth e5 i):=fun i hi=>(k9 i hi).free (j8 i hi) (fun x _=>by simp) j3
  have k5:Lw O6 w9 rv:=k7.free j7 (fun x _=>by simp) g5;have rf:∀i,i<ms.length+1->Lw O6 w9 (nth g9 i):=fun i hi=>(k6 i hi).free (j6 i hi) (fun x _=>by simp) g5
  have c':=a3.upd a' zd zd;have b9:=a9.upd a' zd zd;have i0:=b6.upd a0 a';have i2:=a0.upd a';have b8:JY encI 3 1 O6 w9 4 ov ((IJ ids.length).map (bu li lk ids ts (k+1))):=(a2.upd (aa (S:=fun _=>False) (fun h=>h) O6 e4) zd (fun h=>h)).upd (aa (S:=fun _=>False) (fun h=>h) O6 j4) zd (fun h=>h);rw[<-Bh ids.length (bu li lk ids ts k) (bu li lk ids ts (k+1))]at b8;refine zh ?_;refine zlp (fun y:Nat×J1=>[(1,dv),(2,nP xb),(5,hv),(6,wv),(7,av),(8,ov),(10,nI (k:Int)),(11,lv),(12,rv),(13,nI (y.1:Nat))]) (fun y=>y.2) (fun y=>y.1<=ids.length/\JY encI 3 1 O6 y.2 4 ov (uU ids.length (bu li lk ids ts k) (bu li lk ids ts (k+1)) y.1)/\Jv (fun q=>q=4) O6 w9 O6 y.2) (fun y=>ids.length-y.1) (0,w9) (⟨J3 _,b8,L0 zd _ _⟩) ?_;rintro⟨i,wa⟩ ⟨hi,a7,d9⟩;dsimp only at hi a7 d9 ⊢;have o1:=hd.ext ((d5.trans ((a'.trans d9).mono (fun _ h=>zo) hz)).ext);refine zh ?_;refine zC ?_ ?_
  ·intro d4;replace d4:i<ids.length:=dT d4;have e8:=i0.upd i2 d9;have e1:wa.cell? (adr hv 1 i)=some (.bool (gL li lk ids i)):=by have:=e8.cell (i:=i) (j:=0) zo rfl;rw[ao,ug _ _ _ d4]at this;exact this
   refine zh ?_;refine zvH (ah e8.sh J7 (JA _) rfl rfl i rfl zo) ?_
   refine zC ?_ ?_
   ·intro hh;have l3:=tI ids.length (bu li lk ids ts k) (bu li lk ids ts (k+1)) (j:=i) (by rw[pR _ hh,pR _ hh]);rw[l3]at a7;refine zh ?_;refine zxd (i+1,wa) (⟨d4,a7,d9⟩)
   intro hh;obtain⟨a,ha⟩:∃a,a=atN li lk ids i:=⟨_,rfl⟩
   have m7:a<=ms.length:=by rw[ha,i7];exact G6 _ _ _ zo
   have d8:=uY (li:=li) (lk:=lk) (ids:=ids) (ts:=ts) (i:=i) (k:=k) zo hh;rw[<-i7,<-ha]at d8;have k2:∀W,Jv (fun q=>q=4) O6 w9 O6 W->W.cell? (adr av 1 i)=some (nI (a:Int)):=fun W hu=>by
    have:=(b9.upd hu zd zd).sl.cell (i:=i) (j:=0) (by simpa using d4) rfl;rw[ao,rI _ d4,atI,<-ha]at this;exact this
   have c9:∀W,Jv (fun q=>q=4) O6 w9 O6 W->Shape av ids.length:=fun W hu=>by
    have:=(b9.upd hu zd zd).sl.sh;simpa using this
   refine zh ?_;refine zlp (fun x:Nat×Bool×J1=>[(1,dv),(2,nP xb),(5,hv),(6,wv),(7,av),(8,ov),(10,nI (k:Int)),(11,lv),(12,rv),(13,nI (i:Nat)),(14,.bool x.2.1),(15,.bool false),(16,nI (x.1:Nat))]) (fun x=>x.2.2) (fun x=>x.1<=a+1/\x.2.1=lj (bG ms (nth ts k).1) a x.1/\JY encI 3 1 O6 x.2.2 4 ov (uU ids.length (bu li lk ids ts k) (bu li lk ids ts (k+1)) i)/\Jv (fun q=>q=4) O6 w9 O6 x.2.2) (fun x=>a+1-x.1) (0,false,wa) (⟨J3 _,rfl,a7,d9⟩) ?_
   rintro⟨q,b0,wb⟩ ⟨hq,g4,d6,c6⟩;dsimp only at hq g4 d6 c6 ⊢;have ca:=k2 wb c6;refine zh ?_;refine zvH (ah (c9 wb c6) J2 (Ju _) rfl rfl i rfl zo) ?_;refine zC ?_ ?_
   ·intro d1;replace d1:q<=a:=dT d1;have la1b:=j9.upd k8 c6;have la3b:=(j8 q zo).upd (lf q zo) c6;have b1:wb.cell? (adr lv 1 q)=some (nth e5 q):=by have:=la1b.cell (i:=q) (j:=0) zo rfl;rw[ao]at this;exact this
    have b2:wb.cell? (adr (nth e5 q) 1 a)=some (.bool (bG ms (nth ts k).1 q a)):=by have:=la3b.cell (i:=a) (j:=0) (by simp;omega) rfl;rw[ao,gq _ zo]at this;exact this
    have hla3l:((IJ (ms.length+1)).map (bG ms (nth ts k).1 q)).length=ms.length+1:=by simp
    have b7:=d6.upd (aa (S:=fun _=>False) (fun h=>h) O6 (J4 wb).drew) zd (fun h=>h);refine zh ?_;refine aI (fun W=>W.cell? (adr av 1 i)=some (nI (a:Int))/\W.cell? (adr lv 1 q)=some (nth e5 q)/\W.cell? (adr (nth e5 q) 1 a)=some (.bool (bG ms (nth ts k).1 q a))) 14 rfl zk ?_;refine zin ⟨ca,b1,b2⟩ fun zS=>?_
    refine zrm 0 rfl zS rfl ?_;refine zrm 1 rfl zS rfl ?_
    cases b0 with
    |true=>
     refine bL (d:=100) rfl (b':=true) (rfl) ?_;refine zin ⟨ca,b1,b2⟩ fun zS=>?_
     refine zte 2 rfl rfl zS ?_;refine zte 3 rfl rfl zS ?_
     refine zte 4 rfl rfl zS ?_;refine zte 5 rfl rfl zS ?_
     refine zte 6 rfl rfl zS ?_;refine zte 7 rfl rfl zS ?_
     refine zte 8 rfl rfl zS ?_;refine zte 9 rfl rfl zS ?_
     refine zte 10 rfl rfl zS ?_;refine zte 11 rfl rfl zS ?_
     refine zr 12 rfl zS (fun _=>aQ rfl rfl) ?_;refine zra 13 rfl zS rfl ?_
     refine J8 zk ?_;refine zh ?_
     refine zxd (q+1,true,wb.drew) (⟨by dsimp only;omega,by dsimp only;rw[lj,<-g4];rfl,b7,c6.drew⟩)
    |false=>
     refine bL (d:=100) rfl (b':=false) (rfl) ?_;refine zin ⟨ca,b1,b2⟩ fun zS=>?_
     refine zro 2 rfl zS (fun _=>ix rfl) ?_;refine zro 3 rfl zS (fun _=>ix rfl) ?_
     refine zro 4 rfl zS (fun _=>ah la1b.sh Ko (KQ _) rfl rfl q rfl zo) ?_;refine zto 5 rfl zS (fun w1 e7=>RV.ld e7.2.1 rfl) ?_
     refine zro 6 rfl zS (fun _=>ix rfl) ?_;refine zro 7 rfl zS (fun _=>ix rfl) ?_
     refine zro 8 rfl zS (fun _=>ah (c9 wb c6) J2 (Ju _) rfl rfl i rfl zo) ?_;refine zto 9 rfl zS (fun w1 e7=>RV.ld e7.1 rfl) ?_
     refine zro 10 rfl zS (fun _=>ah la3b.sh J7 (JA _) rfl rfl a rfl zo) ?_;refine zto 11 rfl zS (fun w1 e7=>RV.ld e7.2.2 rfl) ?_
     refine zr 12 rfl zS (fun _=>aW rfl rfl) ?_;refine zra 13 rfl zS rfl ?_
     refine J8 zk ?_;refine zh ?_
     refine zxd (q+1,bG ms (nth ts k).1 q a,wb.drew) (⟨by dsimp only;omega,by dsimp only;rw[lj,<-g4];rfl,b7,c6.drew⟩)
   intro d1;have i5:q=a+1:=dF d1;subst i5;refine zh ?_;refine zvH (ah (c9 wb c6) J2 (Ju _) rfl rfl i rfl zo) ?_;refine zlp (fun x:Nat×Bool×J1=>[(1,dv),(2,nP xb),(5,hv),(6,wv),(7,av),(8,ov),(10,nI (k:Int)),(11,lv),(12,rv),(13,nI (i:Nat)),(14,.bool b0),(15,.bool x.2.1),(17,nI ((a+x.1:Nat):Int))]) (fun x=>x.2.2) (fun x=>x.1<=ms.length+1-a/\x.2.1=gE (bG ms (nth ts k).2.1) a x.1/\JY encI 3 1 O6 x.2.2 4 ov (uU ids.length (bu li lk ids ts k) (bu li lk ids ts (k+1)) i)/\Jv (fun q=>q=4) O6 w9 O6 x.2.2) (fun x=>ms.length+1-a-x.1) (0,false,wb) (⟨J3 _,rfl,d6,c6⟩) ?_;rintro⟨q,b1,wc⟩ ⟨l7,g2,a4,c5⟩;dsimp only at l7 g2 a4 c5 ⊢;have cc:=k2 wc c5;have h6:=c'.upd c5 zd zd;refine zh ?_;refine zvH (Kf (by first|exact h6.sl) J2 rfl) ?_;refine zC ?_ ?_
   ·intro d1;replace d1:a+q<=ms.length:=dT d1;have ra1c:=j7.upd k5 c5;have ra3c:=(j6 a zo).upd (rf a zo) c5;have e1:wc.cell? (adr rv 1 a)=some (nth g9 a):=by have:=ra1c.cell (i:=a) (j:=0) zo rfl;rw[ao]at this;exact this
    have e2:wc.cell? (adr (nth g9 a) 1 (a+q))=some (.bool (bG ms (nth ts k).2.1 a (a+q))):=by have:=ra3c.cell (i:=a+q) (j:=0) (by simp;omega) rfl;rw[ao,gq _ zo]at this;exact this
    have hra3l:((IJ (ms.length+1)).map (bG ms (nth ts k).2.1 a)).length=ms.length+1:=by simp
    refine zh ?_
    cases b1 with
    |true=>
     refine ay (d:=123) rfl (b':=true) (rfl) ?_;refine zh ?_
     refine zxd (q+1,true,wc) (⟨by dsimp only;omega,by dsimp only;rw[gE,<-g2];rfl,a4,c5⟩)
    |false=>
     refine ay (d:=123) rfl (b':=false) (rfl) ?_;refine zh ?_
     refine zvH (ah (c9 wc c5) J2 (Ju _) rfl rfl i rfl zo) ?_;refine zvH (ah ra3c.sh J7 (JA _) rfl rfl (a+q) rfl zo) ?_
     refine zxd (q+1,bG ms (nth ts k).2.1 a (a+q),wc) (⟨by dsimp only;omega,by dsimp only;rw[gE,<-g2];rfl,a4,c5⟩)
   intro d1;have i5:q=ms.length+1-a:=dF d1;subst i5;have m6:Cf ms (nth ts k) a=(b0&&b1):=by unfold Cf;rw[g4,g2]
   rw[m6]at d8;have l':=Da ids.length (bu li lk ids ts k) (bu li lk ids ts (k+1)) i;have e':JY (fun x=>[(fun c:Int=>nI c) x]) 3 1 O6 wc 4 ov (uU ids.length (bu li lk ids ts k) (bu li lk ids ts (k+1)) i):=a4;refine zh ?_;refine aP (fun w1=>_=w1) (b1) 1 (rfl) rfl rfl rfl rfl rfl ?_ ?_
   ·intro g1;refine zh ?_;refine nE 136 2 (rfl) g1
   rintro _ rfl;refine zh ?_;refine zC ?_ ?_
   ·intro i6;rw[i6,if_pos rfl]at d8;refine zh ?_;refine zv (ah a4.sl.sh J2 (Ju _) rfl rfl i rfl zo) ?_;refine JJ e' i zo (k:Int) (Ju _) rfl zd rfl rfl rfl rfl ?_;intro wd b7 m9;rw[<-d8,C9]at b7;refine zh ?_;refine zxd (i+1,wd) (⟨d4,b7,c5.trans m9⟩)
   intro i6;rw[i6,if_neg zd]at d8;rw[tI _ _ _ d8]at a4;refine zh ?_;refine zxd (i+1,wc) (⟨d4,a4,c5⟩)
  intro d7;have m3:i=ids.length:=dF d7;subst m3;rw[Db]at a7;refine zh ?_;refine zxd (k,(k:Int)-1,wa) (⟨by dsimp only;omega,rfl,a7,a'.trans d9⟩)
 intro d7;have l6:r=0:=dF d7;subst l6;refine zh ?_;refine ae rfl rfl (⟨a2.sl,g6,a2.newV zd (f'.upd a1)⟩)
theorem sN{li lk ids:List Int}{ts:List R3}{i:Nat}(h:0<=bu li lk ids ts 0 i):(bu li lk ids ts 0 i).toNat<ts.length:=by
 unfold bu at h ⊢
 split at h
 ·omega
 rename_i hh;rw[if_neg hh];rw[JW]at h ⊢
 rcases gC (jq li lk ids ids.length) (atN li lk ids i) ts 0 with⟨h1,_⟩|⟨j,h1,h2,_⟩
 ·rw[h1]at h;omega
 rw[h2];omega
theorem rk(li lk:List Int)(ts:List R3)(ids:List Int)(v dv:J5)(w:J1)(h:Tx w v li lk ts)(hd:M5 w dv ids)(hn:ids.length<=50):
  L2 JX 20 [v,dv] w fun u w'=>Sl cP 1 w' u (jT li lk ids ts)/\Ku w w'/\NewV w.heap.size u:=by
 obtain⟨ig,kp,ru,xs,rfl,h1,h2,h3,h4,h5⟩:=h;have hz:¬(0=1\/0=2):=zo;have f5:(mj li lk ids ts).length=ids.length:=by simp[mj]
 refine J6 func20 ntmps20 rfl rfl ?_;refine zh ?_
 refine aE (au w) 1 zo rfl rfl ?_;intro xb w1 O1 b6 e6 d7 c8;refine zh ?_
 refine zvH (ai (us:=[ig,kp,ru]) b6.cellsAdd (isAgg25 _) (sizeOf25 _) rfl) ?_;refine zc call27 (mn li lk ts ids (sF ig kp ru) dv w1 ⟨⟨ig,kp,ru,xs,rfl,h1.ext c8,h2.ext c8,h3.ext c8,h4,fun i hi=>(h5 i hi).ext c8⟩⟩ (hd.ext c8) hn) ?_
 rintro wv w2 ⟨b7,e',d'⟩;have b8:Lw O1 w2 wv:=d'.free b7 (fun x _=>by simp) d7;have d3:=aa (S:=fun _=>False) (fun h=>h) O1 e';have c':=b6.upd d3 zd (fun h=>h);have e9:=d7.upd d3;have d5:Jv (fun q=>q=1\/q=2) (fun _=>0) w O1 w2:=(e6.mono (fun _ h=>zo) hz).trans (d3.mono (fun _ h=>h.elim) hz);refine zh ?_;refine oU uy (enc:=cP) true e9 2 zd rfl rfl rfl zd rfl ?_;intro d8 w3 O3 d0 c9 e8;have d4:=d5.trans (c9.mono (fun _ h=>zo) hz);refine zh ?_;refine zlp (fun z:Nat×(Nat->Nat)×World×J5=>[(1,dv),(2,nP xb),(5,wv),(6,z.2.2.2),(7,nI (z.1:Nat))]) (fun z=>z.2.2.1) (fun z=>1<=z.1/\z.1<=max 1 ids.length/\JY cP 4 1 z.2.1 z.2.2.1 2 z.2.2.2 (true::(IJ (z.1-1)).map (fun i=>dM li lk ids ts (i+1)))/\JU z.2.1 z.2.2.1 1 xb #[ig,kp,ru] 25/\Lw z.2.1 z.2.2.1 wv/\M5 z.2.2.1 wv (mj li lk ids ts)/\Jv (fun q=>q=1\/q=2) (fun _=>0) w z.2.1 z.2.2.1/\KS w.heap.size z.2.1 z.2.2.1) (fun z=>ids.length-z.1) (1,O3,w3,d8) (⟨I4 _,Nat.le_max_left _ _,d0,c'.upd c9 zd zd,b8.upd c9,b7.upd b8 c9,d4,e8⟩) ?_;rintro⟨k,O4,w4,f4⟩ ⟨e3,hk,a5,a6,a3,a2,a',b4⟩;dsimp only at e3 hk a5 a6 a3 a2 a' b4 ⊢;have f6:=hd.ext a'.ext;have g4:=h3.ext a'.ext;refine zh ?_;refine zC ?_ ?_
 ·intro d1;replace d1:k<ids.length:=dT d1;obtain⟨c,hc⟩:∃c,c=bu li lk ids ts 0 k:=⟨_,rfl⟩
  have e1:nth (mj li lk ids ts) k=c:=by rw[hc];exact rI _ d1
  have c6:dM li lk ids ts k=(c == -1||(decide (0<=c)&&(nth ts c.toNat).2.2)):=by unfold dM;rw[<-hc]
  have b3:=aa (S:=fun _=>False) (fun h=>h) O4 (J4 w4).drew;have hU4d:=aa (S:=fun q=>q=2) zd O4 (J4 w4).drew;have kc:∀W,(∃O',Jv (fun q=>q=2) O4 w4 O' W)->W.cell? (adr wv 1 k)=some (nI c):=fun W ⟨O',hu⟩=>by
   have:=(a2.upd a3 hu).cell (i:=k) (j:=0) zo rfl;rw[ao,e1]at this;exact this
  have kx:∀W,(∃O',Jv (fun q=>q=2) O4 w4 O' W)->W.cell? (nA xb 2)=some ru:=fun W ⟨O',hu⟩=>(a6.upd hu zd zd).cell 2 rfl
  have kr:0<=c->∀W,(∃O',Jv (fun q=>q=2) O4 w4 O' W)->W.cell? ((adr ru 7 c.toNat).add 6)=some (.bool (nth ts c.toNat).2.2):=fun h0 W ⟨O',hu⟩=>by
   have d2:c.toNat<xs.length:=by rw[hc]at h0 ⊢;rw[<-h4];exact sN h0
   have:=(gU (h3.ext (a'.trans (hu.mono (fun _ h=>.inr h) hz)).ext) d2).2.2
   rwa[(h5 _ d2).2.2]at this
  have e0:(true::(IJ (k-1)).map (fun i=>dM li lk ids ts (i+1))).length=k:=by simp;omega
  have b2:(true::(IJ (k-1)).map (fun i=>dM li lk ids ts (i+1)))++[dM li lk ids ts k]=true::(IJ (k+1-1)).map (fun i=>dM li lk ids ts (i+1)):=by
   obtain⟨j,rfl⟩:∃j,k=j+1:=⟨k-1,zo⟩
   rw[show j+1+1-1=j+1 from rfl,show j+1-1=j from rfl,KB,JG];rfl
  refine zh ?_;refine aI (fun W=>∃O',Jv (fun q=>q=2) O4 w4 O' W) 27 rfl zk ?_
  refine zin ⟨_,hU4d⟩ fun zS=>?_
  refine zrm 0 rfl zS rfl ?_;refine zrm 1 rfl zS rfl ?_
  refine zrm 2 rfl zS rfl ?_;refine zr 3 rfl zS (fun _=>ah a2.sh J2 (Ju _) rfl rfl k rfl zo) ?_
  refine zt 4 rfl zS (fun w1 a9=>RV.ld (kc w1 a9) rfl) ?_;refine zr 5 rfl zS (fun _=>Ky rfl rfl) ?_
  refine zrm 6 rfl zS rfl ?_
  by_cases c1:c = -1
  ·refine bL (d:=24) rfl (b':=true) ((by rw[c1];rfl)) ?_;refine zin ⟨_,hU4d⟩ fun zS=>?_
   refine zte 7 rfl rfl zS ?_;refine zte 8 rfl rfl zS ?_
   refine zte 9 rfl rfl zS ?_;refine zte 10 rfl rfl zS ?_
   refine zte 11 rfl rfl zS ?_;refine zte 12 rfl rfl zS ?_
   refine ztu 13 rfl zS ?_;refine ztu 14 rfl zS ?_
   refine ztu 15 rfl zS ?_;refine ztu 16 rfl zS ?_
   refine ztu 17 rfl zS ?_;refine ztu 18 rfl zS ?_
   refine ztu 19 rfl zS ?_;refine ztu 20 rfl zS ?_
   refine ztu 21 rfl zS ?_;refine zte 22 rfl rfl zS ?_
   refine zr 23 rfl zS (fun _=>aQ rfl rfl) ?_;refine Gc 24 zk rfl ?_
   refine cg uy (enc:=cP) (dM li lk ids ts k) rfl (congrArg (fun b=>[JQ b]) (show true=dM li lk ids ts k from by rw[c6,c1];rfl)) rfl zd rfl ?_;intro sv w5 b9 b1;have b0:=aa (S:=fun q=>q=2) zd O4 b1;have a1:=hU4d.trans b0;refine zh ?_
   refine af (⟨_,a1⟩) ?_;have a7:=(a5.upd b3 zd (fun h=>h)).upd (aa (S:=fun _=>False) (fun h=>h) O4 b1) zd (fun h=>h);refine Gc 25 zk rfl ?_
   refine aC uy a7 ((b4.upd b3).upd b0) b9 (by simp) rfl rfl (by simp) (by simp[Jt]) (by rw[J9];omega) (by rw[J9];omega) zd rfl ?_;intro b5 w6 O6 a4 a8 c7;refine zh ?_
   refine af (⟨_,a1.trans a8⟩) ?_;rw[b2]at a4;have a0:=a1.trans a8;refine zra 26 rfl (⟨_,a1.trans a8⟩) rfl ?_
   refine J8 zk ?_;refine zh ?_
   refine zxd (k+1,O6,w6,b5) (⟨by dsimp only;omega,by dsimp only;omega,a4,a6.upd (a0.mono (S':=fun q=>q=2) (fun _ h=>h) zd) zd zd,a3.upd a0,a2.upd a3 a0,a'.trans (a0.mono (fun _ h=>.inr h) hz),c7⟩)
  refine bL (d:=24) rfl (b':=false) ((by rw[beq_eq_false_iff_ne];exact c1)) ?_;refine zin ⟨_,hU4d⟩ fun zS=>?_
  refine zro 7 rfl zS (fun _=>ix rfl) ?_;refine zro 8 rfl zS (fun _=>ix rfl) ?_
  refine zro 9 rfl zS (fun _=>ah a2.sh J2 (Ju _) rfl rfl k rfl zo) ?_;refine zto 10 rfl zS (fun w1 a9=>RV.ld (kc w1 a9) rfl) ?_
  refine zro 11 rfl zS (fun _=>RV.geq rfl rfl) ?_;refine zro 12 rfl zS (fun _=>ix rfl) ?_
  by_cases c2:0<=c
  ·have d2:c.toNat<xs.length:=by have:=c2;rw[hc]at this ⊢;rw[<-h4];exact sN this
   have d9:=kr c2;refine bL (d:=30) rfl (b':=true) ((decide_eq_true c2)) ?_;refine zin ⟨_,hU4d⟩ fun zS=>?_
   refine zro 13 rfl zS (fun _=>RV.fa rfl) ?_;refine zto 14 rfl zS (fun w1 a9=>RV.ld (kx w1 a9) rfl) ?_
   refine zro 15 rfl zS (fun _=>ix rfl) ?_;refine zro 16 rfl zS (fun _=>ix rfl) ?_
   refine zro 17 rfl zS (fun _=>ah a2.sh J2 (Ju _) rfl rfl k rfl zo) ?_;refine zto 18 rfl zS (fun w1 a9=>RV.ld (kc w1 a9) rfl) ?_
   refine zro 19 rfl zS (fun _=>ah g4.sh K1 (KG _) rfl rfl c.toNat zo zo) ?_;refine zro 20 rfl zS (fun _=>RV.fa rfl) ?_
   refine zto 21 rfl zS (fun w1 a9=>RV.ld (d9 w1 a9) rfl) ?_;refine zro 22 rfl zS (fun _=>aQ rfl rfl) ?_
   refine zr 23 rfl zS (fun _=>aW rfl rfl) ?_;refine Gc 24 zk rfl ?_
   refine cg uy (enc:=cP) (dM li lk ids ts k) rfl (congrArg (fun b=>[JQ b]) (show(nth ts c.toNat).2.2=dM li lk ids ts k from by rw[c6,show(c == -1)=false from(by rw[beq_eq_false_iff_ne];exact c1),decide_eq_true c2];rfl)) rfl zd rfl ?_;intro sv w5 b9 b1;have b0:=aa (S:=fun q=>q=2) zd O4 b1;have a1:=hU4d.trans b0;refine zh ?_
   refine af (⟨_,a1⟩) ?_;have a7:=(a5.upd b3 zd (fun h=>h)).upd (aa (S:=fun _=>False) (fun h=>h) O4 b1) zd (fun h=>h);refine Gc 25 zk rfl ?_
   refine aC uy a7 ((b4.upd b3).upd b0) b9 (by simp) rfl rfl (by simp) (by simp[Jt]) (by rw[J9];omega) (by rw[J9];omega) zd rfl ?_;intro b5 w6 O6 a4 a8 c7;refine zh ?_
   refine af (⟨_,a1.trans a8⟩) ?_;rw[b2]at a4;have a0:=a1.trans a8;refine zra 26 rfl (⟨_,a1.trans a8⟩) rfl ?_
   refine J8 zk ?_;refine zh ?_
   refine zxd (k+1,O6,w6,b5) (⟨by dsimp only;omega,by dsimp only;omega,a4,a6.upd (a0.mono (S':=fun q=>q=2) (fun _ h=>h) zd) zd zd,a3.upd a0,a2.upd a3 a0,a'.trans (a0.mono (fun _ h=>.inr h) hz),c7⟩)
  refine bL (d:=30) rfl (b':=false) ((decide_eq_false c2)) ?_;refine zin ⟨_,hU4d⟩ fun zS=>?_
  refine zte 13 rfl rfl zS ?_;refine zte 14 rfl rfl zS ?_
  refine zte 15 rfl rfl zS ?_;refine zte 16 rfl rfl zS ?_
  refine zte 17 rfl rfl zS ?_;refine zte 18 rfl rfl zS ?_
  refine zte 19 rfl rfl zS ?_;refine zte 20 rfl rfl zS ?_
  refine zte 21 rfl rfl zS ?_;refine zro 22 rfl zS (fun _=>aW rfl rfl) ?_
  refine zr 23 rfl zS (fun _=>aW rfl rfl) ?_;refine Gc 24 zk rfl ?_
  refine cg uy (enc:=cP) (dM li lk ids ts k) rfl (congrArg (fun b=>[JQ b]) (show false=dM li lk ids ts k from by rw[c6,show(c == -1)=false from(by rw[beq_eq_false_iff_ne];exact c1),decide_eq_false c2];rfl)) rfl zd rfl ?_;intro sv w5 b9 b1;have b0:=aa (S:=fun q=>q=2) zd O4 b1;have a1:=hU4d.trans b0;refine zh ?_
  refine af (⟨_,a1⟩) ?_;have a7:=(a5.upd b3 zd (fun h=>h)).upd (aa (S:=fun _=>False) (fun h=>h) O4 b1) zd (fun h=>h);refine Gc 25 zk rfl ?_
  refine aC uy a7 ((b4.upd b3).upd b0) b9 (by simp) rfl rfl (by simp) (by simp[Jt]) (by rw[J9];omega) (by rw[J9];omega) zd rfl ?_;intro b5 w6 O6 a4 a8 c7;refine zh ?_
  refine af (⟨_,a1.trans a8⟩) ?_;rw[b2]at a4;have a0:=a1.trans a8;refine zra 26 rfl (⟨_,a1.trans a8⟩) rfl ?_
  refine J8 zk ?_;refine zh ?_
  refine zxd (k+1,O6,w6,b5) (⟨by dsimp only;omega,by dsimp only;omega,a4,a6.upd (a0.mono (S':=fun q=>q=2) (fun _ h=>h) zd) zd zd,a3.upd a0,a2.upd a3 a0,a'.trans (a0.mono (fun _ h=>.inr h) hz),c7⟩)
 intro e4;have e2:k-1=ids.length-1:=dF e4;rw[e2]at a5;have c6:jT li lk ids ts=(true::(IJ (ids.length-1)).map (fun i=>dM li lk ids ts (i+1)))++if 0<ids.length then [true]else []:=rfl
 rw[c6];have e0:(true::(IJ (ids.length-1)).map (fun i=>dM li lk ids ts (i+1))).length=ids.length-1+1:=by simp
 generalize true::(IJ (ids.length-1)).map (fun i=>dM li lk ids ts (i+1))=L at *;refine zh ?_
 by_cases d6:0<ids.length
 ·rw[if_pos d6];refine zTH rfl ((decide_eq_true zo)) ?_;refine Lr uy a5 b4 (true) (fun _=>rfl) rfl rfl rfl (by simp[Jt]) zo zo zo zd rfl rfl ?_;intro f3 w7 O7 c5 e5 e7;refine zh ?_;refine ae rfl rfl (⟨c5.sl,(a'.trans (e5.mono (fun _ h=>.inr h) hz)).ext,c5.newV zd e7⟩)
 rw[if_neg d6];refine zFH rfl ((decide_eq_false zo)) ?_;refine ae rfl rfl (⟨by rw[K6];exact a5.sl,a'.ext,a5.newV zd b4⟩)
section
abbrev mv(m:M3):J5:=.agg (lz m).toArray
theorem kM{F:FuncId}(hF:∀(args:Array J5) (w:J1),(callFunc F args).run JX w=.ok (.enter F args) w)(cs:Array J5)(l:List (M3))(sv:J5)(q:Nat->Bool)(w:J1)(h:Sl lz 4 w sv l) 
  (hq:∀i,i<l.length->∀w',Ku w w'->L2 JX F ([mv (nth l i)]++cs.toList) w' fun v w''=>v=.bool (q i)/\Ku w' w'') :
  L2 JX 191 [sv,.func (.func F) #[] cs] w fun v w'=>v=nI (firstN q l.length)/\Ku w w':=by
 have hl:=h.len_le;refine J6 func191 ntmps191 rfl rfl ?_;refine zh ?_;refine zlp (fun x:Nat×J1=>[(0,sv),(1,.func (.func F) #[] cs),(7,nI l.length),(8,nI x.1)]) (fun x=>x.2) (fun x=>x.1<=l.length/\Ku w x.2/\∀i,i<x.1->q i=false) (fun x=>l.length-x.1) (0,w) (⟨J3 _,J4 _,fun i hi=>absurd hi (Jq i)⟩) ?_;rintro⟨k,w1⟩ ⟨hk,hE,a1⟩;dsimp only at hk hE a1 ⊢;have h1:=h.ext hE;refine zh ?_;refine zC ?_ ?_
 ·intro a0;replace a0:k<l.length:=dT a0;refine zh ?_;refine zv (ai (us:=lz (nth l k)) (fun j u hu=>h1.cell a0 hu) (isAgg243 _) (sizeOf243 _) rfl) ?_;refine dN rfl hF rfl (hq k a0 w1 hE) rfl ?_;rintro v w2 ⟨rfl,a3⟩;refine zh ?_;refine zC ?_ ?_
  ·intro hy;refine zh ?_;refine ae rfl rfl (⟨by rw[cG a0 hy a1],hE.trans a3⟩)
  intro hy;refine zh ?_;refine zxd (k+1,w2) (⟨a0,hE.trans a3,fun i hi=>(KM.1 hi).elim (a1 i) (fun e=>by rw[e];exact hy)⟩)
 intro a2;replace a2:l.length<=k:=dF a2;refine zh ?_;refine ae rfl rfl (⟨by rw[cE fun i hi=>a1 i zo],hE⟩)
theorem iB{F:FuncId}(hF:∀(args:Array J5) (w:J1),(callFunc F args).run JX w=.ok (.enter F args) w)(cs:Array J5)(l:List (M3))(sv:J5)(q:Nat->Bool)(w:J1)(h:Sl lz 4 w sv l) 
  (hq:∀i,i<l.length->∀w',Ku w w'->L2 JX F ([mv (nth l i)]++cs.toList) w' fun v w''=>v=.bool (q i)/\Ku w' w'') :
  L2 JX 176 [sv,.func (.func F) #[] cs] w fun v w'=>v=.bool (jc q l.length)/\Ku w w':=by
 refine J6 func176 ntmps176 rfl rfl ?_;refine zh ?_
 refine zc call191 (kM hF cs l sv q w h hq) ?_;rintro v w1 ⟨rfl,hE⟩;refine zh ?_
 refine ae rfl rfl (⟨by rw[firstN_any],hE⟩)
theorem yT(m:M3)(s:List UInt8)(sb:Nat)(w:J1)(h:w.cell? ⟨sb,0,none⟩=some (.string (bs s))):L2 JX 177 [mv m,nP sb] w fun v w'=>v=.bool (m.1==s)/\Ku w w':=by
 refine J6 func177 ntmps177 rfl rfl ?_;refine zh ?_
 refine aE (au w) 1 zo rfl rfl ?_;intro xb w1 O1 a1 a2 a3 a0;refine zh ?_
 refine zv (RV.ld (a1.cell 0 rfl) rfl) ?_;refine zv (RV.ld (a0.cell h) rfl) ?_
 refine zvH (cX rfl rfl) ?_;refine ae rfl rfl (⟨rfl,a0⟩)
theorem oF(l:List (List UInt8))(s:List UInt8)(sv:J5)(w:J1)(h:Sl encS 1 w sv l):L2 JX 175 [sv,.string (bs s)] w fun v w'=>v=.bool (l.contains s)/\w'=w:=by
 refine J6 func175 ntmps175 rfl rfl ?_;refine zh ?_
 refine zc call183 (my l s sv w h) ?_;rintro v w9 ⟨rfl,a0⟩;rw[a0];clear a0 w9;refine zh ?_
 refine ae rfl rfl (⟨congrArg JQ ?_,rfl⟩);unfold GV
 cases hf:l.findIdx? (· == s)with
 |none=>
  have h1:=List.findIdx?_eq_none_iff.1 hf;rw[decide_eq_false zd]
  symm
  rw[Bool.eq_false_iff];intro hc;have:=h1 s (KU.1 hc);simp at this
 |some k=>
  obtain⟨hk,h1,_⟩:=List.findIdx?_eq_some_iff_getElem.1 hf;show decide ((0:Int)<=((k:Nat):Int))=_;rw[decide_eq_true zo]
  symm
  rw[KU,<-eq_of_beq h1];exact List.getElem_mem hk
def wordsL:List (List UInt8):=[[108,101,116],[105,103,110,111,114,101],[107,101,101,112],[97,110,121]]
def fg(kn:Kn)(s:List UInt8):Int:=if((A7 s).isSome||wordsL.contains s)=true then 5 else if kn.any (fun m=>m.1==s)=true then 11 else 0
variable{kn:Kn}
theorem Az(O:Nat->Nat)(w:J1)(j jm rb:Nat)(s:LS)(q:List UInt8)(hk:Mac O w jm s.mc kn)(h:Lh O w j rb s):
  L2 JX 157 [nP rb,.string (bs q)] w fun v w'=>v=nI (fg kn q)/\Ku w w':=by
 obtain⟨ms,a2,b1,b2⟩:=hk;have b0:=a2.sl;refine J6 func157 ntmps157 rfl rfl ?_;refine zg ?_;refine aE (au w) 1 zo rfl rfl ?_;intro sb w1 O1 a9 b4 b5 b3;have a3:=a9.cell 0 rfl;refine zg ?_;refine zv (RV.ld a3 rfl) ?_;refine zc M0 (iW q w1) ?_;rintro v w2 ⟨rfl,a6⟩;have a1:=b3.trans a6;refine zg ?_
 cases hn:(A7 q).isSome with
 |true=>
  have hM:fg kn q=5:=by unfold fg;rw[hn];rfl
  rw[hM];refine ay (d:=14) rfl (b':=true) (rfl) ?_;refine zg ?_;refine zTG rfl rfl ?_;refine ae rfl rfl (⟨rfl,a1⟩)
 |false=>
  refine ay (d:=14) rfl (b':=false) (rfl) ?_;refine zg ?_
  refine gb underlying136 (sizeOf9 _) (zeroValue9 _) encS wordsL rfl rfl rfl rfl zk zd rfl ?_;intro sv w3 a' a5;have a0:=a1.trans a5;refine zg ?_
  refine zvG (RV.ld ((a6.trans a5).cell a3) rfl) ?_;refine zc call175 (oF wordsL q sv w3 a') ?_
  rintro v w9 ⟨rfl,a7⟩;rw[a7];clear a7 w9;refine zg ?_
  cases hw:wordsL.contains q with
  |true=>
   have hM:fg kn q=5:=by unfold fg;rw[hn,hw];rfl
   rw[hM];refine zTG rfl rfl ?_;refine ae rfl rfl (⟨rfl,a0⟩)
  |false=>
   refine aS rfl rfl ?_;have q9:=a0.cell h.q9;refine zg ?_
   refine zv (RV.ld q9 rfl) ?_;refine zv (eA rfl rfl) ?_
   refine zc call176 (iB call177 #[nP sb] ms s.mc (fun i=>(nth ms i).1==q) w3 (b0.ext a0) (fun i hi w' hE=>yT (nth ms i) q sb w' (hE.cell ((a6.trans a5).cell a3)))) ?_;rintro v w4 ⟨rfl,a8⟩;have a4:jc (fun i=>(nth ms i).1==q) ms.length=kn.any (fun m=>m.1==q):=by
    rw[<-b1,<-iG (l:=kn) (p:=fun m=>m.1==q)];exact Aa fun i hi=>by rw[(b2 i zo).1]
   rw[a4];refine zg ?_
   cases ha:kn.any (fun m=>m.1==q)with
   |true=>
    have hM:fg kn q=11:=by unfold fg;rw[hn,hw,ha];rfl
    rw[hM];refine zTG rfl rfl ?_;refine ae rfl rfl (⟨rfl,a0.trans a8⟩)
   |false=>
    have hM:fg kn q=0:=by unfold fg;rw[hn,hw,ha];rfl
    rw[hM];refine zFG rfl rfl ?_;refine ae rfl rfl (⟨rfl,a0.trans a8⟩)
end
section
variable{kn:Kn}
theorem GP:cV JX 243 #[(0,1),(1,3)]:=⟨_,underlying243,fun w=>by kernel_rfl⟩
inductive ML where
 |ok (m:List UInt8×Nd)
 |bad (p:Nat) (e:Int)
def IH(nm r2:List UInt8):XR->ML
 |.ok t=>.ok (nm,t)
 |.bad p e=>.bad (r2.length-1-p) e
def tQ(kn:Kn)(r:List UInt8):ML:=
 if(aw r).takeWhile aj=[]then .bad (aw r).length 4
 else if fg kn ((aw r).takeWhile aj)≠0 then .bad (aw r).length (fg kn ((aw r).takeWhile aj))
 else if(aw ((aw r).dropWhile aj)).headD 0=61 then IH ((aw r).takeWhile aj) (aw ((aw r).dropWhile aj)) (fz kn (aw ((aw r).dropWhile aj)).tail)
 else .bad (aw ((aw r).dropWhile aj)).length 4
def IZ(O:Nat->Nat)(w:J1)(jm:Nat)(m:Nat)(v:J5)(bad e:Int)(kn:Kn):ML->Prop
 |.ok x=>e=0/\Mac O w jm v (kn++[x])
 |.bad p e'=>e=e'/\e'≠0/\bad=(m:Int)-(p:Int)
def atX:XR->Int
 |.ok _=>0
 |.bad p _=>(p:Int)
def IL:XR->Int
 |.ok _=>0
 |.bad _ e=>e
theorem PostX.shape{O:Nat->Nat}{w:J1}{v:J5}{M:XR}(h:PostX O w v M):∃x:N3,v=.tuple #[nv x,nI (atX M),nI (IL M)]/\x.2.2.oneCell'=true/\∀t,M=.ok t->Nt O w t x:=by
 cases M with
 |ok t=>obtain⟨x,rfl,hn⟩:=h;exact⟨x,rfl,hn.one,fun t e=>by cases e;exact hn⟩
 |bad p e=>obtain⟨rfl,_⟩:=h;exact⟨(0,0,nS),rfl,rfl,fun t e=>by cases e⟩
theorem kT{m:M3}(h:m.2.2.2.oneCell'=true):∀c∈lz m,c.oneCell'=true:=fun c hc=>by
 simp only[lz,Ji,JS,or_false]at hc
 rcases hc with rfl|rfl|rfl|rfl
 ·rfl
 ·rfl
 ·rfl
 exact h
theorem yN{O:Nat->Nat}{w:J1}{i:Nat}{v:J5}{ms:List M3}{nm:List UInt8}{x:N3}{t:Nd}(hr:JY lz 243 4 O w i v (ms++[(nm,x)]))(hl:kn.length=ms.length)(hk:∀q,q<ms.length->(nth kn q).1=(nth ms q).1/\Nt O w (nth kn q).2 (nth ms q).2)(hn:Nt O w t x):Mac O w i v (kn++[(nm,t)]):=by
 refine⟨_,hr,by simp[hl],fun q hq=>?_⟩;simp only[Jn,J9]at hq
 by_cases e:q<ms.length
 ·rw[aB (by simp;omega),aB (by simp;omega),J0 zo,J0 e,<-aB zo,<-aB e];exact hk q e
 obtain rfl:q=ms.length:=zo;rw[aB (by simp;omega),aB (by simp),GZ zo,GZ zo];simp[hl];exact hn
theorem Bm(B:Nat)(O:Nat → Nat)(w:J1)(j jm rb:Nat)(s:LS)(m:Nat)(r:List UInt8)(hR:KS B O w)(hj:j ≠ 0)(hjm:jm ≠ 0)(hne:j ≠ jm)(hm:m ≤ s.l.length)(hl:s.l.length ≤ 100000)(hto:s.to = (m:Int))(he:s.e = 0)
  (hr:r <:+ s.l.take m) (hp:s.pos = (m:Int) - (r.length:Int)) (hkl:kn.length ≤ 100000) (hmac:Mac O w jm s.mc kn) (h:Lh O w j rb s) :
  L2 JX 131 [nP rb] w fun _ w' => ∃O' v pos bad e, Jv (fun k => k = j ∨ k = jm) O w O' w' ∧ KS B O' w' ∧ Lh O' w' j rb {s with pos := pos, bad := bad, e := e, mc := v} ∧ IZ O' w' jm m v bad e kn (tQ kn r) := by
 obtain⟨T0, hT00, hT01⟩ := hR.bound
 obtain⟨T, hT0, hjmT, hT⟩:∃T, 0 < T ∧ jm < T ∧ ∀b, O b < T := ⟨T0 + jm + 1, by omega, by omega, fun b => by have := hT01 b; omega⟩
 clear hT00 hT01 T0
 have hjT:j < T := by rw[← h.tag]; exact hT rb
 have hz2:¬(fun q:Nat => q = j ∨ q = jm) 0 := fun e => by rcases e with e | e; exact hj e.symm; exact hjm e.symm
 have hz3:¬(fun q:Nat => q = j ∨ q = jm ∨ T ≤ q) 0 := fun e => by rcases e with e | e | e; exact hj e.symm; exact hjm e.symm; omega
 have hpv:∀ {O':Nat → Nat} {w':J1}, Jv (fun q => q = j ∨ q = jm ∨ T ≤ q) O w O' w' → Jv (fun q => q = j ∨ q = jm) O w O w' := fun hU => hU.fgt (S' := fun q => q = j ∨ q = jm) (fun b hb => by rcases hb with hb | hb | hb; exact KA hb; exact Kz hb; have := hT b; omega) hz2
 have hLl:(s.l.take m).length = m := by simp; omega
 refine J6 func131 ntmps131 rfl rfl ?_
 refine Gv ?_
 refine la ?_
 refine zv (ix rfl) ?_
 refine zv (aq rfl) ?_
 refine zv (RV.fa rfl) ?_
 refine zc KN (dX O w j rb s m r hj hm hl hto hr hp h) ?_
 rintro v w1 ⟨rfl, hb1, hU1⟩
 have hs1 := (bn r).trans hr
 have hm1 := hmac.upd hU1 hjm (fun e => hne e.symm)
 have hR1 := hR.upd hU1
 refine ka ?_
 refine az ?_
 refine Gv ?_
 refine la ?_
 refine zv (ix rfl) ?_
 refine zv (aq rfl) ?_
 refine zv (RV.fa rfl) ?_
 refine zv (RV.fa rfl) ?_
 refine zv (RV.ld hb1.q1 rfl) ?_
 refine zv (Gh rfl) ?_
 refine ka ?_
 refine az ?_
 refine Gv ?_
 refine la ?_
 refine zv (ix rfl) ?_
 refine zv (aq rfl) ?_
 refine zv (RV.fa rfl) ?_
 refine zc Le (gV O w1 j rb ({s with pos := (m:Int) - ((aw r).length:Int)}:LS) m (aw r) hj hm hl hto hs1 rfl hb1) ?_
 rintro v w2 ⟨rfl, hb2, hU2⟩
 have hs2 := (Gb aj).trans hs1
 have hm2 := hm1.upd hU2 hjm (fun e => hne e.symm)
 have hR2 := hR1.upd hU2
 have hUt2 := (hU1.trans hU2).mono (S' := fun q => q = j ∨ q = jm ∨ T ≤ q) (fun _ h => .inl h) hz3
 refine zv (Gh rfl) ?_
 refine ka ?_
 refine az ?_
 refine Gv ?_
 refine Gv ?_
 refine la ?_
 refine zv (ix rfl) ?_
 refine zv (cX rfl rfl) ?_
 refine ka ?_
 refine az ?_
 by_cases hnm:(aw r).takeWhile aj = []
 ·have hM:tQ kn r = .bad (aw r).length 4 := by unfold tQ; rw[if_pos hnm]
  rw[hM]
  refine aZ rfl ((by rw[hnm]; rfl)) ?_
  refine Gv ?_
  refine la ?_
  refine zv (ix rfl) ?_
  refine zv (aq rfl) ?_
  refine zv (RV.fa rfl) ?_
  refine zv (ix rfl) ?_
  refine zc JT (bI O w2 j rb ({s with pos := (m:Int) - (((aw r).dropWhile aj).length:Int)}:LS) ((m:Int) - ((aw r).length:Int)) 4 hj he hb2) ?_
  rintro u w3 ⟨hb3, hU3⟩
  refine ka ?_
  refine az ?_
  refine Lj ?_
  refine bT ?_
  exact cA rfl ⟨O, s.mc, _, _, _, hpv (hUt2.trans (hU3.mono (fun _ h => .inl h) hz3)), hR2.upd hU3, hb3, rfl, by decide, rfl⟩
 ·skip
  refine aS rfl ((by simpa using hnm)) ?_
  refine K2 ?_
  refine az ?_
  refine Gv ?_
  refine Gv ?_
  refine la ?_
  refine zv (ix rfl) ?_
  refine zv (ix rfl) ?_
  refine zc call157 (Az O w2 j jm rb ({s with pos := (m:Int) - (((aw r).dropWhile aj).length:Int)}:LS) ((aw r).takeWhile aj) hm2 hb2) ?_
  rintro v w3 ⟨rfl, hE3⟩
  have hX3:Jv (fun _ => False) O w2 O w3 := aa (fun h => h) O hE3
  have hb3 := hb2.upd hX3 hj (fun h => h)
  have hm3 := hm2.upd hX3 hjm (fun h => h)
  have hR3 := hR2.upd hX3
  have hUt3 := hUt2.trans (hX3.mono (fun _ h => h.elim) hz3)
  refine zv (Gh rfl) ?_
  refine ka ?_
  refine az ?_
  refine Gv ?_
  refine la ?_
  refine zv (ix rfl) ?_
  refine zv (LU rfl rfl) ?_
  refine ka ?_
  refine az ?_
  by_cases htk:fg kn ((aw r).takeWhile aj) = 0
  ·skip
   refine aS rfl ((by rw[htk]; rfl)) ?_
   have hMK:tQ kn r = if(aw ((aw r).dropWhile aj)).headD 0 = 61 then IH ((aw r).takeWhile aj) (aw ((aw r).dropWhile aj)) (fz kn (aw ((aw r).dropWhile aj)).tail)else .bad (aw ((aw r).dropWhile aj)).length 4 := by unfold tQ; rw[if_neg hnm, if_neg (by rw[htk]; simp)]
   generalize (aw r).takeWhile aj = nm at *
   generalize (aw r).dropWhile aj = q at *
   have hs5 := (bn q).trans hs2
   have hbd := hb3.drew
   have hmd := hm3.upd (aa (S := fun _ => False) (fun h => h) O (J4 w3).drew) hjm (fun h => h)
   have hRd := hR3.drew
   have hUd := hUt3.drew
   refine K2 ?_
   refine az ?_
   refine Gv ?_
   refine Gv ?_
   refine aI (fun V => V.cell? ⟨rb, 0, none⟩ = some (.string (bs s.l))) 19 rfl (by kernel_rfl) ?_
   refine zrm 0 rfl hbd.q0 rfl ?_
   refine zr 1 rfl hbd.q0 (fun _ => aq rfl) ?_
   refine zrf 2 rfl hbd.q0 rfl ?_
   refine Gc 3 (by kernel_rfl) rfl ?_
   refine zc KN (dX O w3.drew j rb ({s with pos := (m:Int) - (q.length:Int)}:LS) m q hj hm hl hto hs2 rfl hbd) ?_
   rintro v w5 ⟨rfl, hb5, hU5⟩
   have hm5 := hmd.upd hU5 hjm (fun e => hne e.symm)
   have hR5 := hRd.upd hU5
   have hUt5 := hUd.trans (hU5.mono (fun _ h => .inl h) hz3)
   generalize aw q = r2 at *
   have hr2l := hs5.length_le
   rw[hLl]at hr2l
   have hb5':JU O w5 j rb ({s with pos := (m:Int) - (r2.length:Int)}:LS).cells 170 := hb5
   clear hb5
   have hb5 := hb5'
   refine ka ?_
   refine zaf (hb5.q0) fun zS => ?_
   refine zr 4 rfl zS (fun _ => RV.not rfl) ?_
   refine zrm 5 rfl zS rfl ?_
   by_cases hr0:r2.length = 0
   ·have hrn:r2 = [] := List.eq_nil_of_length_eq_zero hr0
    have hM:tQ kn r = .bad r2.length 4 := by rw[hMK, if_neg (by rw[hrn]; decide)]
    rw[hM]
    refine bL (d := 44) rfl (b' := true) ((by rw[decide_eq_false (by omega)]; rfl)) ?_
    have hbe := hb5.drew
    refine zin (hb5.q0) fun zS => ?_
    refine zte 6 rfl rfl zS ?_
    refine zte 7 rfl rfl zS ?_
    refine zte 8 rfl rfl zS ?_
    refine zte 9 rfl rfl zS ?_
    refine zte 10 rfl rfl zS ?_
    refine zte 11 rfl rfl zS ?_
    refine zte 12 rfl rfl zS ?_
    refine zte 13 rfl rfl zS ?_
    refine zte 14 rfl rfl zS ?_
    refine zte 15 rfl rfl zS ?_
    refine zte 16 rfl rfl zS ?_
    refine zte 17 rfl rfl zS ?_
    refine zr 18 rfl zS (fun _ => aQ rfl rfl) ?_
    refine J8 (by kernel_rfl) ?_
    refine az ?_
    refine aZ rfl rfl ?_
    refine Gv ?_
    refine JV 8 rfl rfl (by kernel_rfl) (by kernel_rfl) ?_
    refine zw (ix rfl) ?_
    refine zw (aq rfl) ?_
    refine zw (RV.fa rfl) ?_
    refine zw (ix rfl) ?_
    refine zw (aq rfl) ?_
    refine zw (RV.fa rfl) ?_
    refine zw (RV.fa rfl) ?_
    refine zw (RV.ld hbe.q1 rfl) ?_
    refine Kp ?_
    refine zc JT (bI O w5.drew j rb ({s with pos := (m:Int) - (r2.length:Int)}:LS) ((m:Int) - (r2.length:Int)) 4 hj he hbe) ?_
    rintro u w6 ⟨hb6, hU6⟩
    refine ka ?_
    refine az ?_
    refine Lj ?_
    refine bT ?_
    exact cA rfl ⟨O, s.mc, _, _, _, hpv ((hUt5.drew).trans (hU6.mono (fun _ h => .inl h) hz3)), hR5.drew.upd hU6, hb6, rfl, by decide, rfl⟩
   ·have hrn:r2 ≠ [] := fun e => hr0 (by rw[e]; rfl)
    have hgh := mY (yp hs5 hrn)
    rw[hLl]at hgh
    refine bL (d := 44) rfl (b' := false) ((by rw[decide_eq_true (by omega)]; rfl)) ?_
    refine zin (hb5.q0) fun zS => ?_
    refine zro 6 rfl zS (fun _ => ix rfl) ?_
    refine zro 7 rfl zS (fun _ => aq rfl) ?_
    refine zro 8 rfl zS (fun _ => RV.fa rfl) ?_
    refine zro 9 rfl zS (fun _ => RV.fa rfl) ?_
    refine zto 10 rfl zS (fun w1 hw1 => RV.ld hw1 rfl) ?_
    refine zro 11 rfl zS (fun _ => ix rfl) ?_
    refine zro 12 rfl zS (fun _ => aq rfl) ?_
    refine zro 13 rfl zS (fun _ => RV.fa rfl) ?_
    refine zro 14 rfl zS (fun _ => RV.fa rfl) ?_
    refine Gc 15 (by kernel_rfl) rfl ?_
    refine Cl rfl ?_
    refine zv (RV.ld hb5.q1 rfl) ?_
    refine ka ?_
    refine zaf (hb5.q0) fun zS => ?_
    refine zro 16 rfl zS (fun _ => bt (c := r2.headD 0) JH rfl rfl (m - r2.length) (by dsimp only; omega) hgh) ?_
    refine zro 17 rfl zS (fun _ => LU rfl rfl) ?_
    refine zr 18 rfl zS (fun _ => aW rfl rfl) ?_
    refine J8 (by kernel_rfl) ?_
    refine az ?_
    by_cases hc:r2.headD 0 = 61
    ·have hMX:tQ kn r = IH nm r2 (fz kn r2.tail) := by rw[hMK, if_pos hc]
     obtain⟨k1, k2⟩ := cm (r := r2) (by rw[hc]; decide)
     have hts := k1.trans hs5
     refine aS rfl ((by rw[hc]; rfl)) ?_
     have hbe := hb5.drew
     have hme := hm5.upd (aa (S := fun _ => False) (fun h => h) O (J4 w5).drew) hjm (fun h => h)
     have hRe := hR5.drew
     have hUe := hUt5.drew
     have hseg:(s.l.take m).drop (m - r2.tail.length) = r2.tail := by have := DY hts; rwa[hLl]at this
     have hgX := yw (kn := kn) r2.tail
     generalize hMd:fz kn r2.tail = M at *
     refine K2 ?_
     refine az ?_
     refine Gv ?_
     refine iK (fun z:(Nat → Nat)×World×Nat×N3 => [(0, nP rb), (3, .string (bs nm)), (5, .pointer (some ⟨z.2.2.1, 0, none⟩)), (6, nI (atX M)), (7, nI (IL M))]) (fun z:(Nat → Nat)×World×Nat×N3 => z.2.1) (fun z:(Nat → Nat)×World×Nat×N3 => JU z.1 z.2.1 T z.2.2.1 #[nI z.2.2.2.1, nI z.2.2.2.2.1, z.2.2.2.2.2] 83 ∧ Lh z.1 z.2.1 j rb {s with pos := (m:Int) - (r2.length:Int)} ∧ Mac z.1 z.2.1 jm s.mc kn ∧ Jv (fun q => q = j ∨ q = jm ∨ T ≤ q) O w z.1 z.2.1 ∧ KS B z.1 z.2.1 ∧ z.2.2.2.2.2.oneCell' = true ∧ ∀t, M = .ok t → Nt z.1 z.2.1 t z.2.2.2) ?_ ?_
     ·intro hN
      refine aI (fun V => V.cell? ⟨rb, 0, none⟩ = some (.string (bs s.l)) ∧ V.cell? ⟨rb, 1, none⟩ = some (nI ((m:Int) - (r2.length:Int))) ∧ V.cell? ⟨rb, 2, none⟩ = some (nI s.to) ∧ V.cell? ⟨rb, 9, none⟩ = some s.mc) 30 rfl (by kernel_rfl) ?_
      refine zin ⟨hbe.q0, hbe.q1, hbe.q2, hbe.q9⟩ fun zS => ?_
      refine zrm 0 rfl zS rfl ?_
      refine zr 1 rfl zS (fun _ => aq rfl) ?_
      refine zrf 2 rfl zS rfl ?_
      refine zrf 3 rfl zS rfl ?_
      refine zt 4 rfl zS (fun w1 hw1 => RV.ld hw1.1 rfl) ?_
      refine zrm 5 rfl zS rfl ?_
      refine zr 6 rfl zS (fun _ => aq rfl) ?_
      refine zrf 7 rfl zS rfl ?_
      refine zrf 8 rfl zS rfl ?_
      refine zt 9 rfl zS (fun w1 hw1 => RV.ld hw1.2.1 rfl) ?_
      refine zr 10 rfl zS (fun _ => JI rfl rfl (Jw (by omega))) ?_
      refine zrm 11 rfl zS rfl ?_
      refine zr 12 rfl zS (fun _ => aq rfl) ?_
      refine zrf 13 rfl zS rfl ?_
      refine zrf 14 rfl zS rfl ?_
      refine zt 15 rfl zS (fun w1 hw1 => RV.ld hw1.2.2.1 rfl) ?_
      refine zr 16 rfl zS (fun _ => dc JH rfl rfl rfl (m - r2.tail.length) m (by omega) hto (by omega) hm) ?_
      refine zrm 17 rfl zS rfl ?_
      refine zr 18 rfl zS (fun _ => aq rfl) ?_
      refine zrf 19 rfl zS rfl ?_
      refine zt 20 rfl zS (fun w1 hw1 => RV.ld hw1.2.2.2 rfl) ?_
      rw[hseg]
      refine bV 21 26 (by kernel_rfl) rfl rfl ?_ ?_
      ·skip
       refine zc call158 (lH s.mc r2.tail B O (forget jm O) w5.drew hRe hRe.forget (hme.known hjm hRe)) ?_
       rintro v w6 ⟨hE6, hP6⟩
       rw[hMd]at hP6
       obtain⟨x, rfl, hxo, hxn⟩ := hP6.shape
       have hX6:Jv (fun _ => False) O w5.drew O w6 := aa (fun h => h) O hE6
       have hb6 := hbe.upd hX6 hj (fun h => h)
       have hm6 := hme.upd hX6 hjm (fun h => h)
       have hR6 := hRe.upd hX6
       have hU6 := hUe.trans (hX6.mono (fun _ h => h.elim) hz3)
       refine ka ?_
       refine zaf (⟨hb6.q0, hb6.q1, hb6.q2, hb6.q9⟩) fun zS => ?_
       refine zrm 22 rfl zS rfl ?_
       refine zr 23 rfl zS (fun _ => K7 rfl rfl) ?_
       refine zr 24 rfl zS (fun _ => K7 rfl rfl) ?_
       refine zr 25 rfl zS (fun _ => K7 rfl rfl) ?_
       refine Gc 26 (by kernel_rfl) rfl ?_
       refine ax hR6 T (by omega) (Kh _) rfl ?_
       intro nb w7 O7 hn7 hX7 hR7 hE7
       have hb7 := hb6.upd hX7 hj (by omega)
       have hm7 := hm6.upd hX7 hjm (by omega)
       have hU7 := hU6.trans (hX7.mono (fun _ h => .inr (.inr (JE h.symm))) hz3)
       refine ka ?_
       refine af (⟨hb7.q0, hb7.q1, hb7.q2, hb7.q9⟩) ?_
       refine Gc 27 (by kernel_rfl) rfl ?_
       refine zsb (us := #[nI x.1, nI x.2.1, x.2.2]) hn7 (K9 _) (cn hxo) ?_
       have hnz := Kx (us := #[nI x.1, nI x.2.1, x.2.2]) hn7
       have hXz:Jv (fun q => q = T) O7 w7 O7 (Ki w7 nb #[nI x.1, nI x.2.1, x.2.2]) := Jp (by omega) (LV hn7) rfl
       have hbz := ln hb7 hXz hj (by omega)
       refine ka ?_
       refine zaf (⟨hbz.q0, hbz.q1, hbz.q2, hbz.q9⟩) fun zS => ?_
       refine zra 28 rfl zS rfl ?_
       refine zra 29 rfl zS rfl ?_
       refine J8 (by kernel_rfl) ?_
       exact eD (hN ((O7, Ki w7 nb #[nI x.1, nI x.2.1, x.2.2], nb, x)) (⟨hnz, hbz, M9 hm7 hXz hjm (by omega), KO hU7 (hXz.mono (fun _ h => .inr (.inr (JE h.symm))) hz3), Lk hR7 hXz, hxo, fun t e => Nt.upd ((fun t e => (hxn t e).upd hX7) t e) hXz⟩)) ⟨rfl, rfl, rfl, rfl, rfl, trivial⟩ rfl
      ·skip
       refine ax hRe T (by omega) (Kh _) rfl ?_
       intro nb w6 O6 hn6 hX6 hR6 hE6
       have hb6 := hbe.upd hX6 hj (by omega)
       have hm6 := hme.upd hX6 hjm (by omega)
       have hU6 := hUe.trans (hX6.mono (fun _ h => .inr (.inr (JE h.symm))) hz3)
       refine ka ?_
       refine af (⟨hb6.q0, hb6.q1, hb6.q2, hb6.q9⟩) ?_
       refine Gc 21 (by kernel_rfl) rfl ?_
       refine zc call158 (lH s.mc r2.tail B O6 (forget jm O6) w6 hR6 hR6.forget (hm6.known hjm hR6)) ?_
       rintro v w7 ⟨hE7, hP7⟩
       rw[hMd]at hP7
       obtain⟨x, rfl, hxo, hxn⟩ := hP7.shape
       have hX7:Jv (fun _ => False) O6 w6 O6 w7 := aa (fun h => h) O6 hE7
       have hn7 := hn6.upd hX7 (by omega) (fun h => h)
       have hb7 := hb6.upd hX7 hj (fun h => h)
       have hm7 := hm6.upd hX7 hjm (fun h => h)
       have hR7 := hR6.upd hX7
       have hU7 := hU6.trans (hX7.mono (fun _ h => h.elim) hz3)
       refine ka ?_
       refine zaf (⟨hb7.q0, hb7.q1, hb7.q2, hb7.q9⟩) fun zS => ?_
       refine zrm 22 rfl zS rfl ?_
       refine zr 23 rfl zS (fun _ => K7 rfl rfl) ?_
       refine zr 24 rfl zS (fun _ => K7 rfl rfl) ?_
       refine zr 25 rfl zS (fun _ => K7 rfl rfl) ?_
       refine Gc 27 (by kernel_rfl) rfl ?_
       refine zsb (us := #[nI x.1, nI x.2.1, x.2.2]) hn7 (K9 _) (cn hxo) ?_
       have hnz := Kx (us := #[nI x.1, nI x.2.1, x.2.2]) hn7
       have hXz:Jv (fun q => q = T) O6 w7 O6 (Ki w7 nb #[nI x.1, nI x.2.1, x.2.2]) := Jp (by omega) (LV hn7) rfl
       have hbz := ln hb7 hXz hj (by omega)
       refine ka ?_
       refine zaf (⟨hbz.q0, hbz.q1, hbz.q2, hbz.q9⟩) fun zS => ?_
       refine zra 28 rfl zS rfl ?_
       refine zra 29 rfl zS rfl ?_
       refine J8 (by kernel_rfl) ?_
       exact eD (hN ((O6, Ki w7 nb #[nI x.1, nI x.2.1, x.2.2], nb, x)) (⟨hnz, hbz, M9 hm7 hXz hjm (by omega), KO hU7 (hXz.mono (fun _ h => .inr (.inr (JE h.symm))) hz3), Lk hR7 hXz, hxo, fun t e => Nt.upd (hxn t e) hXz⟩)) ⟨rfl, rfl, rfl, rfl, rfl, trivial⟩ rfl
     ·rintro⟨O8, w8, nb, x⟩ ⟨hn8, hb8, hm8, hU8, hR8, hxo, hxn⟩
      dsimp only at hn8 hb8 hm8 hU8 hR8 hxo hxn ⊢
      refine az ?_
      refine Gv ?_
      refine Gv ?_
      refine la ?_
      refine zv (ix rfl) ?_
      refine zv (LU rfl rfl) ?_
      refine ka ?_
      refine az ?_
      cases M with
      |ok t =>
       rw[hMX]
       refine aS rfl rfl ?_
       have hnt := hxn t rfl
       obtain⟨ms, hrow, hkl2, hke⟩ := hm8
       have hrowD := LO hrow
       have hRD := M4 hR8
       have hbD := Ke hb8
       have hnD := Ke hn8
       have hUD := M1 hU8
       refine K2 ?_
       refine az ?_
       refine aI (fun V => ∀(q:Nat) (u:J5), (aY x)[q]? = some u → V.cell? (nA nb q) = some u) 13 rfl (by kernel_rfl) ?_
       refine zin hnD.cellsAdd fun zS => ?_
       refine zrm 0 rfl zS rfl ?_
       refine zrm 1 rfl zS rfl ?_
       refine zr 2 rfl zS (fun _ => aq rfl) ?_
       refine zrf 3 rfl zS rfl ?_
       refine zrm 5 rfl zS rfl ?_
       refine zt 6 rfl zS (fun w1 hw1 => ai (us := aY x) hw1 (LB _) (K9 _) rfl) ?_
       refine zr 7 rfl zS (fun _ => Kg (vs := [(0, .string (bs nm)), (1, nv x)]) (cells := (lz (nm, x)).toArray) GP (LX _) rfl (by kernel_rfl)) ?_
       refine bV 4 8 (by kernel_rfl) rfl rfl ?_ ?_
       ·skip
        refine zv (RV.ld hbD.q9 rfl) ?_
        refine ka ?_
        refine af hnD.cellsAdd ?_
        refine Gc 8 (by kernel_rfl) rfl ?_
        refine aL elM (enc := lz) (nm, x) rfl rfl rfl (by decide) rfl ?_
        intro w9 h9 hE9
        have hX9:Jv (fun _ => False) O8 (KI w8) O8 w9 := aa (fun h => h) O8 hE9
        have hb9 := hbD.upd hX9 hj (fun h => h)
        have hn9 := hnD.upd hX9 (by omega) (fun h => h)
        have hrow9 := hrowD.upd hX9 hjm (fun h => h)
        have hR9 := hRD.upd hX9
        have hU9 := hUD.trans (hX9.mono (fun _ h => h.elim) hz3)
        refine ka ?_
        refine af hn9.cellsAdd ?_
        have hone9:∀u ∈ [((nm, x):M3)], ∀c ∈ lz u, c.oneCell' = true := fun u hu => by
         rw[GT.1 hu]; exact kT hxo
        refine Gc 9 (by kernel_rfl) rfl ?_
        refine aC elM hrow9 hR9 h9 (by simp) rfl rfl (fun _ _ => rfl) hone9 (by simp; omega) (by simp; omega) (by omega) rfl ?_
        intro lv10 w10 O10 hrow10 hX10 hR10
        have hb10 := ln hb9 hX10 hj (by omega)
        have hn10 := ln hn9 hX10 (by omega) (by omega)
        have hl10 := hrow10.one
        have hU10 := hU9.trans (hX10.mono (fun _ h => .inr (.inl h)) hz3)
        refine ka ?_
        refine zaf (hn10.cellsAdd) fun zS => ?_
        refine zr 10 rfl zS (fun _ => aq rfl) ?_
        refine zrf 11 rfl zS rfl ?_
        refine Gc 12 (by kernel_rfl) rfl ?_
        refine ak (j := 9) hb10 rfl (L9 _) hl10 rfl rfl rfl ?_
        have hX11:Jv (fun q => q = j) O10 w10 O10 (JF w10 ⟨rb, 9, none⟩ lv10) := Jr (fun e => hj e.symm) hb10.tag rfl
        have hb11:JU O10 (JF w10 ⟨rb, 9, none⟩ lv10) j rb ({({s with pos := (m:Int) - (r2.length:Int)}:LS)with mc := lv10}:LS).cells 170 := hb10.set 9 lv10
        have hn11 := hn10.upd hX11 (by omega) (by omega)
        have hrow11 := hrow10.upd hX11 hjm (fun e => hne e.symm)
        have hU11 := hU10.trans (hX11.mono (fun _ h => .inl h) hz3)
        have hR11 := hR10.upd hX11
        refine ka ?_
        refine af (hn11.cellsAdd) ?_
        refine J8 (by kernel_rfl) ?_
        have hUz := L1 hU11 hT (S' := fun q => q = j ∨ q = jm) (fun b hb => by rcases hb with hb | hb | hb; exact KA hb; exact Kz hb; have := hT b; omega) hz2
        exact aH rfl ⟨lowT O10 T, lv10, _, _, _, hUz, hR11.lowT T, hb11.lowT hjT, he, yN (hrow11.lowT hjmT) hkl2 (fun q hq => ⟨(hke q hq).1, (((((hke q hq).2.drew).upd hX9).upd hX10).upd hX11).weak (fun b hb => kG hb)⟩) (((((hnt.drew).upd hX9).upd hX10).upd hX11).weak (fun b hb => kG hb))⟩
       ·skip
        refine aL elM (enc := lz) (nm, x) rfl rfl rfl (by decide) rfl ?_
        intro w9 h9 hE9
        have hX9:Jv (fun _ => False) O8 (KI w8) O8 w9 := aa (fun h => h) O8 hE9
        have hb9 := hbD.upd hX9 hj (fun h => h)
        have hn9 := hnD.upd hX9 (by omega) (fun h => h)
        have hrow9 := hrowD.upd hX9 hjm (fun h => h)
        have hR9 := hRD.upd hX9
        have hU9 := hUD.trans (hX9.mono (fun _ h => h.elim) hz3)
        refine ka ?_
        refine af hn9.cellsAdd ?_
        refine Gc 4 (by kernel_rfl) rfl ?_
        refine zv (RV.ld hb9.q9 rfl) ?_
        refine ka ?_
        refine af hn9.cellsAdd ?_
        have hone9:∀u ∈ [((nm, x):M3)], ∀c ∈ lz u, c.oneCell' = true := fun u hu => by
         rw[GT.1 hu]; exact kT hxo
        refine Gc 9 (by kernel_rfl) rfl ?_
        refine aC elM hrow9 hR9 h9 (by simp) rfl rfl (fun _ _ => rfl) hone9 (by simp; omega) (by simp; omega) (by omega) rfl ?_
        intro lv10 w10 O10 hrow10 hX10 hR10
        have hb10 := ln hb9 hX10 hj (by omega)
        have hn10 := ln hn9 hX10 (by omega) (by omega)
        have hl10 := hrow10.one
        have hU10 := hU9.trans (hX10.mono (fun _ h => .inr (.inl h)) hz3)
        refine ka ?_
        refine zaf (hn10.cellsAdd) fun zS => ?_
        refine zr 10 rfl zS (fun _ => aq rfl) ?_
        refine zrf 11 rfl zS rfl ?_
        refine Gc 12 (by kernel_rfl) rfl ?_
        refine ak (j := 9) hb10 rfl (L9 _) hl10 rfl rfl rfl ?_
        have hX11:Jv (fun q => q = j) O10 w10 O10 (JF w10 ⟨rb, 9, none⟩ lv10) := Jr (fun e => hj e.symm) hb10.tag rfl
        have hb11:JU O10 (JF w10 ⟨rb, 9, none⟩ lv10) j rb ({({s with pos := (m:Int) - (r2.length:Int)}:LS)with mc := lv10}:LS).cells 170 := hb10.set 9 lv10
        have hn11 := hn10.upd hX11 (by omega) (by omega)
        have hrow11 := hrow10.upd hX11 hjm (fun e => hne e.symm)
        have hU11 := hU10.trans (hX11.mono (fun _ h => .inl h) hz3)
        have hR11 := hR10.upd hX11
        refine ka ?_
        refine af (hn11.cellsAdd) ?_
        refine J8 (by kernel_rfl) ?_
        have hUz := L1 hU11 hT (S' := fun q => q = j ∨ q = jm) (fun b hb => by rcases hb with hb | hb | hb; exact KA hb; exact Kz hb; have := hT b; omega) hz2
        exact aH rfl ⟨lowT O10 T, lv10, _, _, _, hUz, hR11.lowT T, hb11.lowT hjT, he, yN (hrow11.lowT hjmT) hkl2 (fun q hq => ⟨(hke q hq).1, (((((hke q hq).2.drew).upd hX9).upd hX10).upd hX11).weak (fun b hb => kG hb)⟩) (((((hnt.drew).upd hX9).upd hX10).upd hX11).weak (fun b hb => kG hb))⟩
      |bad p e =>
       have hne7 := (hgX p e rfl).1
       have hple := (hgX p e rfl).2
       rw[hMX]
       refine aZ rfl ((by simpa[IL]using hne7)) ?_
       have hb8d := hb8.drew
       have hn8d := hn8.drew
       have hm8d := hm8.upd (aa (S := fun _ => False) (fun h => h) O8 (J4 w8).drew) hjm (fun h => h)
       refine JV 12 rfl rfl (by kernel_rfl) (by kernel_rfl) ?_
       refine zw (ix rfl) ?_
       refine zw (aq rfl) ?_
       refine zw (RV.fa rfl) ?_
       refine zw (ix rfl) ?_
       refine zw (aq rfl) ?_
       refine zw (RV.fa rfl) ?_
       refine zw (RV.fa rfl) ?_
       refine zw (RV.ld hb8d.q1 rfl) ?_
       refine zw (JI rfl rfl (Jw (by dsimp only; omega))) ?_
       refine zw (ix rfl) ?_
       refine zw (JI rfl rfl (Jw (by dsimp only[atX]; omega))) ?_
       refine zw (ix rfl) ?_
       refine Kp ?_
       refine zc JT (bI O8 w8.drew j rb ({s with pos := (m:Int) - (r2.length:Int)}:LS) (((m:Int) - (r2.length:Int)) + 1 + (p:Int)) e hj he hb8d) ?_
       rintro u wf ⟨hbf, hUf⟩
       have hnf' := hn8d.upd hUf (by omega) (by omega)
       have hmf' := hm8d.upd hUf hjm (fun e => hne e.symm)
       have hRf' := hR8.drew.upd hUf
       have hUf' := (hU8.drew).trans (hUf.mono (S' := fun q => q = j ∨ q = jm ∨ T ≤ q) (fun _ h => .inl h) hz3)
       have hbf':JU O8 wf j rb ({s with pos := (m:Int) - (r2.length:Int), bad := ((m:Int) - (r2.length:Int)) + 1 + (p:Int), e := e}:LS).cells 170 := hbf
       clear hbf
       obtain⟨ms, hrow, hkl2, hke⟩ := hmf'
       have hrowD := LO hrow
       have hRD := M4 hRf'
       have hbD := Ke hbf'
       have hnD := Ke hnf'
       have hUD := M1 hUf'
       refine ka ?_
       refine az ?_
       refine aI (fun V => ∀(q:Nat) (u:J5), (aY x)[q]? = some u → V.cell? (nA nb q) = some u) 13 rfl (by kernel_rfl) ?_
       refine zin hnD.cellsAdd fun zS => ?_
       refine zrm 0 rfl zS rfl ?_
       refine zrm 1 rfl zS rfl ?_
       refine zr 2 rfl zS (fun _ => aq rfl) ?_
       refine zrf 3 rfl zS rfl ?_
       refine zrm 5 rfl zS rfl ?_
       refine zt 6 rfl zS (fun w1 hw1 => ai (us := aY x) hw1 (LB _) (K9 _) rfl) ?_
       refine zr 7 rfl zS (fun _ => Kg (vs := [(0, .string (bs nm)), (1, nv x)]) (cells := (lz (nm, x)).toArray) GP (LX _) rfl (by kernel_rfl)) ?_
       refine bV 4 8 (by kernel_rfl) rfl rfl ?_ ?_
       ·skip
        refine zv (RV.ld hbD.q9 rfl) ?_
        refine ka ?_
        refine af hnD.cellsAdd ?_
        refine Gc 8 (by kernel_rfl) rfl ?_
        refine aL elM (enc := lz) (nm, x) rfl rfl rfl (by decide) rfl ?_
        intro w9 h9 hE9
        have hX9:Jv (fun _ => False) O8 (KI wf) O8 w9 := aa (fun h => h) O8 hE9
        have hb9 := hbD.upd hX9 hj (fun h => h)
        have hn9 := hnD.upd hX9 (by omega) (fun h => h)
        have hrow9 := hrowD.upd hX9 hjm (fun h => h)
        have hR9 := hRD.upd hX9
        have hU9 := hUD.trans (hX9.mono (fun _ h => h.elim) hz3)
        refine ka ?_
        refine af hn9.cellsAdd ?_
        have hone9:∀u ∈ [((nm, x):M3)], ∀c ∈ lz u, c.oneCell' = true := fun u hu => by
         rw[GT.1 hu]; exact kT hxo
        refine Gc 9 (by kernel_rfl) rfl ?_
        refine aC elM hrow9 hR9 h9 (by simp) rfl rfl (fun _ _ => rfl) hone9 (by simp; omega) (by simp; omega) (by omega) rfl ?_
        intro lv10 w10 O10 hrow10 hX10 hR10
        have hb10 := ln hb9 hX10 hj (by omega)
        have hn10 := ln hn9 hX10 (by omega) (by omega)
        have hl10 := hrow10.one
        have hU10 := hU9.trans (hX10.mono (fun _ h => .inr (.inl h)) hz3)
        refine ka ?_
        refine zaf (hn10.cellsAdd) fun zS => ?_
        refine zr 10 rfl zS (fun _ => aq rfl) ?_
        refine zrf 11 rfl zS rfl ?_
        refine Gc 12 (by kernel_rfl) rfl ?_
        refine ak (j := 9) hb10 rfl (L9 _) hl10 rfl rfl rfl ?_
        have hX11:Jv (fun q => q = j) O10 w10 O10 (JF w10 ⟨rb, 9, none⟩ lv10) := Jr (fun e => hj e.symm) hb10.tag rfl
        have hb11:JU O10 (JF w10 ⟨rb, 9, none⟩ lv10) j rb ({({s with pos := (m:Int) - (r2.length:Int), bad := ((m:Int) - (r2.length:Int)) + 1 + (p:Int), e := e}:LS)with mc := lv10}:LS).cells 170 := hb10.set 9 lv10
        have hn11 := hn10.upd hX11 (by omega) (by omega)
        have hrow11 := hrow10.upd hX11 hjm (fun e => hne e.symm)
        have hU11 := hU10.trans (hX11.mono (fun _ h => .inl h) hz3)
        have hR11 := hR10.upd hX11
        refine ka ?_
        refine af (hn11.cellsAdd) ?_
        refine J8 (by kernel_rfl) ?_
        have hUz := L1 hU11 hT (S' := fun q => q = j ∨ q = jm) (fun b hb => by rcases hb with hb | hb | hb; exact KA hb; exact Kz hb; have := hT b; omega) hz2
        exact aH rfl ⟨lowT O10 T, lv10, _, _, _, hUz, hR11.lowT T, hb11.lowT hjT, rfl, hne7, by dsimp only; omega⟩
       ·skip
        refine aL elM (enc := lz) (nm, x) rfl rfl rfl (by decide) rfl ?_
        intro w9 h9 hE9
        have hX9:Jv (fun _ => False) O8 (KI wf) O8 w9 := aa (fun h => h) O8 hE9
        have hb9 := hbD.upd hX9 hj (fun h => h)
        have hn9 := hnD.upd hX9 (by omega) (fun h => h)
        have hrow9 := hrowD.upd hX9 hjm (fun h => h)
        have hR9 := hRD.upd hX9
        have hU9 := hUD.trans (hX9.mono (fun _ h => h.elim) hz3)
        refine ka ?_
        refine af hn9.cellsAdd ?_
        refine Gc 4 (by kernel_rfl) rfl ?_
        refine zv (RV.ld hb9.q9 rfl) ?_
        refine ka ?_
        refine af hn9.cellsAdd ?_
        have hone9:∀u ∈ [((nm, x):M3)], ∀c ∈ lz u, c.oneCell' = true := fun u hu => by
         rw[GT.1 hu]; exact kT hxo
        refine Gc 9 (by kernel_rfl) rfl ?_
        refine aC elM hrow9 hR9 h9 (by simp) rfl rfl (fun _ _ => rfl) hone9 (by simp; omega) (by simp; omega) (by omega) rfl ?_
        intro lv10 w10 O10 hrow10 hX10 hR10
        have hb10 := ln hb9 hX10 hj (by omega)
        have hn10 := ln hn9 hX10 (by omega) (by omega)
        have hl10 := hrow10.one
        have hU10 := hU9.trans (hX10.mono (fun _ h => .inr (.inl h)) hz3)
        refine ka ?_
        refine zaf (hn10.cellsAdd) fun zS => ?_
        refine zr 10 rfl zS (fun _ => aq rfl) ?_
        refine zrf 11 rfl zS rfl ?_
        refine Gc 12 (by kernel_rfl) rfl ?_
        refine ak (j := 9) hb10 rfl (L9 _) hl10 rfl rfl rfl ?_
        have hX11:Jv (fun q => q = j) O10 w10 O10 (JF w10 ⟨rb, 9, none⟩ lv10) := Jr (fun e => hj e.symm) hb10.tag rfl
        have hb11:JU O10 (JF w10 ⟨rb, 9, none⟩ lv10) j rb ({({s with pos := (m:Int) - (r2.length:Int), bad := ((m:Int) - (r2.length:Int)) + 1 + (p:Int), e := e}:LS)with mc := lv10}:LS).cells 170 := hb10.set 9 lv10
        have hn11 := hn10.upd hX11 (by omega) (by omega)
        have hrow11 := hrow10.upd hX11 hjm (fun e => hne e.symm)
        have hU11 := hU10.trans (hX11.mono (fun _ h => .inl h) hz3)
        have hR11 := hR10.upd hX11
        refine ka ?_
        refine af (hn11.cellsAdd) ?_
        refine J8 (by kernel_rfl) ?_
        have hUz := L1 hU11 hT (S' := fun q => q = j ∨ q = jm) (fun b hb => by rcases hb with hb | hb | hb; exact KA hb; exact Kz hb; have := hT b; omega) hz2
        exact aH rfl ⟨lowT O10 T, lv10, _, _, _, hUz, hR11.lowT T, hb11.lowT hjT, rfl, hne7, by dsimp only; omega⟩
    ·have hM:tQ kn r = .bad r2.length 4 := by rw[hMK, if_neg hc]
     rw[hM]
     refine aZ rfl ((xj _ 61 (by decide) hc)) ?_
     have hbe := hb5.drew
     refine Gv ?_
     refine JV 8 rfl rfl (by kernel_rfl) (by kernel_rfl) ?_
     refine zw (ix rfl) ?_
     refine zw (aq rfl) ?_
     refine zw (RV.fa rfl) ?_
     refine zw (ix rfl) ?_
     refine zw (aq rfl) ?_
     refine zw (RV.fa rfl) ?_
     refine zw (RV.fa rfl) ?_
     refine zw (RV.ld hbe.q1 rfl) ?_
     refine Kp ?_
     refine zc JT (bI O w5.drew j rb ({s with pos := (m:Int) - (r2.length:Int)}:LS) ((m:Int) - (r2.length:Int)) 4 hj he hbe) ?_
     rintro u w6 ⟨hb6, hU6⟩
     refine ka ?_
     refine az ?_
     refine Lj ?_
     refine bT ?_
     exact cA rfl ⟨O, s.mc, _, _, _, hpv ((hUt5.drew).trans (hU6.mono (fun _ h => .inl h) hz3)), hR5.drew.upd hU6, hb6, rfl, by decide, rfl⟩
  ·have hM:tQ kn r = .bad (aw r).length (fg kn ((aw r).takeWhile aj)) := by unfold tQ; rw[if_neg hnm, if_pos htk]
   rw[hM]
   refine aZ rfl ((by simpa using htk)) ?_
   refine Gv ?_
   refine la ?_
   refine zv (ix rfl) ?_
   refine zv (aq rfl) ?_
   refine zv (RV.fa rfl) ?_
   refine zv (ix rfl) ?_
   refine zv (ix rfl) ?_
   refine zc JT (bI O w3 j rb ({s with pos := (m:Int) - (((aw r).dropWhile aj).length:Int)}:LS) ((m:Int) - ((aw r).length:Int)) (fg kn ((aw r).takeWhile aj)) hj he hb3) ?_
   rintro u w4 ⟨hb4, hU4⟩
   refine ka ?_
   refine az ?_
   refine Lj ?_
   refine bT ?_
   exact cA rfl ⟨O, s.mc, _, _, _, hpv (hUt3.trans (hU4.mono (fun _ h => .inl h) hz3)), hR3.upd hU4, hb4, rfl, htk, rfl⟩
end
theorem I7:Elem JX 22 3 1 8:=⟨J2,by kernel_rfl,zd⟩
inductive LM where
 |ok (l:List Int)
 |bad (p:Nat) (e:Int)
def gS:Nat->List Int->List UInt8->LM
 |0,acc,_=>.ok acc
 |n+1,acc,r=>
  if(aw r).length=0 then .ok acc
  else if(aw r).takeWhile aj=[]then .bad (aw r).length 4
  else match A7 ((aw r).takeWhile aj)with
   |none=>.bad (aw r).length 5
   |some c=>gS n (acc++[(c:Int)]) ((aw r).dropWhile aj)
def IG:LM->LM
 |.bad p e=>.bad p e
 |.ok []=>.bad 0 4
 |.ok (a::l)=>.ok (L8 (gT (a::l)))
def dt(r:List UInt8):LM:=IG (gS (r.length+1) [] r)
theorem sM{x:List UInt8}(h:x.takeWhile aj≠[]):(x.dropWhile aj).length<x.length:=by
 have:=congrArg Kw (List.takeWhile_append_dropWhile (p:=aj) (l:=x));rw[Jn]at this;have:=List.length_pos_iff.2 h;omega
def Ii(m:Nat)(w':J1)(O':Nat->Nat)(ji:Nat)(lv:J5)(bad e:Int):LM->Prop
 |.ok l=>e=0/\JY encI 3 1 O' w' ji lv l
 |.bad p e'=>e=e'/\e'≠0/\bad=(m:Int)-(p:Int)
theorem qh(O:Nat->Nat)(w:J1)(j rb:Nat)(s:LS)(hj:j≠0)(he:s.e=0)(a0:s.i=true)(h:Lh O w j rb s):
  L2 JX 132 [nP rb,.pointer (some ⟨rb,6,none⟩),.pointer (some ⟨rb,10,none⟩)] w fun _ w'=>Lh O w' j rb {s with bad:=s.bg,e:=11}/\Jv (fun k=>k=j) O w O w':=by
 have q0:=h.q10;rw[a0]at q0;have q3:=h.q3;have hd:=h.drew;have a3:Jv (fun k=>k=j) O w O w.drew:=(L0 (fun e=>hj e.symm) O w).drew;refine J6 LD Lq rfl rfl ?_;refine zg ?_;refine zvG (RV.ld q0 rfl) ?_;refine zTG rfl rfl ?_;refine JV 8 rfl rfl zk zk ?_;refine zg ?_;refine zw (RV.ld q3 rfl) ?_;refine Kp ?_;refine zc JT (bI O w.drew j rb s s.bg 11 hj he hd) ?_;rintro u w1 ⟨a1,a2⟩;refine zg ?_;exact cA rfl ⟨a1,a3.trans a2⟩
theorem qg(O:Nat->Nat)(w:J1)(j rb:Nat)(s:LS)(hj:j≠0)(he:s.e=0)(a0:s.k=true)(h:Lh O w j rb s):
  L2 JX 132 [nP rb,.pointer (some ⟨rb,7,none⟩),.pointer (some ⟨rb,11,none⟩)] w fun _ w'=>Lh O w' j rb {s with bad:=s.bg,e:=11}/\Jv (fun k=>k=j) O w O w':=by
 have q0:=h.q11;rw[a0]at q0;have q3:=h.q3;have hd:=h.drew;have a3:Jv (fun k=>k=j) O w O w.drew:=(L0 (fun e=>hj e.symm) O w).drew;refine J6 LD Lq rfl rfl ?_;refine zg ?_;refine zvG (RV.ld q0 rfl) ?_;refine zTG rfl rfl ?_;refine JV 8 rfl rfl zk zk ?_;refine zg ?_;refine zw (RV.ld q3 rfl) ?_;refine Kp ?_;refine zc JT (bI O w.drew j rb s s.bg 11 hj he hd) ?_;rintro u w1 ⟨a1,a2⟩;refine zg ?_;exact cA rfl ⟨a1,a3.trans a2⟩
theorem sL:∀(n:Nat) (a0:List Int) (r:List UInt8) (p:Nat) (e:Int),gS n a0 r=.bad p e->p<=r.length
 |0,_,_,_,_,h=>by cases h
 |n+1,a0,r,p,e,h=>by
  have hs:=dy r;unfold gS at h
  split at h
  ·cases h
  split at h
  ·cases h;exact hs
  split at h
  ·cases h;exact hs
  have h1:=sL n _ _ p e h;have h2:=(Gb (l:=aw r) aj).length_le;omega
theorem ng{r:List UInt8}{p:Nat}{e:Int}(h:dt r=.bad p e):p<=r.length:=by
 unfold dt at h
 cases hw:gS (r.length+1) [] r with
 |bad q f=>rw[hw]at h;cases h;exact sL _ _ _ _ _ hw
 |ok l=>
  rw[hw]at h
  cases l with
  |nil=>cases h;exact J3 _
  |cons a l=>cases h
theorem tN(B:Nat)(O:Nat->Nat)(w:J1)(j ji rb:Nat)(s:LS)(m:Nat)(r0:List UInt8)(hR:KS B O w)(hj:j≠0)(a8:ji≠0)(a9:j≠ji)(hm:m<=s.l.length)(hl:s.l.length<=100000)(d6:s.to=(m:Int))(he:s.e=0)(g1:s.i=false)(g2:s.ig=sG)
  (hr:r0 <:+ s.l.take m) (hp:s.pos=(m:Int)-(r0.length:Int)) (h:Lh O w j rb s) :
  L2 JX 132 [nP rb,.pointer (some ⟨rb,6,none⟩),.pointer (some ⟨rb,10,none⟩)] w fun _ w'=>∃O' lv pos bad e,Jv (fun k=>k=j\/k=ji) O w O' w'/\KS B O' w'/\Lh O' w' j rb {s with pos:=pos,bad:=bad,e:=e,ig:=lv,i:=true}/\Ii m w' O' ji lv bad e (dt r0):=by
 have a0:¬(fun q:Nat=>q=j\/q=ji) 0:=fun e=>by rcases e with e|e;exact hj e.symm;exact a8 e.symm
 have h1:r0.length<=m:=by have:=hr.length_le;simp at this;omega
 have q0:=h.q10;rw[g1]at q0;refine J6 LD Lq rfl rfl ?_;refine zg ?_;refine zvG (RV.ld q0 rfl) ?_;refine zFG rfl rfl ?_;refine ak (j:=10) h rfl (JA _) rfl rfl rfl rfl ?_;have g4:Lh O (w.setCell ⟨rb,10,none⟩ (.bool true)) j rb {s with i:=true}:=LW h 10 _;have f6:Jv (fun k=>k=j) O w O (w.setCell ⟨rb,10,none⟩ (.bool true)):=Jr (fun e=>hj e.symm) h.tag rfl;have g7:=hR.upd f6;generalize w.setCell ⟨rb,10,none⟩ (.bool true)=w1 at *;obtain⟨M,d1⟩:∃M,M=gS (r0.length+1) [] r0:=⟨_,rfl⟩
 refine zg ?_;refine zlp (fun y:Nat×List Int×List UInt8×(Nat->Nat)×World×J5=>[(0,nP rb),(1,.pointer (some ⟨rb,6,none⟩))]) (fun y=>y.2.2.2.2.1) (fun y=>Lh y.2.2.2.1 y.2.2.2.2.1 j rb {s with pos:=(m:Int)-(y.2.2.1.length:Int),ig:=y.2.2.2.2.2,i:=true}/\JY encI 3 1 y.2.2.2.1 y.2.2.2.2.1 ji y.2.2.2.2.2 y.2.1/\y.2.2.1 <:+ s.l.take m/\gS y.1 y.2.1 y.2.2.1=M/\y.2.2.1.length<y.1/\y.2.1.length+y.2.2.1.length<=r0.length/\Jv (fun k=>k=j\/k=ji) O w y.2.2.2.1 y.2.2.2.2.1/\KS B y.2.2.2.1 y.2.2.2.2.1) (fun y=>y.1) (r0.length+1,[],r0,O,w1,sG) (⟨by dsimp only;rw[<-hp,<-g2];exact g4,Kb _ _ _ _ _ _,hr,d1.symm,Lu _,by simp,f6.mono (fun _ h=>.inl h) a0,g7⟩) ?_
 rintro⟨n,d5,r,O1,w2,lv⟩ ⟨f4,b1,b2,a4,hn,g5,f5,f7⟩;dsimp only at f4 b1 b2 a4 hn g5 f5 f7 ⊢;obtain⟨n,rfl⟩:∃q,n=q+1:=⟨n-1,by omega⟩
 have g':=dy r;unfold gS at a4;refine zg ?_;refine zc KN (dX O1 w2 j rb ({s with pos:=(m:Int)-((r).length:Int),ig:=lv,i:=true}:LS) m r hj hm hl d6 b2 rfl f4) ?_;rintro v w3 ⟨rfl,b6,e6⟩;have a3:=b1.upd e6 a8 (fun e=>a9 e.symm);have f3:=f7.upd e6;have b9:=f5.trans (e6.mono (fun _ h=>.inl h) a0);refine zg ?_
 by_cases h0:(aw r).length=0
 ·rw[if_pos h0]at a4;refine aS rfl ((decide_eq_false zo)) ?_;have f9:=b6.q6;have d7:=a3.sl;refine zg ?_;refine zv (RV.ld f9 rfl) ?_;refine zvG (Kf (by first|exact d7) J2 rfl) ?_
  rcases d5 with _|⟨a,d5⟩
  ·have hM:dt r0=.bad 0 4:=by unfold dt;rw[<-d1,<-a4];rfl
   rw[hM];refine aZ rfl rfl ?_;have d':=b6.q2;dsimp only at d';rw[d6]at d';have hb3d:=b6.drew;have hrow3d:=a3.drew;have hR3d:=f3.drew;have hUt3d:=b9.drew;refine JV 8 rfl rfl zk zk ?_;refine zg ?_;refine zw (RV.ld d' rfl) ?_;refine Kp ?_;refine zc JT (bI O1 w3.drew j rb ({s with pos:=(m:Int)-((aw r).length:Int),ig:=lv,i:=true}:LS) (m:Int) 4 hj he hb3d) ?_;rintro u w7 ⟨b',c5⟩;have a2:=hrow3d.upd c5 a8 (fun e=>a9 e.symm);have e9:=hR3d.upd c5;have e3:=hUt3d.trans (c5.mono (fun _ h=>.inl h) a0);have d9:=M8 b';refine zg ?_;refine zv (RV.ld d9 rfl) ?_;refine zc LG (kh e9 a2 a8 zo) ?_;rintro u w8 ⟨a6,a',e8⟩;have b5:=ln b' a' hj a9;have d8:=b5.q6;refine zg ?_;refine zv (RV.ld d8 rfl) ?_;refine zc LF (eW e8 a6 a8 (by rw[ei];omega)) ?_;rintro u w9 ⟨a1,c',e7⟩;have b4:=b5.upd c' hj a9;have a7:=a1.one;refine zg ?_;refine ak (j:=6) b4 rfl (KH _) a7 rfl rfl rfl ?_;have b7:=b4.set 6 u;have a5:Jv (fun k=>k=j) O1 w9 O1 (w9.setCell ⟨rb,6,none⟩ u):=Jr (fun e=>hj e.symm) b4.tag rfl;have e1:=((e3.trans (a'.mono (fun _ h=>.inr h) a0)).trans (c'.mono (fun _ h=>.inr h) a0)).trans (a5.mono (fun _ h=>.inl h) a0);refine zg ?_;exact aH rfl ⟨O1,u,_,(m:Int),4,e1,e7.upd a5,b7,⟨rfl,by decide,by simp⟩⟩
  have hM:dt r0=.ok (L8 (gT (a::d5))):=by unfold dt;rw[<-d1,<-a4];rfl
  rw[hM];refine aS rfl ((beq_eq_false_iff_ne.2 (by simp;omega))) ?_;have d9:=M8 b6;refine zg ?_;refine zv (RV.ld d9 rfl) ?_;refine zc LG (kh f3 a3 a8 zo) ?_;rintro u w8 ⟨a6,a',e8⟩;have b5:=ln b6 a' hj a9;have d8:=b5.q6;refine zg ?_;refine zv (RV.ld d8 rfl) ?_;refine zc LF (eW e8 a6 a8 (by rw[ei];omega)) ?_;rintro u w9 ⟨a1,c',e7⟩;have b4:=b5.upd c' hj a9;have a7:=a1.one;refine zg ?_;refine ak (j:=6) b4 rfl (KH _) a7 rfl rfl rfl ?_;have b7:=b4.set 6 u;have a5:Jv (fun k=>k=j) O1 w9 O1 (w9.setCell ⟨rb,6,none⟩ u):=Jr (fun e=>hj e.symm) b4.tag rfl;have e1:=((b9.trans (a'.mono (fun _ h=>.inr h) a0)).trans (c'.mono (fun _ h=>.inr h) a0)).trans (a5.mono (fun _ h=>.inl h) a0);refine zg ?_;exact aH rfl ⟨O1,u,_,_,_,e1,e7.upd a5,b7,⟨he,a1.upd a5 a8 (fun e=>a9 e.symm)⟩⟩
 rw[if_neg h0]at a4;refine aZ rfl ((decide_eq_true zo)) ?_;have f':=b6.q1;have b0:=(bn r).trans b2;refine zg ?_;refine zvG (RV.ld f' rfl) ?_;refine zc Le (gV O1 w3 j rb ({s with pos:=(m:Int)-((aw r).length:Int),ig:=lv,i:=true}:LS) m (aw r) hj hm hl d6 b0 rfl b6) ?_;rintro v w4 ⟨rfl,g3,e5⟩;have c7:=a3.upd e5 a8 (fun e=>a9 e.symm);have g6:=f3.upd e5;have e4:=b9.trans (e5.mono (fun _ h=>.inl h) a0);refine zg ?_;refine zc M0 (iW ((aw r).takeWhile aj) w4) ?_;rintro v w5 ⟨rfl,g8⟩;have d4:Jv (fun _=>False) O1 w4 O1 w5:=aa (fun h=>h) O1 g8;have d3:=g3.upd d4 hj (fun h=>h);have c6:=c7.upd d4 a8 (fun h=>h);have e':=g6.upd d4;have b8:=e4.trans (d4.mono (fun _ h=>h.elim) a0);refine zg ?_;refine zvG (cX rfl rfl) ?_
 by_cases c9:(aw r).takeWhile aj=[]
 ·rw[if_pos c9]at a4;have hM:dt r0=.bad (aw r).length 4:=by unfold dt;rw[<-d1,<-a4];rfl
  rw[hM];refine zTG rfl ((by simpa using c9)) ?_;refine zc JT (bI O1 w5 j rb ({s with pos:=(m:Int)-(((aw r).dropWhile aj).length:Int),ig:=lv,i:=true}:LS) ((m:Int)-((aw r).length:Int)) 4 hj he d3) ?_;rintro u w6 ⟨e0,d0⟩;refine zg ?_;exact cA rfl ⟨O1,lv,_,_,_,b8.trans (d0.mono (fun _ h=>.inl h) a0),e'.upd d0,e0,rfl,by decide,rfl⟩
 rw[if_neg c9]at a4;have g9:=sM c9;refine zFG rfl ((by simpa using c9)) ?_
 cases b3:A7 ((aw r).takeWhile aj)with
 |none=>
  rw[b3]at a4;have hM:dt r0=.bad (aw r).length 5:=by unfold dt;rw[<-d1,<-a4];rfl
  rw[hM];refine zTG rfl rfl ?_;refine zc JT (bI O1 w5 j rb ({s with pos:=(m:Int)-(((aw r).dropWhile aj).length:Int),ig:=lv,i:=true}:LS) ((m:Int)-((aw r).length:Int)) 5 hj he d3) ?_;rintro u w6 ⟨e0,d0⟩;refine zg ?_;exact cA rfl ⟨O1,lv,_,_,_,b8.trans (d0.mono (fun _ h=>.inl h) a0),e'.upd d0,e0,rfl,by decide,rfl⟩
 |some c=>
  rw[b3]at a4;dsimp only at a4;have g0:D5 ((aw r).takeWhile aj)=(c:Int):=by unfold D5;rw[b3]
  rw[g0];refine aS rfl rfl ?_;have f8:=d3.q6;refine zg ?_;refine zvG (RV.ld f8 rfl) ?_;refine Lr I7 c6 e' ((c:Int)) (fun _=>rfl) rfl rfl rfl (by simp[Jt,encI]) zo zo zo zd rfl rfl ?_;intro d2 w7 O7 a2 c5 e9;have c8:=a2.one;have b':=d3.upd c5 hj a9;refine zg ?_;refine ak (j:=6) b' rfl (KH _) c8 rfl rfl rfl ?_;have b5:=b'.set 6 d2;have a':Jv (fun k=>k=j) O7 w7 O7 (w7.setCell ⟨rb,6,none⟩ d2):=Jr (fun e=>hj e.symm) b'.tag rfl;have e2:=(b8.trans (c5.mono (fun _ h=>.inr h) a0)).trans (a'.mono (fun _ h=>.inl h) a0);refine zg ?_;refine zxd (n,d5++[(c:Int)],(aw r).dropWhile aj,O7,(w7.setCell ⟨rb,6,none⟩ d2),d2) (⟨b5,a2.upd a' a8 (fun e=>a9 e.symm),(Gb _).trans b0,a4,by dsimp only;omega,by simp;omega,e2,e9.upd a'⟩)
theorem tM(B:Nat)(O:Nat->Nat)(w:J1)(j ji rb:Nat)(s:LS)(m:Nat)(r0:List UInt8)(hR:KS B O w)(hj:j≠0)(a8:ji≠0)(a9:j≠ji)(hm:m<=s.l.length)(hl:s.l.length<=100000)(d6:s.to=(m:Int))(he:s.e=0)(g1:s.k=false)(g2:s.kp=sG)
  (hr:r0 <:+ s.l.take m) (hp:s.pos=(m:Int)-(r0.length:Int)) (h:Lh O w j rb s) :
  L2 JX 132 [nP rb,.pointer (some ⟨rb,7,none⟩),.pointer (some ⟨rb,11,none⟩)] w fun _ w'=>∃O' lv pos bad e,Jv (fun k=>k=j\/k=ji) O w O' w'/\KS B O' w'/\Lh O' w' j rb {s with pos:=pos,bad:=bad,e:=e,kp:=lv,k:=true}/\Ii m w' O' ji lv bad e (dt r0):=by
 have a0:¬(fun q:Nat=>q=j\/q=ji) 0:=fun e=>by rcases e with e|e;exact hj e.symm;exact a8 e.symm
 have h1:r0.length<=m:=by have:=hr.length_le;simp at this;omega
 have q0:=h.q11;rw[g1]at q0;refine J6 LD Lq rfl rfl ?_;refine zg ?_;refine zvG (RV.ld q0 rfl) ?_;refine zFG rfl rfl ?_;refine ak (j:=11) h rfl (JA _) rfl rfl rfl rfl ?_;have g4:Lh O (w.setCell ⟨rb,11,none⟩ (.bool true)) j rb {s with k:=true}:=LW h 11 _;have f6:Jv (fun k=>k=j) O w O (w.setCell ⟨rb,11,none⟩ (.bool true)):=Jr (fun e=>hj e.symm) h.tag rfl;have g7:=hR.upd f6;generalize w.setCell ⟨rb,11,none⟩ (.bool true)=w1 at *;obtain⟨M,d1⟩:∃M,M=gS (r0.length+1) [] r0:=⟨_,rfl⟩
 refine zg ?_;refine zlp (fun y:Nat×List Int×List UInt8×(Nat->Nat)×World×J5=>[(0,nP rb),(1,.pointer (some ⟨rb,7,none⟩))]) (fun y=>y.2.2.2.2.1) (fun y=>Lh y.2.2.2.1 y.2.2.2.2.1 j rb {s with pos:=(m:Int)-(y.2.2.1.length:Int),kp:=y.2.2.2.2.2,k:=true}/\JY encI 3 1 y.2.2.2.1 y.2.2.2.2.1 ji y.2.2.2.2.2 y.2.1/\y.2.2.1 <:+ s.l.take m/\gS y.1 y.2.1 y.2.2.1=M/\y.2.2.1.length<y.1/\y.2.1.length+y.2.2.1.length<=r0.length/\Jv (fun k=>k=j\/k=ji) O w y.2.2.2.1 y.2.2.2.2.1/\KS B y.2.2.2.1 y.2.2.2.2.1) (fun y=>y.1) (r0.length+1,[],r0,O,w1,sG) (⟨by dsimp only;rw[<-hp,<-g2];exact g4,Kb _ _ _ _ _ _,hr,d1.symm,Lu _,by simp,f6.mono (fun _ h=>.inl h) a0,g7⟩) ?_
 rintro⟨n,d5,r,O1,w2,lv⟩ ⟨f4,b1,b2,a4,hn,g5,f5,f7⟩;dsimp only at f4 b1 b2 a4 hn g5 f5 f7 ⊢;obtain⟨n,rfl⟩:∃q,n=q+1:=⟨n-1,by omega⟩
 have g':=dy r;unfold gS at a4;refine zg ?_;refine zc KN (dX O1 w2 j rb ({s with pos:=(m:Int)-((r).length:Int),kp:=lv,k:=true}:LS) m r hj hm hl d6 b2 rfl f4) ?_;rintro v w3 ⟨rfl,b6,e6⟩;have a3:=b1.upd e6 a8 (fun e=>a9 e.symm);have f3:=f7.upd e6;have b9:=f5.trans (e6.mono (fun _ h=>.inl h) a0);refine zg ?_
 by_cases h0:(aw r).length=0
 ·rw[if_pos h0]at a4;refine aS rfl ((decide_eq_false zo)) ?_;have f9:=b6.q7;have d7:=a3.sl;refine zg ?_;refine zv (RV.ld f9 rfl) ?_;refine zvG (Kf (by first|exact d7) J2 rfl) ?_
  rcases d5 with _|⟨a,d5⟩
  ·have hM:dt r0=.bad 0 4:=by unfold dt;rw[<-d1,<-a4];rfl
   rw[hM];refine aZ rfl rfl ?_;have d':=b6.q2;dsimp only at d';rw[d6]at d';have hb3d:=b6.drew;have hrow3d:=a3.drew;have hR3d:=f3.drew;have hUt3d:=b9.drew;refine JV 8 rfl rfl zk zk ?_;refine zg ?_;refine zw (RV.ld d' rfl) ?_;refine Kp ?_;refine zc JT (bI O1 w3.drew j rb ({s with pos:=(m:Int)-((aw r).length:Int),kp:=lv,k:=true}:LS) (m:Int) 4 hj he hb3d) ?_;rintro u w7 ⟨b',c5⟩;have a2:=hrow3d.upd c5 a8 (fun e=>a9 e.symm);have e9:=hR3d.upd c5;have e3:=hUt3d.trans (c5.mono (fun _ h=>.inl h) a0);have d9:=M7 b';refine zg ?_;refine zv (RV.ld d9 rfl) ?_;refine zc LG (kh e9 a2 a8 zo) ?_;rintro u w8 ⟨a6,a',e8⟩;have b5:=ln b' a' hj a9;have d8:=b5.q7;refine zg ?_;refine zv (RV.ld d8 rfl) ?_;refine zc LF (eW e8 a6 a8 (by rw[ei];omega)) ?_;rintro u w9 ⟨a1,c',e7⟩;have b4:=b5.upd c' hj a9;have a7:=a1.one;refine zg ?_;refine ak (j:=7) b4 rfl (KH _) a7 rfl rfl rfl ?_;have b7:=b4.set 7 u;have a5:Jv (fun k=>k=j) O1 w9 O1 (w9.setCell ⟨rb,7,none⟩ u):=Jr (fun e=>hj e.symm) b4.tag rfl;have e1:=((e3.trans (a'.mono (fun _ h=>.inr h) a0)).trans (c'.mono (fun _ h=>.inr h) a0)).trans (a5.mono (fun _ h=>.inl h) a0);refine zg ?_;exact aH rfl ⟨O1,u,_,(m:Int),4,e1,e7.upd a5,b7,⟨rfl,by decide,by simp⟩⟩
  have hM:dt r0=.ok (L8 (gT (a::d5))):=by unfold dt;rw[<-d1,<-a4];rfl
  rw[hM];refine aS rfl ((beq_eq_false_iff_ne.2 (by simp;omega))) ?_;have d9:=M7 b6;refine zg ?_;refine zv (RV.ld d9 rfl) ?_;refine zc LG (kh f3 a3 a8 zo) ?_;rintro u w8 ⟨a6,a',e8⟩;have b5:=ln b6 a' hj a9;have d8:=b5.q7;refine zg ?_;refine zv (RV.ld d8 rfl) ?_;refine zc LF (eW e8 a6 a8 (by rw[ei];omega)) ?_;rintro u w9 ⟨a1,c',e7⟩;have b4:=b5.upd c' hj a9;have a7:=a1.one;refine zg ?_;refine ak (j:=7) b4 rfl (KH _) a7 rfl rfl rfl ?_;have b7:=b4.set 7 u;have a5:Jv (fun k=>k=j) O1 w9 O1 (w9.setCell ⟨rb,7,none⟩ u):=Jr (fun e=>hj e.symm) b4.tag rfl;have e1:=((b9.trans (a'.mono (fun _ h=>.inr h) a0)).trans (c'.mono (fun _ h=>.inr h) a0)).trans (a5.mono (fun _ h=>.inl h) a0);refine zg ?_;exact aH rfl ⟨O1,u,_,_,_,e1,e7.upd a5,b7,⟨he,a1.upd a5 a8 (fun e=>a9 e.symm)⟩⟩
 rw[if_neg h0]at a4;refine aZ rfl ((decide_eq_true zo)) ?_;have f':=b6.q1;have b0:=(bn r).trans b2;refine zg ?_;refine zvG (RV.ld f' rfl) ?_;refine zc Le (gV O1 w3 j rb ({s with pos:=(m:Int)-((aw r).length:Int),kp:=lv,k:=true}:LS) m (aw r) hj hm hl d6 b0 rfl b6) ?_;rintro v w4 ⟨rfl,g3,e5⟩;have c7:=a3.upd e5 a8 (fun e=>a9 e.symm);have g6:=f3.upd e5;have e4:=b9.trans (e5.mono (fun _ h=>.inl h) a0);refine zg ?_;refine zc M0 (iW ((aw r).takeWhile aj) w4) ?_;rintro v w5 ⟨rfl,g8⟩;have d4:Jv (fun _=>False) O1 w4 O1 w5:=aa (fun h=>h) O1 g8;have d3:=g3.upd d4 hj (fun h=>h);have c6:=c7.upd d4 a8 (fun h=>h);have e':=g6.upd d4;have b8:=e4.trans (d4.mono (fun _ h=>h.elim) a0);refine zg ?_;refine zvG (cX rfl rfl) ?_
 by_cases c9:(aw r).takeWhile aj=[]
 ·rw[if_pos c9]at a4;have hM:dt r0=.bad (aw r).length 4:=by unfold dt;rw[<-d1,<-a4];rfl
  rw[hM];refine zTG rfl ((by simpa using c9)) ?_;refine zc JT (bI O1 w5 j rb ({s with pos:=(m:Int)-(((aw r).dropWhile aj).length:Int),kp:=lv,k:=true}:LS) ((m:Int)-((aw r).length:Int)) 4 hj he d3) ?_;rintro u w6 ⟨e0,d0⟩;refine zg ?_;exact cA rfl ⟨O1,lv,_,_,_,b8.trans (d0.mono (fun _ h=>.inl h) a0),e'.upd d0,e0,rfl,by decide,rfl⟩
 rw[if_neg c9]at a4;have g9:=sM c9;refine zFG rfl ((by simpa using c9)) ?_
 cases b3:A7 ((aw r).takeWhile aj)with
 |none=>
  rw[b3]at a4;have hM:dt r0=.bad (aw r).length 5:=by unfold dt;rw[<-d1,<-a4];rfl
  rw[hM];refine zTG rfl rfl ?_;refine zc JT (bI O1 w5 j rb ({s with pos:=(m:Int)-(((aw r).dropWhile aj).length:Int),kp:=lv,k:=true}:LS) ((m:Int)-((aw r).length:Int)) 5 hj he d3) ?_;rintro u w6 ⟨e0,d0⟩;refine zg ?_;exact cA rfl ⟨O1,lv,_,_,_,b8.trans (d0.mono (fun _ h=>.inl h) a0),e'.upd d0,e0,rfl,by decide,rfl⟩
 |some c=>
  rw[b3]at a4;dsimp only at a4;have g0:D5 ((aw r).takeWhile aj)=(c:Int):=by unfold D5;rw[b3]
  rw[g0];refine aS rfl rfl ?_;have f8:=d3.q7;refine zg ?_;refine zvG (RV.ld f8 rfl) ?_;refine Lr I7 c6 e' ((c:Int)) (fun _=>rfl) rfl rfl rfl (by simp[Jt,encI]) zo zo zo zd rfl rfl ?_;intro d2 w7 O7 a2 c5 e9;have c8:=a2.one;have b':=d3.upd c5 hj a9;refine zg ?_;refine ak (j:=7) b' rfl (KH _) c8 rfl rfl rfl ?_;have b5:=b'.set 7 d2;have a':Jv (fun k=>k=j) O7 w7 O7 (w7.setCell ⟨rb,7,none⟩ d2):=Jr (fun e=>hj e.symm) b'.tag rfl;have e2:=(b8.trans (c5.mono (fun _ h=>.inr h) a0)).trans (a'.mono (fun _ h=>.inl h) a0);refine zg ?_;refine zxd (n,d5++[(c:Int)],(aw r).dropWhile aj,O7,(w7.setCell ⟨rb,7,none⟩ d2),d2) (⟨b5,a2.upd a' a8 (fun e=>a9 e.symm),(Gb _).trans b0,a4,by dsimp only;omega,by simp;omega,e2,e9.upd a'⟩)
structure St where
 ts:List R3
 li:List Int
 lk:List Int
 hi:Bool
 hk:Bool
inductive RS where
 |go (s:St)
 |bad (p:Nat) (e:Int)
 |other
def IT(st:St)(d:Nat):LM->RS
 |.ok l=>.go {st with li:=l,hi:=true}
 |.bad p e=>.bad (d-p) e
def IS(st:St)(d:Nat):LM->RS
 |.ok l=>.go {st with lk:=l,hk:=true}
 |.bad p e=>.bad (d-p) e
def IR(st:St)(d:Nat):LR->RS
 |.ok t=>.go {st with ts:=st.ts++[t]}
 |.bad p e=>.bad (d+p) e
structure Mem(O:Nat->Nat)(w:J1)(jr ji jk:Nat)(s:LS)(st:St):Prop where
 ru:∃xs,JY cj 85 7 O w jr s.ru xs/\st.ts.length=xs.length/\xs.length<=40/\∀i,i<xs.length->Rt O w (nth st.ts i) (nth xs i)
 ig:JY encI 3 1 O w ji s.ig st.li
 kp:JY encI 3 1 O w jk s.kp st.lk
 fi:s.i=st.hi
 fk:s.k=st.hk
 ni:st.hi=false->s.ig=sG
 nk:st.hk=false->s.kp=sG
theorem Mem.upd{S:Nat->Prop}{O O':Nat->Nat}{w w':J1}{jr ji jk:Nat}{s:LS}{st:St}(h:Mem O w jr ji jk s st)(u:Jv S O w O' w')(h1:jr≠0)(h2:ji≠0)(h3:jk≠0)(g1:¬S jr)(g2:¬S ji)(g3:¬S jk):Mem O' w' jr ji jk s st:=by
 obtain⟨⟨xs,a1,a2,a3,a4⟩,b,c,d,e,f,g⟩:=h;exact⟨⟨xs,a1.upd u h1 g1,a2,a3,fun i hi=>(a4 i hi).upd u⟩,b.upd u h2 g2,c.upd u h3 g3,d,e,f,g⟩
theorem Mem.with{O:Nat->Nat}{w:J1}{jr ji jk:Nat}{s s':LS}{st:St}(h:Mem O w jr ji jk s st)(e1:s'.ru=s.ru)(e2:s'.ig=s.ig)(e3:s'.kp=s.kp)(e4:s'.i=s.i)(e5:s'.k=s.k):Mem O w jr ji jk s' st:=by
 obtain⟨a,b,c,d,e,f,g⟩:=h;exact⟨by rw[e1];exact a,by rw[e2];exact b,by rw[e3];exact c,by rw[e4];exact d,by rw[e5];exact e,by rw[e2];exact f,by rw[e3];exact g⟩
section
variable{kn:Kn}
inductive RK where
 |go (kn:Kn) (st:St)
 |bad (p:Nat) (e:Int)
def pz(kn:Kn):RS->RK
 |.go st=>.go kn st
 |.bad p e=>.bad p e
 |.other=>.bad 0 0
def Ip(kn:Kn)(st:St)(d:Nat):ML->RK
 |.ok x=>.go (kn++[x]) st
 |.bad p e=>.bad (d-p) e
def cU(kn:Kn)(st:St)(seg:List UInt8):RK:=
 if(bp seg).length=0 then .go kn st
 else if((bp seg).takeWhile aj==[108,101,116])=true then Ip kn st (bC seg).length (tQ kn ((bp seg).dropWhile aj))
 else if((bp seg).takeWhile aj==[105,103,110,111,114,101])=true then
  (if st.hi=true then .bad ((bC seg).length-(bp seg).length) 11 else pz kn (IT st (bC seg).length (dt ((bp seg).dropWhile aj))))
 else if((bp seg).takeWhile aj==[107,101,101,112])=true then
  (if st.hk=true then .bad ((bC seg).length-(bp seg).length) 11 else pz kn (IS st (bC seg).length (dt ((bp seg).dropWhile aj))))
 else pz kn (IR st ((bC seg).length-(bp seg).length) (if st.ts.length=40 then Ln 0 3 else jl kn (bp seg)))
def Ih(B:Nat)(O:Nat->Nat)(w w':J1)(j jr ji jk jm rb:Nat)(s:LS)(fr:Nat)(M:RK):Prop:=
 ∃O' s',Jv (fun k=>k=j\/k=jr\/k=ji\/k=jk\/k=jm) O w O' w'/\KS B O' w'/\Lh O' w' j rb s'/\s'.l=s.l/\
  match M with
  |.go kn' st'=>s'.e=0/\Mem O' w' jr ji jk s' st'/\Mac O' w' jm s'.mc kn'
  |.bad p e=>e≠0/\s'.e=e/\s'.bad=(fr:Int)+(p:Int)
theorem Bn{r:List UInt8}{p:Nat}{e:Int}(h:tQ kn r=.bad p e):p<=r.length:=by
 have h1:=dy r;have h2:=(Gb (l:=aw r) aj).length_le;have h3:=dy ((aw r).dropWhile aj);unfold tQ at h
 split at h
 ·cases h;omega
 split at h
 ·cases h;omega
 split at h
 ·cases hx:fz kn (aw ((aw r).dropWhile aj)).tail with
  |ok t=>rw[hx]at h;cases h
  |bad q f=>rw[hx]at h;cases h;omega
 cases h;omega
theorem tt(B:Nat)(O:Nat->Nat)(w:J1)(j jr ji jk jm rb:Nat)(s:LS)(fr to:Nat)(seg:List UInt8)(st:St)(hR:KS B O w)(hj:j≠0)(b7:jr≠0)(b9:ji≠0)(b8:jk≠0)(d0:j≠jr)(c':j≠ji)(c9:j≠jk)(h5:jr≠ji)(h4:jr≠jk)(h3:ji≠jk)(b3:jm≠0)(c6:j≠jm)(g3:jr≠jm)(g':ji≠jm)(e7:jk≠jm)(g5:kn.length<=100000)(j0:fr<=to)(i9:to<=s.l.length)(d4:s.l.length<=100000)(he:s.e=0) 
  (f9:(s.l.take to).drop fr=seg) (h':Mem O w jr ji jk s st) (i1:Mac O w jm s.mc kn) (h:Lh O w j rb s) :
  L2 JX 92 [nP rb,nI fr,nI to] w fun _ w'=>Ih B O w w' j jr ji jk jm rb s fr (cU kn st seg):=by
 have b':¬(fun q:Nat=>q=j\/q=jr\/q=ji\/q=jk\/q=jm) 0:=fun e=>by rcases e with e|e|e|e|e;exact hj e.symm;exact b7 e.symm;exact b9 e.symm;exact b8 e.symm;exact b3 e.symm
 have h7:¬(fun q:Nat=>q=j) 0:=fun e=>hj e.symm
 have i':seg.length=to-fr:=by rw[<-f9];simp;omega
 have j8:(bp seg).length<=(bC seg).length:=dy _;have j9:(bC seg).length<=seg.length:=(JR (l:=seg) _).length_le;obtain⟨m,i0⟩:∃m,m=fr+(bC seg).length:=⟨_,rfl⟩
 have d3:m<=s.l.length:=zo;have g7:(s.l.take m).drop fr=bC seg:=by
  have h1:bC seg=seg.take (bC seg).length:=List.prefix_iff_eq_take.1 (JR _);have h2:(seg.take (bC seg).length)=(s.l.take m).drop fr:=by
   conv=>lhs;arg 2;rw[<-f9]
   rw[List.take_drop,List.take_take,Nat.min_eq_left zo,i0]
  rw[<-h2,<-h1]
 have d5:bC seg <:+ s.l.take m:=by rw[<-g7];exact List.drop_suffix _ _
 have b1:bp seg <:+ s.l.take m:=(bn _).trans d5;have f6:(fr:Int)=(m:Int)-((bC seg).length:Int):=zo;have g6:(m:Int)-((aw (bC seg)).length:Int)=((m-(bp seg).length:Nat):Int):=by
  have:(aw (bC seg)).length=(bp seg).length:=rfl;omega
 refine J6 func92 ntmps92 rfl rfl ?_;refine zh ?_
 refine ak (j:=1) h rfl (Ju _) rfl rfl rfl rfl ?_;have i4:=h.s_pos (fr:Int);have j4:Jv (fun k=>k=j) O w O (w.setCell ⟨rb,1,none⟩ (nI (fr:Int))):=Jr h7 h.tag rfl;refine zh ?_
 refine ak (j:=2) i4 rfl (Ju _) rfl rfl rfl rfl ?_;have g8:=i4.s_to (to:Int);have j3:Jv (fun k=>k=j) O (w.setCell ⟨rb,1,none⟩ (nI (fr:Int))) O ((w.setCell ⟨rb,1,none⟩ (nI (fr:Int))).setCell ⟨rb,2,none⟩ (nI (to:Int))):=Jr h7 i4.tag rfl;have e6:=j4.trans j3;have f7:=h'.upd e6 b7 b9 b8 (fun e=>d0 e.symm) (fun e=>c' e.symm) (fun e=>c9 e.symm);have f8:=i1.upd e6 b3 (fun e=>c6 e.symm);have i8:=hR.upd e6;generalize (w.setCell ⟨rb,1,none⟩ (nI (fr:Int))).setCell ⟨rb,2,none⟩ (nI (to:Int))=w2 at *;refine zh ?_
 refine zvH (RV.ld g8.q0 rfl) ?_;refine zv (dc JH rfl rfl rfl fr to rfl rfl j0 i9) ?_
 rw[show({s with pos:=(fr:Int),to:=(to:Int)}:LS).l=s.l from rfl,f9];refine zc call91 (dK seg 35 w2) ?_;rintro v w9 ⟨rfl,i7⟩;rw[i7];clear i7 w9
 cases hf:seg.findIdx? (· == 35)with
 |none=>
  have hi:sH seg 35 = -1:=by unfold sH;rw[hf]
  have i2:=zY hf;rw[hi];obtain rfl:m=to:=by rw[i0,i2,i'];omega
  refine zh ?_;refine aS rfl rfl ?_
  have d':=f7;have e2:=f8;have i6:=i8;have g1:=e6.mono (S':=fun k=>k=j\/k=jr\/k=ji\/k=jk\/k=jm) (fun _ h=>.inl h) b';refine zh ?_;refine zc KN (dX O w2 j rb ({s with pos:=(fr:Int),to:=(m:Int)}:LS) m (bC seg) hj d3 d4 rfl d5 f6 g8) ?_;rintro v w4 ⟨rfl,e4,f4⟩;have c7:=d'.upd f4 b7 b9 b8 (fun e=>d0 e.symm) (fun e=>c' e.symm) (fun e=>c9 e.symm);have c8:=e2.upd f4 b3 (fun e=>c6 e.symm);have g9:=i6.upd f4;have e5:=g1.trans (f4.mono (fun _ h=>.inl h) b');refine zh ?_
  by_cases h0:(bp seg).length=0
  ·have hM:cU kn st seg=.go kn st:=by unfold cU;rw[if_pos h0]
   rw[hM];refine zTH rfl ((by have d2:(aw (bC seg)).length=0:=h0;simp[d2])) ?_;exact cA rfl ⟨O,_,e5,g9,e4,rfl,he,c7.with rfl rfl rfl rfl rfl,c8⟩
  have d2:(aw (bC seg)).length=(bp seg).length:=rfl;refine zFH rfl ((by rw[d2,decide_eq_true zo];rfl)) ?_;refine zvH (RV.ld e4.q1 rfl) ?_;refine ak (j:=3) e4 rfl (Ju _) rfl rfl rfl rfl ?_;have i3:=e4.s_bg ((m:Int)-((aw (bC seg)).length:Int));have f3:Jv (fun k=>k=j) O w4 O (w4.setCell ⟨rb,3,none⟩ (nI ((m:Int)-((aw (bC seg)).length:Int)))):=Jr (fun e=>hj e.symm) e4.tag rfl;have d9:=c7.upd f3 b7 b9 b8 (fun e=>d0 e.symm) (fun e=>c' e.symm) (fun e=>c9 e.symm);have e1:=c8.upd f3 b3 (fun e=>c6 e.symm);have i5:=g9.upd f3;have g0:=e5.trans (f3.mono (fun _ h=>.inl h) b');generalize w4.setCell ⟨rb,3,none⟩ (nI ((m:Int)-((aw (bC seg)).length:Int)))=w5 at *;refine zh ?_;refine zc Le (gV O w5 j rb ({s with pos:=((m:Int)-((aw (bC seg)).length:Int)),to:=(m:Int),bg:=((m:Int)-((aw (bC seg)).length:Int))}:LS) m (bp seg) hj d3 d4 rfl b1 rfl i3) ?_;rintro v w6 ⟨rfl,e8,e9⟩;have a8:=d9.upd e9 b7 b9 b8 (fun e=>d0 e.symm) (fun e=>c' e.symm) (fun e=>c9 e.symm);have a9:=e1.upd e9 b3 (fun e=>c6 e.symm);have f5:=i5.upd e9;have c5:=g0.trans (e9.mono (fun _ h=>.inl h) b');have j1:=(Gb (l:=bp seg) aj).length_le;refine zh ?_;refine zvH (cX rfl rfl) ?_
  cases d1:((bp seg).takeWhile aj==[108,101,116])with
  |true=>
   have hM:cU kn st seg=Ip kn st (bC seg).length (tQ kn ((bp seg).dropWhile aj)):=by unfold cU;rw[if_neg h0,if_pos d1]
   rw[hM];refine zTH rfl rfl ?_;refine zc call131 (Bm B O w6 j jm rb ({s with pos:=(m:Int)-(((bp seg).dropWhile aj).length:Int),to:=(m:Int),bg:=((m:Int)-((aw (bC seg)).length:Int))}:LS) m ((bp seg).dropWhile aj) f5 hj b3 c6 d3 d4 rfl he ((Gb _).trans b1) rfl g5 a9 e8) ?_;rintro u w7 ⟨O7,v7,pos,bad,e,a0,b6,b0,a6⟩;have a5:=c5.trans (a0.mono (S':=fun k=>k=j\/k=jr\/k=ji\/k=jk\/k=jm) (fun _ h=>by rcases h with h|h;exact .inl h;exact .inr (.inr (.inr (.inr h)))) b');have d8:=a8.upd a0 b7 b9 b8 (fun h=>by rcases h with h|h;exact d0 h.symm;exact g3 h) (fun h=>by rcases h with h|h;exact c' h.symm;exact g' h) (fun h=>by rcases h with h|h;exact c9 h.symm;exact e7 h);refine zh ?_
   cases hq:tQ kn ((bp seg).dropWhile aj)with
   |ok x=>
    rw[hq]at a6;obtain⟨b5,e0⟩:=a6;exact aH rfl ⟨O7,_,a5,b6,b0,rfl,b5,d8.with rfl rfl rfl rfl rfl,e0⟩
   |bad p e'=>
    rw[hq]at a6;obtain⟨b5,b2,a'⟩:=a6;have d7:=Bn hq;exact aH rfl ⟨O7,_,a5,b6,b0,rfl,b2,b5,by dsimp only;rw[a'];omega⟩
  |false=>
  refine zFH rfl rfl ?_;refine zvH (cX rfl rfl) ?_
  cases e3:((bp seg).takeWhile aj==[105,103,110,111,114,101])with
  |true=>
   refine aZ rfl rfl ?_;have hb6d:=e8.drew;have hmem6d:=a8.upd (aa (S:=fun _=>False) (fun h=>h) O (J4 w6).drew) b7 b9 b8 (fun h=>h) (fun h=>h) (fun h=>h);have hmac6d:=a9.upd (aa (S:=fun _=>False) (fun h=>h) O (J4 w6).drew) b3 (fun h=>h);have hR6d:=f5.drew;have hUt6d:=c5.drew;refine JV 8 rfl rfl zk zk ?_
   refine zh ?_;refine Kp ?_
   cases b4:st.hi with
   |true=>
    have hM:cU kn st seg=.bad ((bC seg).length-(bp seg).length) 11:=by unfold cU;rw[if_neg h0,if_neg (by rw[d1];decide),if_pos e3,if_pos b4]
    rw[hM];refine zc Kl (qh O w6.drew j rb ({s with pos:=(m:Int)-(((bp seg).dropWhile aj).length:Int),to:=(m:Int),bg:=((m:Int)-((aw (bC seg)).length:Int))}:LS) hj he (hmem6d.fi.trans b4) hb6d) ?_;rintro u w7 ⟨b0,a0⟩;refine zh ?_;exact aH rfl ⟨O,_,hUt6d.trans (a0.mono (fun _ h=>.inl h) b'),hR6d.upd a0,b0,rfl,zd,rfl,by dsimp only;rw[d2];omega⟩
   |false=>
    have hM:cU kn st seg=pz kn (IT st (bC seg).length (dt ((bp seg).dropWhile aj))):=by unfold cU;rw[if_neg h0,if_neg (by rw[d1];decide),if_pos e3,if_neg (by rw[b4];decide)]
    rw[hM];refine zc Kl (tN B O w6.drew j ji rb ({s with pos:=(m:Int)-(((bp seg).dropWhile aj).length:Int),to:=(m:Int),bg:=((m:Int)-((aw (bC seg)).length:Int))}:LS) m ((bp seg).dropWhile aj) hR6d hj b9 c' d3 d4 rfl he (hmem6d.fi.trans b4) (hmem6d.ni b4) ((Gb _).trans b1) rfl hb6d) ?_;rintro u w7 ⟨O7,lv,pos,bad,e,a0,b6,b0,a6⟩;have a5:=hUt6d.trans (a0.mono (S':=fun k=>k=j\/k=jr\/k=ji\/k=jk\/k=jm) (fun _ h=>by rcases h with h|h;exact .inl h;exact .inr (.inr (.inl h))) b');refine zh ?_
    cases hq:dt ((bp seg).dropWhile aj)with
    |ok l=>
     rw[hq]at a6;obtain⟨b5,a7⟩:=a6;obtain⟨⟨xs,a1,a2,a3,a4⟩,mb,mc,md,me,mf,mg⟩:=hmem6d;exact aH rfl ⟨O7,_,a5,b6,b0,rfl,b5,⟨⟨xs,a1.upd a0 b7 (fun h=>by rcases h with h|h;exact d0 h.symm;exact h5 h),a2,a3,fun i hi=>(a4 i hi).upd a0⟩,a7,mc.upd a0 b8 (fun h=>by rcases h with h|h;exact c9 h.symm;exact h3 h.symm),rfl,me,(fun h=>by cases h),mg⟩,hmac6d.upd a0 b3 (fun h=>by rcases h with h|h;exact c6 h.symm;exact g' h.symm)⟩
    |bad p e'=>
     rw[hq]at a6;obtain⟨b5,b2,a'⟩:=a6;have d7:=ng hq;exact aH rfl ⟨O7,_,a5,b6,b0,rfl,b2,b5,by dsimp only;rw[a'];omega⟩
  |false=>
   refine zFH rfl rfl ?_;refine zvH (cX rfl rfl) ?_
   cases f':((bp seg).takeWhile aj==[107,101,101,112])with
   |true=>
    refine aZ rfl rfl ?_;have hb6d:=e8.drew;have hmem6d:=a8.upd (aa (S:=fun _=>False) (fun h=>h) O (J4 w6).drew) b7 b9 b8 (fun h=>h) (fun h=>h) (fun h=>h);have hmac6d:=a9.upd (aa (S:=fun _=>False) (fun h=>h) O (J4 w6).drew) b3 (fun h=>h);have hR6d:=f5.drew;have hUt6d:=c5.drew;refine JV 8 rfl rfl zk zk ?_
    refine zh ?_;refine Kp ?_
    cases b4:st.hk with
    |true=>
     have hM:cU kn st seg=.bad ((bC seg).length-(bp seg).length) 11:=by unfold cU;rw[if_neg h0,if_neg (by rw[d1];decide),if_neg (by rw[e3];decide),if_pos f',if_pos b4]
     rw[hM];refine zc Kl (qg O w6.drew j rb ({s with pos:=(m:Int)-(((bp seg).dropWhile aj).length:Int),to:=(m:Int),bg:=((m:Int)-((aw (bC seg)).length:Int))}:LS) hj he (hmem6d.fk.trans b4) hb6d) ?_;rintro u w7 ⟨b0,a0⟩;refine zh ?_;exact aH rfl ⟨O,_,hUt6d.trans (a0.mono (fun _ h=>.inl h) b'),hR6d.upd a0,b0,rfl,zd,rfl,by dsimp only;rw[d2];omega⟩
    |false=>
     have hM:cU kn st seg=pz kn (IS st (bC seg).length (dt ((bp seg).dropWhile aj))):=by unfold cU;rw[if_neg h0,if_neg (by rw[d1];decide),if_neg (by rw[e3];decide),if_pos f',if_neg (by rw[b4];decide)]
     rw[hM];refine zc Kl (tM B O w6.drew j jk rb ({s with pos:=(m:Int)-(((bp seg).dropWhile aj).length:Int),to:=(m:Int),bg:=((m:Int)-((aw (bC seg)).length:Int))}:LS) m ((bp seg).dropWhile aj) hR6d hj b8 c9 d3 d4 rfl he (hmem6d.fk.trans b4) (hmem6d.nk b4) ((Gb _).trans b1) rfl hb6d) ?_;rintro u w7 ⟨O7,lv,pos,bad,e,a0,b6,b0,a6⟩;have a5:=hUt6d.trans (a0.mono (S':=fun k=>k=j\/k=jr\/k=ji\/k=jk\/k=jm) (fun _ h=>by rcases h with h|h;exact .inl h;exact .inr (.inr (.inr (.inl h)))) b');refine zh ?_
     cases hq:dt ((bp seg).dropWhile aj)with
     |ok l=>
      rw[hq]at a6;obtain⟨b5,a7⟩:=a6;obtain⟨⟨xs,a1,a2,a3,a4⟩,mb,mc,md,me,mf,mg⟩:=hmem6d;exact aH rfl ⟨O7,_,a5,b6,b0,rfl,b5,⟨⟨xs,a1.upd a0 b7 (fun h=>by rcases h with h|h;exact d0 h.symm;exact h4 h),a2,a3,fun i hi=>(a4 i hi).upd a0⟩,mb.upd a0 b9 (fun h=>by rcases h with h|h;exact c' h.symm;exact h3 h),a7,md,rfl,mf,(fun h=>by cases h)⟩,hmac6d.upd a0 b3 (fun h=>by rcases h with h|h;exact c6 h.symm;exact e7 h.symm)⟩
     |bad p e'=>
      rw[hq]at a6;obtain⟨b5,b2,a'⟩:=a6;have d7:=ng hq;exact aH rfl ⟨O7,_,a5,b6,b0,rfl,b2,b5,by dsimp only;rw[a'];omega⟩
   |false=>
    have hM:cU kn st seg=pz kn (IR st ((bC seg).length-(bp seg).length) (if st.ts.length=40 then Ln 0 3 else jl kn (bp seg))):=by unfold cU;rw[if_neg h0,if_neg (by rw[d1];decide),if_neg (by rw[e3];decide),if_neg (by rw[f'];decide)]
    refine aS rfl rfl ?_;obtain⟨xs,d6,g4,h9,h8⟩:=a8.ru;refine zh ?_
    refine zc call133 (tk B O w6 j jr rb ({s with pos:=(m:Int)-(((bp seg).dropWhile aj).length:Int),to:=(m:Int),bg:=((m:Int)-((aw (bC seg)).length:Int))}:LS) m (bp seg) xs f5 hj b7 d0 d3 d4 rfl g6 he b3 c6 g3 a9 b1 d6 h9 e8) ?_;rintro v w7 ⟨O7,rv,a0,b6,a6⟩;have a5:=c5.trans (a0.mono (S':=fun k=>k=j\/k=jr\/k=ji\/k=jk\/k=jm) (fun _ h=>by rcases h with h|h;exact .inl h;exact .inr (.inl h)) b');refine zh ?_
    rw[hM,g4]
    cases hq:(if xs.length=40 then Ln 0 3 else jl kn (bp seg))with
    |ok t=>
     rw[hq]at a6;obtain⟨x,a7,g2,b0⟩:=a6;have j5:xs.length≠40:=fun e=>by rw[if_pos e]at hq;cases hq
     obtain⟨_,mb,mc,md,me,mf,mg⟩:=a8;obtain⟨q1,q2,q3,q4⟩:=LK (ts:=st.ts) a7 g4 zo (fun i hi=>(h8 i hi).upd a0) g2;exact aH rfl ⟨O7,_,a5,b6,b0,rfl,he,⟨⟨xs++[x],q1,q2,q3,q4⟩,mb.upd a0 b9 (fun h=>by rcases h with h|h;exact c' h.symm;exact h5 h.symm),mc.upd a0 b8 (fun h=>by rcases h with h|h;exact c9 h.symm;exact h4 h.symm),md,me,mf,mg⟩,a9.upd a0 b3 (fun h=>by rcases h with h|h;exact c6 h.symm;exact g3 h.symm)⟩
    |bad p e=>
     rw[hq]at a6;obtain⟨b2,b0⟩:=a6;exact aH rfl ⟨O7,_,a5,b6,b0,rfl,b2,rfl,by dsimp only;rw[d2];omega⟩
 |some k=>
  have hi:sH seg 35=(k:Nat):=by unfold sH;rw[hf]
  obtain⟨i2,j7⟩:=zX hf;rw[hi];have j6:m=fr+k:=by rw[i0,i2];simp;omega
  refine zh ?_;refine zTH rfl ((decide_eq_true zo)) ?_
  refine ak (j:=2) g8 rfl (Ju _) rfl rfl rfl rfl ?_;rw[show(fr:Int)+((k:Nat):Int)=(m:Int)from by omega];have j2:=g8.s_to (m:Int);have h6:Jv (fun k=>k=j) O w2 O (w2.setCell ⟨rb,2,none⟩ (nI (m:Int))):=Jr h7 g8.tag rfl;have d':=f7.upd h6 b7 b9 b8 (fun e=>d0 e.symm) (fun e=>c' e.symm) (fun e=>c9 e.symm);have e2:=f8.upd h6 b3 (fun e=>c6 e.symm);have i6:=i8.upd h6;have g1:=(e6.trans h6).mono (S':=fun k=>k=j\/k=jr\/k=ji\/k=jk\/k=jm) (fun _ h=>.inl h) b';generalize w2.setCell ⟨rb,2,none⟩ (nI (m:Int))=w3 at *;refine zh ?_
  refine zc KN (dX O w3 j rb ({s with pos:=(fr:Int),to:=(m:Int)}:LS) m (bC seg) hj d3 d4 rfl d5 f6 j2) ?_;rintro v w4 ⟨rfl,e4,f4⟩;have c7:=d'.upd f4 b7 b9 b8 (fun e=>d0 e.symm) (fun e=>c' e.symm) (fun e=>c9 e.symm);have c8:=e2.upd f4 b3 (fun e=>c6 e.symm);have g9:=i6.upd f4;have e5:=g1.trans (f4.mono (fun _ h=>.inl h) b');refine zh ?_
  by_cases h0:(bp seg).length=0
  ·have hM:cU kn st seg=.go kn st:=by unfold cU;rw[if_pos h0]
   rw[hM];refine zTH rfl ((by have d2:(aw (bC seg)).length=0:=h0;simp[d2])) ?_;exact cA rfl ⟨O,_,e5,g9,e4,rfl,he,c7.with rfl rfl rfl rfl rfl,c8⟩
  have d2:(aw (bC seg)).length=(bp seg).length:=rfl;refine zFH rfl ((by rw[d2,decide_eq_true zo];rfl)) ?_;refine zvH (RV.ld e4.q1 rfl) ?_;refine ak (j:=3) e4 rfl (Ju _) rfl rfl rfl rfl ?_;have i3:=e4.s_bg ((m:Int)-((aw (bC seg)).length:Int));have f3:Jv (fun k=>k=j) O w4 O (w4.setCell ⟨rb,3,none⟩ (nI ((m:Int)-((aw (bC seg)).length:Int)))):=Jr (fun e=>hj e.symm) e4.tag rfl;have d9:=c7.upd f3 b7 b9 b8 (fun e=>d0 e.symm) (fun e=>c' e.symm) (fun e=>c9 e.symm);have e1:=c8.upd f3 b3 (fun e=>c6 e.symm);have i5:=g9.upd f3;have g0:=e5.trans (f3.mono (fun _ h=>.inl h) b');generalize w4.setCell ⟨rb,3,none⟩ (nI ((m:Int)-((aw (bC seg)).length:Int)))=w5 at *;refine zh ?_;refine zc Le (gV O w5 j rb ({s with pos:=((m:Int)-((aw (bC seg)).length:Int)),to:=(m:Int),bg:=((m:Int)-((aw (bC seg)).length:Int))}:LS) m (bp seg) hj d3 d4 rfl b1 rfl i3) ?_;rintro v w6 ⟨rfl,e8,e9⟩;have a8:=d9.upd e9 b7 b9 b8 (fun e=>d0 e.symm) (fun e=>c' e.symm) (fun e=>c9 e.symm);have a9:=e1.upd e9 b3 (fun e=>c6 e.symm);have f5:=i5.upd e9;have c5:=g0.trans (e9.mono (fun _ h=>.inl h) b');have j1:=(Gb (l:=bp seg) aj).length_le;refine zh ?_;refine zvH (cX rfl rfl) ?_
  cases d1:((bp seg).takeWhile aj==[108,101,116])with
  |true=>
   have hM:cU kn st seg=Ip kn st (bC seg).length (tQ kn ((bp seg).dropWhile aj)):=by unfold cU;rw[if_neg h0,if_pos d1]
   rw[hM];refine zTH rfl rfl ?_;refine zc call131 (Bm B O w6 j jm rb ({s with pos:=(m:Int)-(((bp seg).dropWhile aj).length:Int),to:=(m:Int),bg:=((m:Int)-((aw (bC seg)).length:Int))}:LS) m ((bp seg).dropWhile aj) f5 hj b3 c6 d3 d4 rfl he ((Gb _).trans b1) rfl g5 a9 e8) ?_;rintro u w7 ⟨O7,v7,pos,bad,e,a0,b6,b0,a6⟩;have a5:=c5.trans (a0.mono (S':=fun k=>k=j\/k=jr\/k=ji\/k=jk\/k=jm) (fun _ h=>by rcases h with h|h;exact .inl h;exact .inr (.inr (.inr (.inr h)))) b');have d8:=a8.upd a0 b7 b9 b8 (fun h=>by rcases h with h|h;exact d0 h.symm;exact g3 h) (fun h=>by rcases h with h|h;exact c' h.symm;exact g' h) (fun h=>by rcases h with h|h;exact c9 h.symm;exact e7 h);refine zh ?_
   cases hq:tQ kn ((bp seg).dropWhile aj)with
   |ok x=>
    rw[hq]at a6;obtain⟨b5,e0⟩:=a6;exact aH rfl ⟨O7,_,a5,b6,b0,rfl,b5,d8.with rfl rfl rfl rfl rfl,e0⟩
   |bad p e'=>
    rw[hq]at a6;obtain⟨b5,b2,a'⟩:=a6;have d7:=Bn hq;exact aH rfl ⟨O7,_,a5,b6,b0,rfl,b2,b5,by dsimp only;rw[a'];omega⟩
  |false=>
  refine zFH rfl rfl ?_;refine zvH (cX rfl rfl) ?_
  cases e3:((bp seg).takeWhile aj==[105,103,110,111,114,101])with
  |true=>
   refine aZ rfl rfl ?_;have hb6d:=e8.drew;have hmem6d:=a8.upd (aa (S:=fun _=>False) (fun h=>h) O (J4 w6).drew) b7 b9 b8 (fun h=>h) (fun h=>h) (fun h=>h);have hmac6d:=a9.upd (aa (S:=fun _=>False) (fun h=>h) O (J4 w6).drew) b3 (fun h=>h);have hR6d:=f5.drew;have hUt6d:=c5.drew;refine JV 8 rfl rfl zk zk ?_
   refine zh ?_;refine Kp ?_
   cases b4:st.hi with
   |true=>
    have hM:cU kn st seg=.bad ((bC seg).length-(bp seg).length) 11:=by unfold cU;rw[if_neg h0,if_neg (by rw[d1];decide),if_pos e3,if_pos b4]
    rw[hM];refine zc Kl (qh O w6.drew j rb ({s with pos:=(m:Int)-(((bp seg).dropWhile aj).length:Int),to:=(m:Int),bg:=((m:Int)-((aw (bC seg)).length:Int))}:LS) hj he (hmem6d.fi.trans b4) hb6d) ?_;rintro u w7 ⟨b0,a0⟩;refine zh ?_;exact aH rfl ⟨O,_,hUt6d.trans (a0.mono (fun _ h=>.inl h) b'),hR6d.upd a0,b0,rfl,zd,rfl,by dsimp only;rw[d2];omega⟩
   |false=>
    have hM:cU kn st seg=pz kn (IT st (bC seg).length (dt ((bp seg).dropWhile aj))):=by unfold cU;rw[if_neg h0,if_neg (by rw[d1];decide),if_pos e3,if_neg (by rw[b4];decide)]
    rw[hM];refine zc Kl (tN B O w6.drew j ji rb ({s with pos:=(m:Int)-(((bp seg).dropWhile aj).length:Int),to:=(m:Int),bg:=((m:Int)-((aw (bC seg)).length:Int))}:LS) m ((bp seg).dropWhile aj) hR6d hj b9 c' d3 d4 rfl he (hmem6d.fi.trans b4) (hmem6d.ni b4) ((Gb _).trans b1) rfl hb6d) ?_;rintro u w7 ⟨O7,lv,pos,bad,e,a0,b6,b0,a6⟩;have a5:=hUt6d.trans (a0.mono (S':=fun k=>k=j\/k=jr\/k=ji\/k=jk\/k=jm) (fun _ h=>by rcases h with h|h;exact .inl h;exact .inr (.inr (.inl h))) b');refine zh ?_
    cases hq:dt ((bp seg).dropWhile aj)with
    |ok l=>
     rw[hq]at a6;obtain⟨b5,a7⟩:=a6;obtain⟨⟨xs,a1,a2,a3,a4⟩,mb,mc,md,me,mf,mg⟩:=hmem6d;exact aH rfl ⟨O7,_,a5,b6,b0,rfl,b5,⟨⟨xs,a1.upd a0 b7 (fun h=>by rcases h with h|h;exact d0 h.symm;exact h5 h),a2,a3,fun i hi=>(a4 i hi).upd a0⟩,a7,mc.upd a0 b8 (fun h=>by rcases h with h|h;exact c9 h.symm;exact h3 h.symm),rfl,me,(fun h=>by cases h),mg⟩,hmac6d.upd a0 b3 (fun h=>by rcases h with h|h;exact c6 h.symm;exact g' h.symm)⟩
    |bad p e'=>
     rw[hq]at a6;obtain⟨b5,b2,a'⟩:=a6;have d7:=ng hq;exact aH rfl ⟨O7,_,a5,b6,b0,rfl,b2,b5,by dsimp only;rw[a'];omega⟩
  |false=>
   refine zFH rfl rfl ?_;refine zvH (cX rfl rfl) ?_
   cases f':((bp seg).takeWhile aj==[107,101,101,112])with
   |true=>
    refine aZ rfl rfl ?_;have hb6d:=e8.drew;have hmem6d:=a8.upd (aa (S:=fun _=>False) (fun h=>h) O (J4 w6).drew) b7 b9 b8 (fun h=>h) (fun h=>h) (fun h=>h);have hmac6d:=a9.upd (aa (S:=fun _=>False) (fun h=>h) O (J4 w6).drew) b3 (fun h=>h);have hR6d:=f5.drew;have hUt6d:=c5.drew;refine JV 8 rfl rfl zk zk ?_
    refine zh ?_;refine Kp ?_
    cases b4:st.hk with
    |true=>
     have hM:cU kn st seg=.bad ((bC seg).length-(bp seg).length) 11:=by unfold cU;rw[if_neg h0,if_neg (by rw[d1];decide),if_neg (by rw[e3];decide),if_pos f',if_pos b4]
     rw[hM];refine zc Kl (qg O w6.drew j rb ({s with pos:=(m:Int)-(((bp seg).dropWhile aj).length:Int),to:=(m:Int),bg:=((m:Int)-((aw (bC seg)).length:Int))}:LS) hj he (hmem6d.fk.trans b4) hb6d) ?_;rintro u w7 ⟨b0,a0⟩;refine zh ?_;exact aH rfl ⟨O,_,hUt6d.trans (a0.mono (fun _ h=>.inl h) b'),hR6d.upd a0,b0,rfl,zd,rfl,by dsimp only;rw[d2];omega⟩
    |false=>
     have hM:cU kn st seg=pz kn (IS st (bC seg).length (dt ((bp seg).dropWhile aj))):=by unfold cU;rw[if_neg h0,if_neg (by rw[d1];decide),if_neg (by rw[e3];decide),if_pos f',if_neg (by rw[b4];decide)]
     rw[hM];refine zc Kl (tM B O w6.drew j jk rb ({s with pos:=(m:Int)-(((bp seg).dropWhile aj).length:Int),to:=(m:Int),bg:=((m:Int)-((aw (bC seg)).length:Int))}:LS) m ((bp seg).dropWhile aj) hR6d hj b8 c9 d3 d4 rfl he (hmem6d.fk.trans b4) (hmem6d.nk b4) ((Gb _).trans b1) rfl hb6d) ?_;rintro u w7 ⟨O7,lv,pos,bad,e,a0,b6,b0,a6⟩;have a5:=hUt6d.trans (a0.mono (S':=fun k=>k=j\/k=jr\/k=ji\/k=jk\/k=jm) (fun _ h=>by rcases h with h|h;exact .inl h;exact .inr (.inr (.inr (.inl h)))) b');refine zh ?_
     cases hq:dt ((bp seg).dropWhile aj)with
     |ok l=>
      rw[hq]at a6;obtain⟨b5,a7⟩:=a6;obtain⟨⟨xs,a1,a2,a3,a4⟩,mb,mc,md,me,mf,mg⟩:=hmem6d;exact aH rfl ⟨O7,_,a5,b6,b0,rfl,b5,⟨⟨xs,a1.upd a0 b7 (fun h=>by rcases h with h|h;exact d0 h.symm;exact h4 h),a2,a3,fun i hi=>(a4 i hi).upd a0⟩,mb.upd a0 b9 (fun h=>by rcases h with h|h;exact c' h.symm;exact h3 h),a7,md,rfl,mf,(fun h=>by cases h)⟩,hmac6d.upd a0 b3 (fun h=>by rcases h with h|h;exact c6 h.symm;exact e7 h.symm)⟩
     |bad p e'=>
      rw[hq]at a6;obtain⟨b5,b2,a'⟩:=a6;have d7:=ng hq;exact aH rfl ⟨O7,_,a5,b6,b0,rfl,b2,b5,by dsimp only;rw[a'];omega⟩
   |false=>
    have hM:cU kn st seg=pz kn (IR st ((bC seg).length-(bp seg).length) (if st.ts.length=40 then Ln 0 3 else jl kn (bp seg))):=by unfold cU;rw[if_neg h0,if_neg (by rw[d1];decide),if_neg (by rw[e3];decide),if_neg (by rw[f'];decide)]
    refine aS rfl rfl ?_;obtain⟨xs,d6,g4,h9,h8⟩:=a8.ru;refine zh ?_
    refine zc call133 (tk B O w6 j jr rb ({s with pos:=(m:Int)-(((bp seg).dropWhile aj).length:Int),to:=(m:Int),bg:=((m:Int)-((aw (bC seg)).length:Int))}:LS) m (bp seg) xs f5 hj b7 d0 d3 d4 rfl g6 he b3 c6 g3 a9 b1 d6 h9 e8) ?_;rintro v w7 ⟨O7,rv,a0,b6,a6⟩;have a5:=c5.trans (a0.mono (S':=fun k=>k=j\/k=jr\/k=ji\/k=jk\/k=jm) (fun _ h=>by rcases h with h|h;exact .inl h;exact .inr (.inl h)) b');refine zh ?_
    rw[hM,g4]
    cases hq:(if xs.length=40 then Ln 0 3 else jl kn (bp seg))with
    |ok t=>
     rw[hq]at a6;obtain⟨x,a7,g2,b0⟩:=a6;have j5:xs.length≠40:=fun e=>by rw[if_pos e]at hq;cases hq
     obtain⟨_,mb,mc,md,me,mf,mg⟩:=a8;obtain⟨q1,q2,q3,q4⟩:=LK (ts:=st.ts) a7 g4 zo (fun i hi=>(h8 i hi).upd a0) g2;exact aH rfl ⟨O7,_,a5,b6,b0,rfl,he,⟨⟨xs++[x],q1,q2,q3,q4⟩,mb.upd a0 b9 (fun h=>by rcases h with h|h;exact c' h.symm;exact h5 h.symm),mc.upd a0 b8 (fun h=>by rcases h with h|h;exact c9 h.symm;exact h4 h.symm),md,me,mf,mg⟩,a9.upd a0 b3 (fun h=>by rcases h with h|h;exact c6 h.symm;exact g3 h.symm)⟩
    |bad p e=>
     rw[hq]at a6;obtain⟨b2,b0⟩:=a6;exact aH rfl ⟨O7,_,a5,b6,b0,rfl,b2,rfl,by dsimp only;rw[d2];omega⟩
end
inductive TK where
 |ok (st:St)
 |bad (p:Nat) (e:Int)
def qi:Nat->Kn->St->Nat->List UInt8->TK
 |0,_,_,_,_=>.bad 0 3
 |n+1,kn,st,fr,r=>
  match cU kn st (eu r)with
  |.bad p e=>.bad (fr+p) e
  |.go kn' st'=>if(eu r).length=r.length then .ok st' else qi n kn' st' (fr+(eu r).length+1) (r.drop ((eu r).length+1))
def st0:St:=⟨[],[],[],false,false⟩
def kD(l:List UInt8):TK:=if 4096<l.length then .bad 0 3 else qi (l.length+1) [] st0 0 l
theorem A0{kn a0:Kn}{st a1:St}{seg:List UInt8}(h:cU kn st seg=.go a0 a1):a0.length<=kn.length+1:=by
 have hl:∀ {R:RS},pz kn R=.go a0 a1->a0.length<=kn.length+1:=fun {R} h=>by
  cases R with
  |go s=>cases h;omega
  |bad p e=>cases h
  |other=>cases h
 unfold cU at h
 split at h
 ·cases h;omega
 split at h
 ·unfold Ip at h
  split at h
  ·cases h;simp
  cases h
 split at h
 ·split at h
  ·cases h
  exact hl h
 split at h
 ·split at h
  ·cases h
  exact hl h
 exact hl h
def LoopK(l:List UInt8)(M:TK)(O:Nat->Nat)(w:J1)(jr ji jk jm:Nat)(n fr:Nat)(kn:Kn)(st:St)(s:LS):Prop:=
 (fr<=l.length/\s.e=0/\l.length-fr<n/\qi n kn st fr (l.drop fr)=M/\Mem O w jr ji jk s st/\Mac O w jm s.mc kn/\kn.length<=fr)\/(fr=l.length+1/\s.e=0/\M=.ok st/\Mem O w jr ji jk s st)\/
 (∃p e,e≠0/\s.e=e/\s.bad=((p:Nat):Int)/\M=.bad p e)
theorem LoopK.next{l:List UInt8}{M:TK}{B j jr ji jk jm rb n fr:Nat}{O:Nat->Nat}{w w':J1}{kn:Kn}{st:St}{s:LS}(a3:fr<=l.length)(hn:l.length-fr<n+1)(hM:qi (n+1) kn st fr (l.drop fr)=M)(a2:kn.length<=fr) 
  (hP:Ih B O w w' j jr ji jk jm rb s fr (cU kn st (eu (l.drop fr)))) :
  ∃O' s' n' kn' st',Jv (fun k=>k=j\/k=jr\/k=ji\/k=jk\/k=jm) O w O' w'/\KS B O' w'/\Lh O' w' j rb s'/\s'.l=s.l/\n'<n+1/\LoopK l M O' w' jr ji jk jm n' (fr+(eu (l.drop fr)).length+1) kn' st' s':=by
 obtain⟨O',s',hU,hR,hb,e1,hq⟩:=hP;have a0:(eu (l.drop fr)).length<=l.length-fr:=by
  have:=(JR (l:=l.drop fr) (fun b=>!(b==10))).length_le;simpa[eu]using this
 have a4:(l.drop fr).length=l.length-fr:=by simp
 unfold qi at hM;refine⟨O',s',?_⟩
 cases hr:cU kn st (eu (l.drop fr))with
 |bad p e=>
  rw[hr]at hq hM;obtain⟨q1,q2,q3⟩:=hq;exact⟨0,kn,st,hU,hR,hb,e1,zo,.inr (.inr ⟨fr+p,e,q1,q2,by rw[q3];simp,hM.symm⟩)⟩
 |go kn' st'=>
  have a1:=A0 hr;rw[hr]at hq hM;dsimp only at hM;obtain⟨q1,q2,q3⟩:=hq
  split at hM
  ·rename_i he;exact⟨0,kn',st',hU,hR,hb,e1,zo,.inr (.inl ⟨zo,q1,hM.symm,q2⟩)⟩
  rename_i he;exact⟨n,kn',st',hU,hR,hb,e1,zo,.inl ⟨zo,q1,zo,by rw[<-hM,Ly,LH],q2,q3,zo⟩⟩
def If(w:J1)(v:J5):TK->Prop
 |.ok st=>∃tv,v=.tuple #[tv,nI 0,nI 0]/\Tx w tv st.li st.lk st.ts
 |.bad p e=>v=.tuple #[sF sG sG sG,nI (p:Int),nI e]/\e≠0
theorem Mem.tx{O:Nat->Nat}{w:J1}{jr ji jk:Nat}{s:LS}{st:St}(h:Mem O w jr ji jk s st):Tx w (sF s.ig s.kp s.ru) st.li st.lk st.ts:=by
 obtain⟨xs,a1,a2,a3,a4⟩:=h.ru;exact⟨s.ig,s.kp,s.ru,xs,rfl,h.ig.sl,h.kp.sl,a1.sl,a2,fun i hi=>(a4 i hi).weak fun _ _=>rfl⟩
theorem vu(l:List UInt8)(B:Nat)(O:Nat->Nat)(w:J1)(hR:KS B O w)(g0:l.length<=1000000000):L2 JX 50 [.string (bs l)] w fun v w'=>Ku w w'/\If w' v (kD l):=by
 obtain⟨T,g3,hT⟩:=hR.bound;have a6:¬(fun q:Nat=>T<=q) 0:=fun e=>by omega
 have c6:∀b,¬T<=O b:=fun b=>by have:=hT b;omega
 refine J6 func50 ntmps50 rfl rfl ?_;refine zg ?_
 refine ax hR T zo (JL _) rfl ?_;intro xb w1 O1 b8 f6 f8 g5;have b6:Jv (fun q=>T<=q) O w O1 w1:=f6.mono (fun _ h=>JE h.symm) a6;refine zg ?_
 refine zvG (cx JH rfl) ?_
 by_cases hl:4096<l.length
 ·have hM:kD l=.bad 0 3:=by unfold kD;rw[if_pos hl]
  rw[hM];refine zTG rfl ((decide_eq_true zo)) ?_;refine zv (aF Im (JL _) rfl (by first|rfl|(simp only[Jy,K4];rfl)) rfl rfl) ?_;refine zsa (us:=(#[nS,nS,nS]:Array J5)) b8 (Jz _) ?_;have a7:=b8.setRow (us:=(#[nS,nS,nS]:Array J5));have a4:Jv (fun k=>k=T) O1 w1 O1 (w1.setRow xb (#[nS,nS,nS]:Array J5)):=Jp zo b8.tag rfl;refine zg ?_;refine cF rfl rfl rfl rfl a7.cellsAdd (Kk _) (Jz _) ⟨aD (b6.trans (a4.mono (fun _ h=>JE h.symm) a6)) c6,rfl,by decide⟩
 have f9:kD l=qi (l.length+1) [] st0 0 l:=by unfold kD;rw[if_neg hl]
 refine zFG rfl ((decide_eq_false zo)) ?_;refine zv (aF IC (zeroValue167 _) rfl (by first|rfl|(simp only[Jy,K4];rfl)) rfl rfl) ?_
 refine zv (Kg (vs:=[(0,.agg #[.string (bs l),nI 0,nI 0,nI 0,nI 0,nI 0])]) (cells:=(⟨l,0,0,0,0,0,nS,nS,nS,nS,false,false⟩:LS).cells) IB (zeroValue170 _) rfl zk) ?_;refine aE f8 (T+1) zo rfl rfl ?_
 intro rb w2 O2 d2 e5 f7 g4;have f5:Lh O2 w2 (T+1) rb ⟨l,0,0,0,0,0,nS,nS,nS,nS,false,false⟩:=d2;have e7:=b8.upd e5 zo zo;have d6:=b6.trans (e5.mono (fun _ h=>by rw[h];omega) a6);refine zg ?_;refine zlp (fun y:Nat×Nat×Kn×St×(Nat->Nat)×World×LS=>[(0,.string (bs l)),(2,nP xb),(5,nP rb),(6,nI (y.2.1:Nat))]) (fun y=>y.2.2.2.2.2.1) (fun y=>JU y.2.2.2.2.1 y.2.2.2.2.2.1 T xb (#[nS,nS,nS]:Array J5) 41/\Lh y.2.2.2.2.1 y.2.2.2.2.2.1 (T+1) rb y.2.2.2.2.2.2/\y.2.2.2.2.2.2.l=l/\Jv (fun q=>T<=q) O w y.2.2.2.2.1 y.2.2.2.2.2.1/\KS B y.2.2.2.2.1 y.2.2.2.2.2.1/\y.2.1<=10000000/\LoopK l (kD l) y.2.2.2.2.1 y.2.2.2.2.2.1 (T+2) (T+3) (T+4) (T+5) y.1 y.2.1 y.2.2.1 y.2.2.2.1 y.2.2.2.2.2.2) (fun y=>y.1) (l.length+1,0,[],st0,O2,w2,⟨l,0,0,0,0,0,nS,nS,nS,nS,false,false⟩) (⟨e7,f5,rfl,d6,f7,by dsimp only;omega,.inl ⟨by dsimp only;omega,rfl,by dsimp only;omega,by rw[f9];rfl,⟨⟨[],Kb _ _ _ _ _ _,rfl,by simp,fun i hi=>absurd hi (by simp)⟩,Kb _ _ _ _ _ _,Kb _ _ _ _ _ _,rfl,rfl,fun _=>rfl,fun _=>rfl⟩,Mac.nil _ _ _,J3 _⟩⟩) ?_;rintro⟨n,fr,kn,st,O1,w3,s⟩ ⟨a2,a3,a5,a1,d8,f4,e6⟩;dsimp only at a2 a3 a5 a1 d8 f4 e6 ⊢
 rcases e6 with⟨c5,he,e1,b1,a0,b4,e3⟩|⟨c5,he,b1,a0⟩|⟨p,e,b9,d0,a',b1⟩
 ·obtain⟨n,rfl⟩:∃m,n=m+1:=⟨n-1,by omega⟩
  have g2:(eu (l.drop fr)).length<=l.length-fr:=by
   have:=(JR (l:=l.drop fr) (fun b=>!(b==10))).length_le;simpa[eu]using this
  have q5:=a3.q5;rw[he]at q5;refine zg ?_;refine zvG (cx JH rfl) ?_;refine ay (d:=21) rfl (b':=true) ((decide_eq_true zo)) ?_;refine zg ?_;refine zvG (RV.ld q5 rfl) ?_;refine zTG rfl rfl ?_;refine zvG (cx JH rfl) ?_;refine zv (jV JH rfl rfl fr rfl c5) ?_;refine zc call91 (dK (l.drop fr) 10 w3) ?_;rintro v w9 ⟨rfl,e0⟩;rw[e0];clear e0 w9
  cases hf:(l.drop fr).findIdx? (· == 10)with
  |none=>
   have hi:sH (l.drop fr) 10 = -1:=by unfold sH;rw[hf]
   have e2:=congrArg Kw (zy hf);rw[Lm]at e2;rw[hi,show((l.length:Nat):Int)=((fr+(eu (l.drop fr)).length:Nat):Int)from by omega];refine zg ?_;refine zFG rfl rfl ?_;refine zc call92 (tt B O1 w3 (T+1) (T+2) (T+3) (T+4) (T+5) rb s fr (fr+(eu (l.drop fr)).length) (eu (l.drop fr)) st d8 zo zo zo zo zo zo zo zo zo zo zo zo zo zo zo zo zo (by rw[a5];omega) (by rw[a5];omega) he (by rw[a5];exact tO l fr) a0 b4 a3) ?_;rintro v w4 d9;obtain⟨O4,s4,n4,c8,c7,b7,d7,d1,g1,a9,d'⟩:=LoopK.next c5 e1 b1 e3 d9;have c9:=ln a2 b7 zo zo;have b0:=a1.trans (b7.mono (fun _ h=>by rcases h with h|h|h|h|h<;>rw[h]<;>omega) a6);refine zg ?_;refine zvG (JI rfl rfl (Jw zo)) ?_;refine zx (n4,fr+(eu (l.drop fr)).length+1,c8,c7,O4,w4,s4) (⟨c9,d1,g1.trans a5,b0,d7,by dsimp only;omega,d'⟩) (a9)
  |some k=>
   have hi:sH (l.drop fr) 10=(k:Nat):=by unfold sH;rw[hf]
   have e2:=zu hf;rw[hi];refine zg ?_;refine zTG rfl ((decide_eq_true zo)) ?_;refine zvG (JI rfl rfl (Jw zo)) ?_;rw[show(fr:Int)+((k:Nat):Int)=((fr+(eu (l.drop fr)).length:Nat):Int)from by omega];refine zc call92 (tt B O1 w3 (T+1) (T+2) (T+3) (T+4) (T+5) rb s fr (fr+(eu (l.drop fr)).length) (eu (l.drop fr)) st d8 zo zo zo zo zo zo zo zo zo zo zo zo zo zo zo zo zo (by rw[a5];omega) (by rw[a5];omega) he (by rw[a5];exact tO l fr) a0 b4 a3) ?_;rintro v w4 d9;obtain⟨O4,s4,n4,c8,c7,b7,d7,d1,g1,a9,d'⟩:=LoopK.next c5 e1 b1 e3 d9;have c9:=ln a2 b7 zo zo;have b0:=a1.trans (b7.mono (fun _ h=>by rcases h with h|h|h|h|h<;>rw[h]<;>omega) a6);refine zg ?_;refine zvG (JI rfl rfl (Jw zo)) ?_;refine zx (n4,fr+(eu (l.drop fr)).length+1,c8,c7,O4,w4,s4) (⟨c9,d1,g1.trans a5,b0,d7,by dsimp only;omega,d'⟩) (a9)
 ·have q5:=a3.q5;rw[he]at q5;refine zg ?_;refine zvG (cx JH rfl) ?_;refine ay (d:=21) rfl (b':=false) ((decide_eq_false zo)) ?_;rw[b1];have q6:=a3.q6;have q7:=a3.q7;have q8:=a3.q8;have f':=a0.tx;have f3:=a0.ig.one;have e':=a0.kp.one;obtain⟨xs,e8,_,_,_⟩:=a0.ru;have e9:=e8.one;refine zg ?_;refine zFG rfl rfl ?_;refine zvG (RV.ld q5 rfl) ?_;refine zFG rfl rfl ?_;refine zv (ai (us:=[s.ig,s.kp,s.ru]) (Ap q6 q7 q8) (Kk _) (Jz _) rfl) ?_;refine zsb (us:=#[s.ig,s.kp,s.ru]) a2 (Jz _) (by simp only[Jy,f3,e',e9];rfl) ?_;have a7:=a2.setRow (us:=#[s.ig,s.kp,s.ru]);have a4:Jv (fun k=>k=T) O1 w3 O1 (w3.setRow xb #[s.ig,s.kp,s.ru]):=Jp zo a2.tag rfl;have d3:=a1.trans (a4.mono (fun _ h=>JE h.symm) a6);have b3:=a0.upd a4 zo zo zo zo zo zo;refine zg ?_;refine cF rfl rfl rfl rfl a7.cellsAdd (Kk _) (Jz _) ⟨aD d3 c6,_,rfl,b3.tx⟩
 rw[b1];have q5:=a3.q5;rw[d0]at q5;have q4:=a3.q4;rw[a']at q4;have c':((e==0):Bool)=false:=by simpa using b9
 have b2:((e != 0):Bool)=true:=by simpa using b9
 cases e4:decide ((fr:Int)<=(l.length:Int))with
 |false=>
  refine zg ?_;refine zvG (cx JH rfl) ?_
  refine ay (d:=21) rfl (b':=false) (e4) ?_;refine zg ?_
  refine zFG rfl rfl ?_;refine zvG (RV.ld q5 rfl) ?_
  refine aZ rfl (b2) ?_;have d4:w3.drew.cell? ⟨rb,4,none⟩=some (nI (p:Nat)):=q4;have d5:w3.drew.cell? ⟨rb,5,none⟩=some (nI e):=q5;refine zg ?_
  refine aI (fun W=>W.cell? ⟨rb,4,none⟩=some (nI (p:Nat))/\W.cell? ⟨rb,5,none⟩=some (nI e)) 14 rfl zk ?_;refine zin ⟨d4,d5⟩ fun zS=>?_
  refine zr 0 rfl zS (fun _=>aF Im (JL _) rfl (by first|rfl|(simp only[Jy,K4];rfl)) rfl rfl) ?_;refine zrm 1 rfl zS rfl ?_
  refine zr 2 rfl zS (fun _=>aq rfl) ?_;refine zrf 3 rfl zS rfl ?_
  refine zrf 4 rfl zS rfl ?_;refine zt 5 rfl zS (fun w1 a8=>RV.ld a8.1 rfl) ?_
  refine zrm 6 rfl zS rfl ?_;refine zr 7 rfl zS (fun _=>aq rfl) ?_
  refine zrf 8 rfl zS rfl ?_;refine zrf 9 rfl zS rfl ?_
  refine zt 10 rfl zS (fun w1 a8=>RV.ld a8.2 rfl) ?_;refine Gc 11 zk rfl ?_
  refine zsa (us:=#[nS,nS,nS]) a2.drew (Jz _) ?_;have a7:=Kx (us:=#[nS,nS,nS]) a2.drew;have a4:Jv (fun k=>k=T) O1 w3.drew O1 (w3.drew.setRow xb #[nS,nS,nS]):=Jp zo a2.tag rfl;have b5:=(Ke a3).upd a4 zo zo;have z5:=b5.q5;rw[d0]at z5;have z4:=b5.q4;rw[a']at z4;refine zg ?_
  refine zaf (⟨z4,z5⟩) fun zS=>?_
  refine zra 12 rfl zS rfl ?_;refine zra 13 rfl zS rfl ?_
  refine J8 zk ?_;refine zg ?_
  refine cF rfl rfl rfl rfl a7.cellsAdd (Kk _) (Jz _) ⟨aD ((a1.drew).trans (a4.mono (fun _ h=>JE h.symm) a6)) c6,rfl,b9⟩
 |true=>
  refine zg ?_;refine zvG (cx JH rfl) ?_
  refine ay (d:=21) rfl (b':=true) (e4) ?_;refine zg ?_
  refine zvG (RV.ld q5 rfl) ?_;refine zFG rfl (c') ?_
  refine zvG (RV.ld q5 rfl) ?_;refine aZ rfl (b2) ?_
  have d4:w3.drew.cell? ⟨rb,4,none⟩=some (nI (p:Nat)):=q4;have d5:w3.drew.cell? ⟨rb,5,none⟩=some (nI e):=q5;refine zg ?_;refine aI (fun W=>W.cell? ⟨rb,4,none⟩=some (nI (p:Nat))/\W.cell? ⟨rb,5,none⟩=some (nI e)) 14 rfl zk ?_;refine zin ⟨d4,d5⟩ fun zS=>?_
  refine zr 0 rfl zS (fun _=>aF Im (JL _) rfl (by first|rfl|(simp only[Jy,K4];rfl)) rfl rfl) ?_;refine zrm 1 rfl zS rfl ?_
  refine zr 2 rfl zS (fun _=>aq rfl) ?_;refine zrf 3 rfl zS rfl ?_
  refine zrf 4 rfl zS rfl ?_;refine zt 5 rfl zS (fun w1 a8=>RV.ld a8.1 rfl) ?_
  refine zrm 6 rfl zS rfl ?_;refine zr 7 rfl zS (fun _=>aq rfl) ?_
  refine zrf 8 rfl zS rfl ?_;refine zrf 9 rfl zS rfl ?_
  refine zt 10 rfl zS (fun w1 a8=>RV.ld a8.2 rfl) ?_;refine Gc 11 zk rfl ?_
  refine zsa (us:=#[nS,nS,nS]) a2.drew (Jz _) ?_;have a7:=Kx (us:=#[nS,nS,nS]) a2.drew;have a4:Jv (fun k=>k=T) O1 w3.drew O1 (w3.drew.setRow xb #[nS,nS,nS]):=Jp zo a2.tag rfl;have b5:=(Ke a3).upd a4 zo zo;have z5:=b5.q5;rw[d0]at z5;have z4:=b5.q4;rw[a']at z4;refine zg ?_
  refine zaf (⟨z4,z5⟩) fun zS=>?_
  refine zra 12 rfl zS rfl ?_;refine zra 13 rfl zS rfl ?_
  refine J8 zk ?_;refine zg ?_
  refine cF rfl rfl rfl rfl a7.cellsAdd (Kk _) (Jz _) ⟨aD ((a1.drew).trans (a4.mono (fun _ h=>JE h.symm) a6)) c6,rfl,b9⟩
theorem lB:∀(n:Nat),n<=1000000->∀(t:Nd),nsz t<=n->∀(B:Nat) (O:Nat->Nat) (x:N3) (w:J1),KS B O w->Nt (fun _=>0) w t x->L2 JX 36 [nv x] w fun v w'=>∃y,v=nv y/\Nt O w' t y/\Ku w w'
 |0,_,t,hn=>by have:=cN t;omega
 |n+1,b9,.mk k c kids,hn=>by
  intro B O x w hR h;obtain⟨T,j3,hT⟩:=hR.bound;have b3:∀b,¬T<=O b:=fun b=>by have:=hT b;omega
  obtain⟨xs,hs,hf,hl,hk⟩:=h.kids;simp only[Mg]at hl hk;obtain⟨x0,x1,sv⟩:=x;obtain rfl:k=x0:=(congrArg Prod.fst h.ones).symm;obtain rfl:c=x1:=(congrArg (fun q:N3=>q.2.1) h.ones).symm;dsimp only at hs hf;have j2:=ef kids;simp only[nsz]at hn;have a':¬(fun q:Nat=>T<=q) 0:=fun e=>zo
  refine J6 func36 ntmps36 rfl rfl ?_;refine zh ?_
  refine aE hR (T+1) zo rfl rfl ?_;intro nb w1 O1 h9 i5 i9 j6;refine ax i9 T zo (Kh _) rfl ?_
  intro xb w2 O2 h5 h1 i8 j5;have g4:=h9.upd h1 zo zo;have n0:w2.cell? (nA nb 0)=some (nI k):=g4.cell 0 rfl;have n1:w2.cell? (nA nb 1)=some (nI c):=g4.cell 1 rfl;refine zh ?_;refine zv (aF xW (Kh _) rfl (by first|rfl|(simp only[Jy,K4];rfl)) rfl rfl) ?_;refine ax i8 (T+2) zo (Kh _) rfl ?_;intro ob w3 O3 g2 i4 i7 j4;refine zsa (us:=#[nI k,nI c,nS]) g2 (K9 _) ?_;have h7:=g2.setRow (us:=#[nI k,nI c,nS]);have h0:Jv (fun q=>q=T+2) O3 w3 O3 (w3.setRow ob #[nI k,nI c,nS]):=Jp zo g2.tag rfl;have d7:=i4.trans h0;have i6:=i7.upd h0;have h8:=g4.upd d7 zo zo;have h4:=h5.upd d7 zo zo;have g5:Jv (fun q=>T<=q) O w O3 _:=((i5.mono (fun _ h=>by rw[h];omega) a').trans (h1.mono (fun _ h=>by rw[h];omega) a')).trans (d7.mono (fun _ h=>by rw[h];omega) a');generalize w3.setRow ob #[nI k,nI c,nS]=w4 at *;refine zh ?_
  refine zlp (fun y:Nat×(Nat->Nat)×World×J5×List N3=>[(1,nP nb),(2,nP xb),(3,nP ob),(4,nI y.1)]) (fun y=>y.2.2.1) (fun y=>y.1<=xs.length/\JU y.2.1 y.2.2.1 (T+1) nb #[nI k,nI c,sv] 47/\JU y.2.1 y.2.2.1 T xb #[nI 0,nI 0,nS] 83/\JU y.2.1 y.2.2.1 (T+2) ob #[nI k,nI c,y.2.2.2.1] 83/\JY aY 83 3 y.2.1 y.2.2.1 (T+3) y.2.2.2.1 y.2.2.2.2/\y.2.2.2.2.length=y.1/\(∀m,m<y.1->Nt y.2.1 y.2.2.1 (nth kids m) (nth y.2.2.2.2 m))/\Jv (fun q=>T<=q) O w y.2.1 y.2.2.1/\KS B y.2.1 y.2.2.1) (fun y=>xs.length-y.1) (0,O3,w4,nS,[]) (⟨J3 _,h8,h4,h7,Kb _ _ _ _ _ _,rfl,fun m hm=>absurd hm (Jq m),g5,i6⟩) ?_;rintro⟨i,O1',d',lv,zs⟩ ⟨hi,d3,b6,d2,b2,d1,g0,b',d9⟩;dsimp only at hi d3 b6 d2 b2 d1 g0 b' d9 ⊢;have g8:=aD b' b3;have j0:=hs.ext g8;have c2:d'.cell? (nA nb 2)=some sv:=d3.cell 2 rfl;refine zh ?_
  refine zC ?_ ?_
  ·intro d4;replace d4:i<xs.length:=dT d4;have g':=hk i d4;have i':=g'.one;have j1:=bD kids i zo;have g3:=d3.drew;have g9:=b6.drew;have g1:=d2.drew;have c6:=b2.drew;have g6:=d9.drew;have e3:∀m,m<i->Nt O1' d'.drew (nth kids m) (nth zs m):=fun m hm=>(g0 m hm).drew
   have d5:=b'.drew;have h2:=aD d5 b3;have d8:=Gi (g3.cell 2 rfl) h2;refine zh ?_;refine aI (fun W=>W.cell? ⟨nb,2,none⟩=some sv/\Ku w W) 12 rfl zk ?_;refine zrf 0 rfl d8 rfl ?_;refine zrf 2 rfl d8 rfl ?_;refine zt 3 rfl d8 (fun w1 e6=>RV.ld e6.1 rfl) ?_;refine zrm 4 rfl d8 rfl ?_;refine zt 5 rfl d8 (fun w1 e6=>JP (by first|exact hs.ext e6.2) Ld (JM _) rfl rfl _ rfl zo) ?_;refine zt 6 rfl d8 (fun w1 e6=>ai (us:=aY (nth xs i)) (fun j u hu=>(hs.ext e6.2).cell d4 hu) (Kd _) (JM _) rfl) ?_;generalize d'.drew=wD at *;have i3:wD.cell? (nA ob 2)=some lv:=g1.cell 2 rfl;have c':=lB n zo (nth kids i) zo B O1' (nth xs i) wD g6 (g'.ext h2);refine bV 1 7 zk rfl rfl ?_ ?_
   ·refine zvH (RV.ld i3 rfl) ?_;refine af d8 ?_
    refine Gc 7 zk rfl ?_;refine zc KR c' ?_
    rintro v w5 ⟨z,rfl,f6,g7⟩;have b0:Jv (fun _=>False) O1' wD O1' w5:=aa (fun h=>h) O1' g7;have e1:=ln g3 b0 zo (fun h=>h);have f7:=ln g9 b0 zo (fun h=>h);have e9:=ln g1 b0 zo (fun h=>h);have b1:=LQ c6 b0 zo (fun h=>h);have f':=Lk g6 b0;have b8:∀m,m<i->Nt O1' w5 (nth kids m) (nth zs m):=fun m hm=>(e3 m hm).upd b0
    have b4:=KO d5 (b0.mono (fun _ h=>h.elim) a');have f9:=Gi (e1.cell 2 rfl) (aD b4 b3);refine zh ?_;refine af f9 ?_;refine Gc 8 zk rfl ?_;refine aL elN (enc:=aY) z rfl rfl rfl zd rfl ?_;intro w6 h6 f5;have a1:Jv (fun _=>False) O1' w5 O1' w6:=aa (fun h=>h) O1' f5;have b9:=e1.upd a1 zo (fun h=>h);have e5:=f7.upd a1 zo (fun h=>h);have e0:=e9.upd a1 zo (fun h=>h);have a5:=b1.upd a1 zo (fun h=>h);have f4:=f'.upd a1;have b5:∀m,m<i->Nt O1' w6 (nth kids m) (nth zs m):=fun m hm=>(b8 m hm).upd a1
    have c5:=f6.upd a1;have a9:=b4.trans (a1.mono (fun _ h=>h.elim) a');have e2:=Gi (b9.cell 2 rfl) (aD a9 b3);refine zh ?_;refine af e2 ?_;have a6:∀u∈[z],∀c∈aY u,c.oneCell'=true:=fun u hu=>by
     rw[GT.1 hu];exact iA c5.one
    refine Gc 9 zk rfl ?_;refine aC elN a5 f4 h6 (by simp) rfl rfl (fun _ _=>rfl) a6 (by simp;omega) (by simp;omega) zo rfl ?_
    intro a3 w7 O7 a0 a4 f3;have e7:=a0.one;have c9:=ln b9 a4 zo zo;have b7:=ln e0 a4 zo zo;have e4:=ln e5 a4 zo zo;have a8:=a9.trans (a4.mono (fun _ h=>by rw[h];omega) a');have d0:=Gi (c9.cell 2 rfl) (aD a8 b3);refine zh ?_;refine af d0 ?_;refine zrf 10 rfl d0 rfl ?_;refine Gc 11 zk rfl ?_;refine ak (j:=2) b7 rfl (LN _) e7 rfl rfl rfl ?_;have e8:JU O7 (w7.setCell ⟨ob,2,none⟩ a3) (T+2) ob #[nI k,nI c,a3] 83:=b7.set 2 a3;have a2:Jv (fun q=>q=T+2) O7 w7 O7 (w7.setCell ⟨ob,2,none⟩ a3):=Jr zo b7.tag rfl;have c8:=c9.upd a2 zo zo;have a7:=a8.trans (a2.mono (fun _ h=>by rw[h];omega) a');have e':=Gi (c8.cell 2 rfl) (aD a7 b3);refine zh ?_;refine af e' ?_;refine J8 zk ?_;refine zh ?_;refine zxd (i+1,O7,(w7.setCell ⟨ob,2,none⟩ a3),a3,zs++[z]) (⟨d4,c8,e4.upd a2 zo zo,e8,a0.upd a2 zo zo,by simp[d1],fun m hm=>?_,a7,f3.upd a2⟩);dsimp only at hm ⊢
    by_cases e:m<i
    ·rw[aB (xs:=zs++[z]) (by simp;omega),J0 zo,<-aB zo];exact((b5 m e).upd a4).upd a2
    obtain rfl:m=zs.length:=zo;rw[aB (xs:=zs++[z]) (by simp),GZ zo];simp only[JO,Jo];rw[d1];exact(c5.upd a4).upd a2
   refine zc KR c' ?_;rintro v w5 ⟨z,rfl,f6,g7⟩;have b0:Jv (fun _=>False) O1' wD O1' w5:=aa (fun h=>h) O1' g7;have e1:=ln g3 b0 zo (fun h=>h);have f7:=ln g9 b0 zo (fun h=>h);have e9:=ln g1 b0 zo (fun h=>h);have b1:=LQ c6 b0 zo (fun h=>h);have f':=Lk g6 b0;have b8:∀m,m<i->Nt O1' w5 (nth kids m) (nth zs m):=fun m hm=>(e3 m hm).upd b0
   have b4:=KO d5 (b0.mono (fun _ h=>h.elim) a');have f9:=Gi (e1.cell 2 rfl) (aD b4 b3);refine zh ?_;refine af f9 ?_;have i2:w5.cell? (nA ob 2)=some lv:=e9.cell 2 rfl;refine bV 1 8 zk rfl rfl ?_ ?_
   ·refine zvH (RV.ld i2 rfl) ?_;refine af f9 ?_
    refine Gc 8 zk rfl ?_;refine aL elN (enc:=aY) z rfl rfl rfl zd rfl ?_
    intro w6 h6 f5;have a1:Jv (fun _=>False) O1' w5 O1' w6:=aa (fun h=>h) O1' f5;have b9:=e1.upd a1 zo (fun h=>h);have e5:=f7.upd a1 zo (fun h=>h);have e0:=e9.upd a1 zo (fun h=>h);have a5:=b1.upd a1 zo (fun h=>h);have f4:=f'.upd a1;have b5:∀m,m<i->Nt O1' w6 (nth kids m) (nth zs m):=fun m hm=>(b8 m hm).upd a1
    have c5:=f6.upd a1;have a9:=b4.trans (a1.mono (fun _ h=>h.elim) a');have e2:=Gi (b9.cell 2 rfl) (aD a9 b3);refine zh ?_;refine af e2 ?_;have a6:∀u∈[z],∀c∈aY u,c.oneCell'=true:=fun u hu=>by
     rw[GT.1 hu];exact iA c5.one
    refine Gc 9 zk rfl ?_;refine aC elN a5 f4 h6 (by simp) rfl rfl (fun _ _=>rfl) a6 (by simp;omega) (by simp;omega) zo rfl ?_
    intro a3 w7 O7 a0 a4 f3;have e7:=a0.one;have c9:=ln b9 a4 zo zo;have b7:=ln e0 a4 zo zo;have e4:=ln e5 a4 zo zo;have a8:=a9.trans (a4.mono (fun _ h=>by rw[h];omega) a');have d0:=Gi (c9.cell 2 rfl) (aD a8 b3);refine zh ?_;refine af d0 ?_;refine zrf 10 rfl d0 rfl ?_;refine Gc 11 zk rfl ?_;refine ak (j:=2) b7 rfl (LN _) e7 rfl rfl rfl ?_;have e8:JU O7 (w7.setCell ⟨ob,2,none⟩ a3) (T+2) ob #[nI k,nI c,a3] 83:=b7.set 2 a3;have a2:Jv (fun q=>q=T+2) O7 w7 O7 (w7.setCell ⟨ob,2,none⟩ a3):=Jr zo b7.tag rfl;have c8:=c9.upd a2 zo zo;have a7:=a8.trans (a2.mono (fun _ h=>by rw[h];omega) a');have e':=Gi (c8.cell 2 rfl) (aD a7 b3);refine zh ?_;refine af e' ?_;refine J8 zk ?_;refine zh ?_;refine zxd (i+1,O7,(w7.setCell ⟨ob,2,none⟩ a3),a3,zs++[z]) (⟨d4,c8,e4.upd a2 zo zo,e8,a0.upd a2 zo zo,by simp[d1],fun m hm=>?_,a7,f3.upd a2⟩);dsimp only at hm ⊢
    by_cases e:m<i
    ·rw[aB (xs:=zs++[z]) (by simp;omega),J0 zo,<-aB zo];exact((b5 m e).upd a4).upd a2
    obtain rfl:m=zs.length:=zo;rw[aB (xs:=zs++[z]) (by simp),GZ zo];simp only[JO,Jo];rw[d1];exact(c5.upd a4).upd a2
   refine aL elN (enc:=aY) z rfl rfl rfl zd rfl ?_;intro w6 h6 f5;have a1:Jv (fun _=>False) O1' w5 O1' w6:=aa (fun h=>h) O1' f5;have b9:=e1.upd a1 zo (fun h=>h);have e5:=f7.upd a1 zo (fun h=>h);have e0:=e9.upd a1 zo (fun h=>h);have a5:=b1.upd a1 zo (fun h=>h);have f4:=f'.upd a1;have b5:∀m,m<i->Nt O1' w6 (nth kids m) (nth zs m):=fun m hm=>(b8 m hm).upd a1
   have c5:=f6.upd a1;have a9:=b4.trans (a1.mono (fun _ h=>h.elim) a');have e2:=Gi (b9.cell 2 rfl) (aD a9 b3);refine zh ?_;refine af e2 ?_;have i1:w6.cell? (nA ob 2)=some lv:=e0.cell 2 rfl;refine Gc 1 zk rfl ?_;refine zvH (RV.ld i1 rfl) ?_;refine af e2 ?_;have a6:∀u∈[z],∀c∈aY u,c.oneCell'=true:=fun u hu=>by
    rw[GT.1 hu];exact iA c5.one
   refine Gc 9 zk rfl ?_;refine aC elN a5 f4 h6 (by simp) rfl rfl (fun _ _=>rfl) a6 (by simp;omega) (by simp;omega) zo rfl ?_
   intro a3 w7 O7 a0 a4 f3;have e7:=a0.one;have c9:=ln b9 a4 zo zo;have b7:=ln e0 a4 zo zo;have e4:=ln e5 a4 zo zo;have a8:=a9.trans (a4.mono (fun _ h=>by rw[h];omega) a');have d0:=Gi (c9.cell 2 rfl) (aD a8 b3);refine zh ?_;refine af d0 ?_;refine zrf 10 rfl d0 rfl ?_;refine Gc 11 zk rfl ?_;refine ak (j:=2) b7 rfl (LN _) e7 rfl rfl rfl ?_;have e8:JU O7 (w7.setCell ⟨ob,2,none⟩ a3) (T+2) ob #[nI k,nI c,a3] 83:=b7.set 2 a3;have a2:Jv (fun q=>q=T+2) O7 w7 O7 (w7.setCell ⟨ob,2,none⟩ a3):=Jr zo b7.tag rfl;have c8:=c9.upd a2 zo zo;have a7:=a8.trans (a2.mono (fun _ h=>by rw[h];omega) a');have e':=Gi (c8.cell 2 rfl) (aD a7 b3);refine zh ?_;refine af e' ?_;refine J8 zk ?_;refine zh ?_;refine zxd (i+1,O7,(w7.setCell ⟨ob,2,none⟩ a3),a3,zs++[z]) (⟨d4,c8,e4.upd a2 zo zo,e8,a0.upd a2 zo zo,by simp[d1],fun m hm=>?_,a7,f3.upd a2⟩);dsimp only at hm ⊢
   by_cases e:m<i
   ·rw[aB (xs:=zs++[z]) (by simp;omega),J0 zo,<-aB zo];exact((b5 m e).upd a4).upd a2
   obtain rfl:m=zs.length:=zo;rw[aB (xs:=zs++[z]) (by simp),GZ zo];simp only[JO,Jo];rw[d1];exact(c5.upd a4).upd a2
  intro i0;obtain rfl:i=xs.length:=dF i0;have h':=b2.one;refine zh ?_;refine zv (ai (us:=aY ((k,c,lv):N3)) d2.cellsAdd (LB _) (K9 _) rfl) ?_;refine zsb (us:=#[nI k,nI c,lv]) b6 (K9 _) (cn (x:=(k,c,lv)) h') ?_;have h3:=b6.setRow (us:=#[nI k,nI c,lv]);have f8:Jv (fun q=>q=T) O1' d' O1' (d'.setRow xb #[nI k,nI c,lv]):=Jp zo b6.tag rfl;have c7:=b2.upd f8 zo zo;have d6:=b'.trans (f8.mono (fun _ h=>by rw[h];omega) a');have hN:Nt O (d'.setRow xb #[nI k,nI c,lv]) (.mk k c kids) (k,c,lv):=
   .mk c7.sl (c7.freeT zo (fun b=>by have:=hT b;omega) (d9.upd f8) d6) zo (fun m hm=>((g0 m zo).upd f8).low d6)
  refine zh ?_;refine aN rfl rfl (h3.cellsAdd) (LB _) (K9 _) (⟨(k,c,lv),rfl,hN,aD d6 b3⟩)
def RulesO(O:Nat->Nat)(w:J1)(rv:J5)(ts:List R3):Prop:=∃zs,Sl cj 7 w rv zs/\Lw O w rv/\ts.length=zs.length/\∀i,i<zs.length->Rt O w (nth ts i) (nth zs i)
theorem Fm(li lk:List Int)(ts:List R3)(xs:List X3)(ig kp ru:J5)(B:Nat)(O:Nat->Nat)(w:J1)(i':KS B O w)(h1:Sl encI 1 w ig li)(h2:Sl encI 1 w kp lk)(h3:Sl cj 7 w ru xs)(h4:ts.length=xs.length)(h5:∀i,i<xs.length->Rt (fun _=>0) w (nth ts i) (nth xs i))(hf:Few li lk ts):L2 JX 10 [sF ig kp ru] w fun u w'=>∃rv,u=sF ig kp rv/\RulesO O w' rv ts/\Ku w w':=by
 obtain⟨f1,f2,f3,f4⟩:=hf;have o1:=h1.one;have o2:=h2.one;have o3:=h3.one;obtain⟨T,k8,hT⟩:=i'.bound;have b5:∀b,¬T<=O b:=fun b=>by have:=hT b;omega
 have b2:¬(fun q:Nat=>T<=q) 0:=fun e=>zo
 refine J6 func10 ntmps10 rfl rfl ?_;refine zh ?_
 refine aE i' T zo rfl rfl ?_;intro nb w1 O1 j6 k1 k5 l0;refine ax k5 (T+1) zo (JL _) rfl ?_
 intro xb w2 O2 j2 i9 k4 k';have i2:=j6.upd i9 zo zo;have n0:w2.cell? (nA nb 0)=some ig:=i2.cell 0 rfl;have n1:w2.cell? (nA nb 1)=some kp:=i2.cell 1 rfl;refine zh ?_;refine zv (aF Im (JL _) rfl (by simp only[Jy,o1,o2];rfl) rfl rfl) ?_;refine ax k4 (T+2) zo (JL _) rfl ?_;intro ob w3 O3 i0 k0 k3 k9;refine zsb (us:=#[ig,kp,nS]) i0 (Jz _) (by simp only[Jy,o1,o2];rfl) ?_;have j4:=i0.setRow (us:=#[ig,kp,nS]);have i8:Jv (fun q=>q=T+2) O3 w3 O3 (w3.setRow ob #[ig,kp,nS]):=Jp zo i0.tag rfl;have f7:=k0.trans i8;have k2:=k3.upd i8;have j5:=i2.upd f7 zo zo;have j1:=j2.upd f7 zo zo;have i3:Jv (fun q=>T<=q) O w O3 _:=((k1.mono (fun _ h=>by rw[h];omega) b2).trans (i9.mono (fun _ h=>by rw[h];omega) b2)).trans (f7.mono (fun _ h=>by rw[h];omega) b2);generalize w3.setRow ob #[ig,kp,nS]=w4 at *;refine zh ?_
 refine zlp (fun y:Nat×(Nat->Nat)×World×J5×List X3=>[(1,nP nb),(2,nP xb),(3,nP ob),(4,nI y.1)]) (fun y=>y.2.2.1) (fun y=>y.1<=xs.length/\JU y.2.1 y.2.2.1 T nb #[ig,kp,ru] 25/\JU y.2.1 y.2.2.1 (T+1) xb #[nS,nS,nS] 41/\JU y.2.1 y.2.2.1 (T+2) ob #[ig,kp,y.2.2.2.1] 41/\JY cj 85 7 y.2.1 y.2.2.1 (T+3) y.2.2.2.1 y.2.2.2.2/\y.2.2.2.2.length=y.1/\(∀m,m<y.1->Rt y.2.1 y.2.2.1 (nth ts m) (nth y.2.2.2.2 m))/\Jv (fun q=>T<=q) O w y.2.1 y.2.2.1/\KS B y.2.1 y.2.2.1) (fun y=>xs.length-y.1) (0,O3,w4,nS,[]) (⟨J3 _,j5,j1,j4,Kb _ _ _ _ _ _,rfl,fun m hm=>absurd hm (Jq m),i3,k2⟩) ?_;rintro⟨i,O1,g3,lv,zs⟩ ⟨hi,f5,d1,e',c8,d7,h9,d9,g2⟩;dsimp only at hi f5 d1 e' c8 d7 h9 d9 g2 ⊢;have i6:=aD d9 b5;have k7:=h3.ext i6;have c2:g3.cell? (nA nb 2)=some ru:=f5.cell 2 rfl;refine zh ?_
 refine zC ?_ ?_
 ·intro b3;replace b3:i<xs.length:=dT b3;obtain⟨z1,z2⟩:=f4 i zo;have i1:=f5.drew;have i7:=d1.drew;have h':=e'.drew;have e0:=c8.drew;have h8:=g2.drew;have g8:∀m,m<i->Rt O1 g3.drew (nth ts m) (nth zs m):=fun m hm=>(h9 m hm).ext (J4 g3).drew
  have f6:=d9.drew;have i4:=aD f6 b5;have b6:=Gi (i1.cell 2 rfl) i4;have j8:∀W,Ku w W->∀(j:Nat) (u:J5),(aY (nth xs i).1)[j]? = some u->W.cell? (((adr ru 7 i).add 0).add j)=some u:=fun W hE j u hu=>by
   have e:(((adr ru 7 i).add 0).add j)=(adr ru 7 i).add j:=by rw[LJ,KT]
   rw[e];refine hE.cell (h3.cell b3 ?_);simp only[aY]at hu
   match j,hu with
   |0,hu=>exact hu
   |1,hu=>exact hu
   |2,hu=>exact hu
  have j3:∀W,Ku w W->∀(j:Nat) (u:J5),(aY (nth xs i).2.1)[j]? = some u->W.cell? (((adr ru 7 i).add 3).add j)=some u:=fun W hE j u hu=>by
   have e:(((adr ru 7 i).add 3).add j)=(adr ru 7 i).add (3+j):=by rw[LJ]
   rw[e];refine hE.cell (h3.cell b3 ?_);simp only[aY]at hu
   match j,hu with
   |0,hu=>exact hu
   |1,hu=>exact hu
   |2,hu=>exact hu
  obtain⟨brk,g'⟩:∃b,b=(nth xs i).2.2:=⟨_,rfl⟩
  have j':∀W,Ku w W->W.cell? ((adr ru 7 i).add 6)=some (.bool brk):=fun W hE=>by rw[g'];exact hE.cell (h3.cell b3 rfl)
  refine zh ?_;refine aI (fun W=>W.cell? ⟨nb,2,none⟩=some ru/\Ku w W) 27 rfl zk ?_
  refine zrf 0 rfl b6 rfl ?_;refine zrf 2 rfl b6 rfl ?_
  refine zt 3 rfl b6 (fun w1 b8=>RV.ld b8.1 rfl) ?_;refine zrm 4 rfl b6 rfl ?_
  refine zt 5 rfl b6 (fun w1 b8=>JP (h3.ext b8.2) K1 (KG _) rfl rfl i rfl b3) ?_;refine zrf 6 rfl b6 rfl ?_
  refine zt 7 rfl b6 (fun w1 b8=>ai (us:=aY (nth xs i).1) (j8 _ b8.2) (Kd _) (JM _) rfl) ?_;refine zrf 9 rfl b6 rfl ?_
  refine zt 10 rfl b6 (fun w1 b8=>RV.ld b8.1 rfl) ?_;refine zrm 11 rfl b6 rfl ?_
  refine zt 12 rfl b6 (fun w1 b8=>JP (h3.ext b8.2) K1 (KG _) rfl rfl i rfl b3) ?_;refine zrf 13 rfl b6 rfl ?_
  refine zt 14 rfl b6 (fun w1 b8=>ai (us:=aY (nth xs i).2.1) (j3 _ b8.2) (Kd _) (JM _) rfl) ?_;refine zrf 16 rfl b6 rfl ?_
  refine zt 17 rfl b6 (fun w1 b8=>RV.ld b8.1 rfl) ?_;refine zrm 18 rfl b6 rfl ?_
  refine zt 19 rfl b6 (fun w1 b8=>JP (h3.ext b8.2) K1 (KG _) rfl rfl i rfl b3) ?_;refine zrf 20 rfl b6 rfl ?_
  refine zt 21 rfl b6 (fun w1 b8=>RV.ld (j' _ b8.2) rfl) ?_;generalize g3.drew=wD at *;refine bV 1 8 zk rfl rfl ?_ ?_
  ·refine zvH (RV.ld (h'.cell 2 rfl) rfl) ?_;refine af b6 ?_
   refine Gc 8 zk rfl ?_;refine zc KR (lB 1000000 (I4 _) (nth ts i).1 zo B O1 (nth xs i).1 wD h8 ((h5 i b3).1.ext i4)) ?_
   rintro v5 w5 ⟨y1,rfl,h0,i5⟩;have c5:Jv (fun _=>False) O1 wD O1 w5:=aa (fun h=>h) O1 i5;have g6:=i1.upd c5 zo (fun h=>h);have h6:=i7.upd c5 zo (fun h=>h);have g9:=h'.upd c5 zo (fun h=>h);have c7:=e0.upd c5 zo (fun h=>h);have g1:=h8.upd c5;have d6:∀m,m<i->Rt O1 w5 (nth ts m) (nth zs m):=fun m hm=>(g8 m hm).upd c5
   have d0:=f6.trans (c5.mono (fun _ h=>h.elim) b2);have f9:=Gi (g6.cell 2 rfl) (aD d0 b5);refine zh ?_;refine af f9 ?_;refine Gc 15 zk rfl ?_;refine zc KR (lB 1000000 (I4 _) (nth ts i).2.1 zo B O1 (nth xs i).2.1 w5 g1 ((h5 i b3).2.1.ext f9.2)) ?_;rintro v6 w6 ⟨y2,rfl,g4,e4⟩;have c':=h0.upd (aa (S:=fun _=>False) (fun h=>h) O1 e4);have a':Jv (fun _=>False) O1 w5 O1 w6:=aa (fun h=>h) O1 e4;have d8:=g6.upd a' zo (fun h=>h);have g5:=h6.upd a' zo (fun h=>h);have e9:=g9.upd a' zo (fun h=>h);have b4:=c7.upd a' zo (fun h=>h);have g7:=g1.upd a';have c9:∀m,m<i->Rt O1 w6 (nth ts m) (nth zs m):=fun m hm=>(d6 m hm).upd a'
   have b7:=d0.trans (a'.mono (fun _ h=>h.elim) b2);have d':=Gi (d8.cell 2 rfl) (aD b7 b5);refine zh ?_;refine af d' ?_;refine zr 22 rfl d' (fun _=>Kg (vs:=[(0,nv y1),(1,nv y2),(2,.bool brk)]) (cells:=(cj (y1,y2,brk)).toArray) GN (Lo _) rfl zk) ?_;refine Gc 23 zk rfl ?_;refine aL elR (enc:=cj) (y1,y2,brk) rfl rfl rfl zd rfl ?_;intro w7 h7 c6;have a7:=c'.upd (aa (S:=fun _=>False) (fun h=>h) O1 c6);have a6:=g4.upd (aa (S:=fun _=>False) (fun h=>h) O1 c6);have a2:Jv (fun _=>False) O1 w6 O1 w7:=aa (fun h=>h) O1 c6;have d4:=d8.upd a2 zo (fun h=>h);have e6:=g5.upd a2 zo (fun h=>h);have e2:=e9.upd a2 zo (fun h=>h);have a8:=b4.upd a2 zo (fun h=>h);have g0:=g7.upd a2;have b9:∀m,m<i->Rt O1 w7 (nth ts m) (nth zs m):=fun m hm=>(c9 m hm).upd a2
   have b1:=b7.trans (a2.mono (fun _ h=>h.elim) b2);have e3:=Gi (d4.cell 2 rfl) (aD b1 b5);refine zh ?_;refine af e3 ?_;have a9:∀u∈[((y1,y2,brk):X3)],∀c∈cj u,c.oneCell'=true:=fun u hu=>by
    rw[GT.1 hu];exact bU a7.one a6.one
   refine Gc 24 zk rfl ?_;refine aC elR a8 g0 h7 (by simp) rfl rfl (fun _ _=>rfl) a9 (by simp;omega) (by simp;omega) zo rfl ?_
   intro a5 w8 O8 a1 a4 f';have e7:=a1.one;have d3:=ln d4 a4 zo zo;have b':=ln e2 a4 zo zo;have e5:=ln e6 a4 zo zo;have b0:=b1.trans (a4.mono (fun _ h=>by rw[h];omega) b2);have d5:=Gi (d3.cell 2 rfl) (aD b0 b5);refine zh ?_;refine af d5 ?_;refine zrf 25 rfl d5 rfl ?_;refine Gc 26 zk rfl ?_;refine ak (j:=2) b' rfl (Lp _) e7 rfl rfl rfl ?_;have e8:JU O8 (w8.setCell ⟨ob,2,none⟩ a5) (T+2) ob #[ig,kp,a5] 41:=b'.set 2 a5;have a0:Jv (fun q=>q=T+2) O8 w8 O8 (w8.setCell ⟨ob,2,none⟩ a5):=Jr zo b'.tag rfl;have d2:=d3.upd a0 zo zo;have a3:=b0.trans (a0.mono (fun _ h=>by rw[h];omega) b2);have f8:=Gi (d2.cell 2 rfl) (aD a3 b5);refine zh ?_;refine af f8 ?_;refine J8 zk ?_;refine zh ?_;refine zxd (i+1,O8,(w8.setCell ⟨ob,2,none⟩ a5),a5,zs++[((y1,y2,brk):X3)]) (⟨b3,d2,e5.upd a0 zo zo,e8,a1.upd a0 zo zo,by simp[d7],fun m hm=>?_,a3,f'.upd a0⟩);dsimp only at hm ⊢
   by_cases e:m<i
   ·rw[aB (xs:=zs++[((y1,y2,brk):X3)]) (by simp;omega),J0 zo,<-aB zo];exact((b9 m e).upd a4).upd a0
   obtain rfl:m=zs.length:=zo;rw[aB (xs:=zs++[((y1,y2,brk):X3)]) (by simp),GZ zo];simp only[JO,Jo];rw[d7];exact⟨(a7.upd a4).upd a0,(a6.upd a4).upd a0,g'.trans (h5 i b3).2.2⟩
  refine zc KR (lB 1000000 (I4 _) (nth ts i).1 zo B O1 (nth xs i).1 wD h8 ((h5 i b3).1.ext i4)) ?_;rintro v5 w5 ⟨y1,rfl,h0,i5⟩;have c5:Jv (fun _=>False) O1 wD O1 w5:=aa (fun h=>h) O1 i5;have g6:=i1.upd c5 zo (fun h=>h);have h6:=i7.upd c5 zo (fun h=>h);have g9:=h'.upd c5 zo (fun h=>h);have c7:=e0.upd c5 zo (fun h=>h);have g1:=h8.upd c5;have d6:∀m,m<i->Rt O1 w5 (nth ts m) (nth zs m):=fun m hm=>(g8 m hm).upd c5
  have d0:=f6.trans (c5.mono (fun _ h=>h.elim) b2);have f9:=Gi (g6.cell 2 rfl) (aD d0 b5);refine zh ?_;refine af f9 ?_;refine bV 1 15 zk rfl rfl ?_ ?_
  ·refine zvH (RV.ld (g9.cell 2 rfl) rfl) ?_;refine af f9 ?_
   refine Gc 15 zk rfl ?_;refine zc KR (lB 1000000 (I4 _) (nth ts i).2.1 zo B O1 (nth xs i).2.1 w5 g1 ((h5 i b3).2.1.ext f9.2)) ?_
   rintro v6 w6 ⟨y2,rfl,g4,e4⟩;have c':=h0.upd (aa (S:=fun _=>False) (fun h=>h) O1 e4);have a':Jv (fun _=>False) O1 w5 O1 w6:=aa (fun h=>h) O1 e4;have d8:=g6.upd a' zo (fun h=>h);have g5:=h6.upd a' zo (fun h=>h);have e9:=g9.upd a' zo (fun h=>h);have b4:=c7.upd a' zo (fun h=>h);have g7:=g1.upd a';have c9:∀m,m<i->Rt O1 w6 (nth ts m) (nth zs m):=fun m hm=>(d6 m hm).upd a'
   have b7:=d0.trans (a'.mono (fun _ h=>h.elim) b2);have d':=Gi (d8.cell 2 rfl) (aD b7 b5);refine zh ?_;refine af d' ?_;refine zr 22 rfl d' (fun _=>Kg (vs:=[(0,nv y1),(1,nv y2),(2,.bool brk)]) (cells:=(cj (y1,y2,brk)).toArray) GN (Lo _) rfl zk) ?_;refine Gc 23 zk rfl ?_;refine aL elR (enc:=cj) (y1,y2,brk) rfl rfl rfl zd rfl ?_;intro w7 h7 c6;have a7:=c'.upd (aa (S:=fun _=>False) (fun h=>h) O1 c6);have a6:=g4.upd (aa (S:=fun _=>False) (fun h=>h) O1 c6);have a2:Jv (fun _=>False) O1 w6 O1 w7:=aa (fun h=>h) O1 c6;have d4:=d8.upd a2 zo (fun h=>h);have e6:=g5.upd a2 zo (fun h=>h);have e2:=e9.upd a2 zo (fun h=>h);have a8:=b4.upd a2 zo (fun h=>h);have g0:=g7.upd a2;have b9:∀m,m<i->Rt O1 w7 (nth ts m) (nth zs m):=fun m hm=>(c9 m hm).upd a2
   have b1:=b7.trans (a2.mono (fun _ h=>h.elim) b2);have e3:=Gi (d4.cell 2 rfl) (aD b1 b5);refine zh ?_;refine af e3 ?_;have a9:∀u∈[((y1,y2,brk):X3)],∀c∈cj u,c.oneCell'=true:=fun u hu=>by
    rw[GT.1 hu];exact bU a7.one a6.one
   refine Gc 24 zk rfl ?_;refine aC elR a8 g0 h7 (by simp) rfl rfl (fun _ _=>rfl) a9 (by simp;omega) (by simp;omega) zo rfl ?_
   intro a5 w8 O8 a1 a4 f';have e7:=a1.one;have d3:=ln d4 a4 zo zo;have b':=ln e2 a4 zo zo;have e5:=ln e6 a4 zo zo;have b0:=b1.trans (a4.mono (fun _ h=>by rw[h];omega) b2);have d5:=Gi (d3.cell 2 rfl) (aD b0 b5);refine zh ?_;refine af d5 ?_;refine zrf 25 rfl d5 rfl ?_;refine Gc 26 zk rfl ?_;refine ak (j:=2) b' rfl (Lp _) e7 rfl rfl rfl ?_;have e8:JU O8 (w8.setCell ⟨ob,2,none⟩ a5) (T+2) ob #[ig,kp,a5] 41:=b'.set 2 a5;have a0:Jv (fun q=>q=T+2) O8 w8 O8 (w8.setCell ⟨ob,2,none⟩ a5):=Jr zo b'.tag rfl;have d2:=d3.upd a0 zo zo;have a3:=b0.trans (a0.mono (fun _ h=>by rw[h];omega) b2);have f8:=Gi (d2.cell 2 rfl) (aD a3 b5);refine zh ?_;refine af f8 ?_;refine J8 zk ?_;refine zh ?_;refine zxd (i+1,O8,(w8.setCell ⟨ob,2,none⟩ a5),a5,zs++[((y1,y2,brk):X3)]) (⟨b3,d2,e5.upd a0 zo zo,e8,a1.upd a0 zo zo,by simp[d7],fun m hm=>?_,a3,f'.upd a0⟩);dsimp only at hm ⊢
   by_cases e:m<i
   ·rw[aB (xs:=zs++[((y1,y2,brk):X3)]) (by simp;omega),J0 zo,<-aB zo];exact((b9 m e).upd a4).upd a0
   obtain rfl:m=zs.length:=zo;rw[aB (xs:=zs++[((y1,y2,brk):X3)]) (by simp),GZ zo];simp only[JO,Jo];rw[d7];exact⟨(a7.upd a4).upd a0,(a6.upd a4).upd a0,g'.trans (h5 i b3).2.2⟩
  refine zc KR (lB 1000000 (I4 _) (nth ts i).2.1 zo B O1 (nth xs i).2.1 w5 g1 ((h5 i b3).2.1.ext f9.2)) ?_;rintro v6 w6 ⟨y2,rfl,g4,e4⟩;have c':=h0.upd (aa (S:=fun _=>False) (fun h=>h) O1 e4);have a':Jv (fun _=>False) O1 w5 O1 w6:=aa (fun h=>h) O1 e4;have d8:=g6.upd a' zo (fun h=>h);have g5:=h6.upd a' zo (fun h=>h);have e9:=g9.upd a' zo (fun h=>h);have b4:=c7.upd a' zo (fun h=>h);have g7:=g1.upd a';have c9:∀m,m<i->Rt O1 w6 (nth ts m) (nth zs m):=fun m hm=>(d6 m hm).upd a'
  have b7:=d0.trans (a'.mono (fun _ h=>h.elim) b2);have d':=Gi (d8.cell 2 rfl) (aD b7 b5);refine zh ?_;refine af d' ?_;refine zr 22 rfl d' (fun _=>Kg (vs:=[(0,nv y1),(1,nv y2),(2,.bool brk)]) (cells:=(cj (y1,y2,brk)).toArray) GN (Lo _) rfl zk) ?_;refine bV 1 23 zk rfl rfl ?_ ?_
  ·refine zvH (RV.ld (e9.cell 2 rfl) rfl) ?_;refine af d' ?_
   refine Gc 23 zk rfl ?_;refine aL elR (enc:=cj) (y1,y2,brk) rfl rfl rfl zd rfl ?_
   intro w7 h7 c6;have a7:=c'.upd (aa (S:=fun _=>False) (fun h=>h) O1 c6);have a6:=g4.upd (aa (S:=fun _=>False) (fun h=>h) O1 c6);have a2:Jv (fun _=>False) O1 w6 O1 w7:=aa (fun h=>h) O1 c6;have d4:=d8.upd a2 zo (fun h=>h);have e6:=g5.upd a2 zo (fun h=>h);have e2:=e9.upd a2 zo (fun h=>h);have a8:=b4.upd a2 zo (fun h=>h);have g0:=g7.upd a2;have b9:∀m,m<i->Rt O1 w7 (nth ts m) (nth zs m):=fun m hm=>(c9 m hm).upd a2
   have b1:=b7.trans (a2.mono (fun _ h=>h.elim) b2);have e3:=Gi (d4.cell 2 rfl) (aD b1 b5);refine zh ?_;refine af e3 ?_;have a9:∀u∈[((y1,y2,brk):X3)],∀c∈cj u,c.oneCell'=true:=fun u hu=>by
    rw[GT.1 hu];exact bU a7.one a6.one
   refine Gc 24 zk rfl ?_;refine aC elR a8 g0 h7 (by simp) rfl rfl (fun _ _=>rfl) a9 (by simp;omega) (by simp;omega) zo rfl ?_
   intro a5 w8 O8 a1 a4 f';have e7:=a1.one;have d3:=ln d4 a4 zo zo;have b':=ln e2 a4 zo zo;have e5:=ln e6 a4 zo zo;have b0:=b1.trans (a4.mono (fun _ h=>by rw[h];omega) b2);have d5:=Gi (d3.cell 2 rfl) (aD b0 b5);refine zh ?_;refine af d5 ?_;refine zrf 25 rfl d5 rfl ?_;refine Gc 26 zk rfl ?_;refine ak (j:=2) b' rfl (Lp _) e7 rfl rfl rfl ?_;have e8:JU O8 (w8.setCell ⟨ob,2,none⟩ a5) (T+2) ob #[ig,kp,a5] 41:=b'.set 2 a5;have a0:Jv (fun q=>q=T+2) O8 w8 O8 (w8.setCell ⟨ob,2,none⟩ a5):=Jr zo b'.tag rfl;have d2:=d3.upd a0 zo zo;have a3:=b0.trans (a0.mono (fun _ h=>by rw[h];omega) b2);have f8:=Gi (d2.cell 2 rfl) (aD a3 b5);refine zh ?_;refine af f8 ?_;refine J8 zk ?_;refine zh ?_;refine zxd (i+1,O8,(w8.setCell ⟨ob,2,none⟩ a5),a5,zs++[((y1,y2,brk):X3)]) (⟨b3,d2,e5.upd a0 zo zo,e8,a1.upd a0 zo zo,by simp[d7],fun m hm=>?_,a3,f'.upd a0⟩);dsimp only at hm ⊢
   by_cases e:m<i
   ·rw[aB (xs:=zs++[((y1,y2,brk):X3)]) (by simp;omega),J0 zo,<-aB zo];exact((b9 m e).upd a4).upd a0
   obtain rfl:m=zs.length:=zo;rw[aB (xs:=zs++[((y1,y2,brk):X3)]) (by simp),GZ zo];simp only[JO,Jo];rw[d7];exact⟨(a7.upd a4).upd a0,(a6.upd a4).upd a0,g'.trans (h5 i b3).2.2⟩
  refine aL elR (enc:=cj) (y1,y2,brk) rfl rfl rfl zd rfl ?_;intro w7 h7 c6;have a7:=c'.upd (aa (S:=fun _=>False) (fun h=>h) O1 c6);have a6:=g4.upd (aa (S:=fun _=>False) (fun h=>h) O1 c6);have a2:Jv (fun _=>False) O1 w6 O1 w7:=aa (fun h=>h) O1 c6;have d4:=d8.upd a2 zo (fun h=>h);have e6:=g5.upd a2 zo (fun h=>h);have e2:=e9.upd a2 zo (fun h=>h);have a8:=b4.upd a2 zo (fun h=>h);have g0:=g7.upd a2;have b9:∀m,m<i->Rt O1 w7 (nth ts m) (nth zs m):=fun m hm=>(c9 m hm).upd a2
  have b1:=b7.trans (a2.mono (fun _ h=>h.elim) b2);have e3:=Gi (d4.cell 2 rfl) (aD b1 b5);refine zh ?_;refine af e3 ?_;refine Gc 1 zk rfl ?_;refine zvH (RV.ld (e2.cell 2 rfl) rfl) ?_;refine af e3 ?_;have a9:∀u∈[((y1,y2,brk):X3)],∀c∈cj u,c.oneCell'=true:=fun u hu=>by
   rw[GT.1 hu];exact bU a7.one a6.one
  refine Gc 24 zk rfl ?_;refine aC elR a8 g0 h7 (by simp) rfl rfl (fun _ _=>rfl) a9 (by simp;omega) (by simp;omega) zo rfl ?_
  intro a5 w8 O8 a1 a4 f';have e7:=a1.one;have d3:=ln d4 a4 zo zo;have b':=ln e2 a4 zo zo;have e5:=ln e6 a4 zo zo;have b0:=b1.trans (a4.mono (fun _ h=>by rw[h];omega) b2);have d5:=Gi (d3.cell 2 rfl) (aD b0 b5);refine zh ?_;refine af d5 ?_;refine zrf 25 rfl d5 rfl ?_;refine Gc 26 zk rfl ?_;refine ak (j:=2) b' rfl (Lp _) e7 rfl rfl rfl ?_;have e8:JU O8 (w8.setCell ⟨ob,2,none⟩ a5) (T+2) ob #[ig,kp,a5] 41:=b'.set 2 a5;have a0:Jv (fun q=>q=T+2) O8 w8 O8 (w8.setCell ⟨ob,2,none⟩ a5):=Jr zo b'.tag rfl;have d2:=d3.upd a0 zo zo;have a3:=b0.trans (a0.mono (fun _ h=>by rw[h];omega) b2);have f8:=Gi (d2.cell 2 rfl) (aD a3 b5);refine zh ?_;refine af f8 ?_;refine J8 zk ?_;refine zh ?_;refine zxd (i+1,O8,(w8.setCell ⟨ob,2,none⟩ a5),a5,zs++[((y1,y2,brk):X3)]) (⟨b3,d2,e5.upd a0 zo zo,e8,a1.upd a0 zo zo,by simp[d7],fun m hm=>?_,a3,f'.upd a0⟩);dsimp only at hm ⊢
  by_cases e:m<i
  ·rw[aB (xs:=zs++[((y1,y2,brk):X3)]) (by simp;omega),J0 zo,<-aB zo];exact((b9 m e).upd a4).upd a0
  obtain rfl:m=zs.length:=zo;rw[aB (xs:=zs++[((y1,y2,brk):X3)]) (by simp),GZ zo];simp only[JO,Jo];rw[d7];exact⟨(a7.upd a4).upd a0,(a6.upd a4).upd a0,g'.trans (h5 i b3).2.2⟩
 intro j9;obtain rfl:i=xs.length:=dF j9;have j7:=c8.one;refine zh ?_;refine zv (ai (us:=[ig,kp,lv]) e'.cellsAdd (Kk _) (Jz _) rfl) ?_;refine zsb (us:=#[ig,kp,lv]) d1 (Jz _) (by simp only[Jy,o1,o2,j7];rfl) ?_;have j0:=d1.setRow (us:=#[ig,kp,lv]);have a0:Jv (fun q=>q=T+1) O1 g3 O1 (g3.setRow xb #[ig,kp,lv]):=Jp zo d1.tag rfl;have e1:=c8.upd a0 zo zo;have a3:=d9.trans (a0.mono (fun _ h=>by rw[h];omega) b2);have k6:=aD a3 b5;refine zh ?_;refine aN rfl rfl (j0.cellsAdd) (Kk _) (Jz _) (⟨lv,rfl,⟨zs,e1.sl,e1.freeT zo (fun b=>by have:=hT b;omega) (g2.upd a0) a3,zo,fun m hm=>((h9 m zo).upd a0).weak (fun b e=>a3.z0 b e)⟩,k6⟩)
theorem PostC.shape{B:Nat}{w:J1}{v:J5}{li lk:List Int}{ts:List R3}(h:Lt B w v li lk ts):∃cs:List J5,∃e:Int,v=.tuple #[.agg cs.toArray,nI e]/\cs.length=17/\(cs.all Jt=true):=by
 rcases h with⟨_,rfl⟩|⟨_,⟨a,b,a1,a0,u,_,_,_,_,_,_,rfl,hT,_⟩|⟨_,rfl⟩⟩
 ·exact⟨_,1,rfl,rfl,rfl⟩
 ·obtain⟨gv,lc,rc,rfl,h1,h2,h3⟩:=hT;obtain⟨ll,lo⟩:=h2.one;obtain⟨rl,ro⟩:=h3.one;refine⟨_,0,rfl,by simp[ll,rl],?_⟩;rw[List.all_eq_true];intro x hx;simp only[KC,Ji,JS,or_false]at hx
  rcases hx with(hx|hx)|hx
  ·rcases hx with rfl|rfl|rfl|rfl|rfl
   ·rfl
   ·rfl
   ·rfl
   ·rfl
   exact h1.one
  ·exact lo x hx
  exact ro x hx
 exact⟨_,7,rfl,rfl,rfl⟩
theorem TabV.ext{w w':J1}{v:J5}{t:Me}(h:TabV w v t)(e:Ku w w'):TabV w' v t:=by
 obtain⟨gv,lc,rc,rfl,h1,h2,h3⟩:=h;exact⟨gv,lc,rc,rfl,h1.ext e,h2.ext e,h3.ext e⟩
theorem TabN.mono{B B':Nat}{v:J5}(h:TabN B v)(hb:B'<=B):TabN B' v:=fun cs e x hx=>(h cs e x hx).mono hb
theorem PostC.ext{B B':Nat}{w w':J1}{v:J5}{li lk:List Int}{ts:List R3}(h:Lt B w v li lk ts)(e:Ku w w')(hb:B'<=B):Lt B' w' v li lk ts:=by
 rcases h with h|⟨h0,⟨a,b,a1,a0,u,h1,h2,h3,h4,h5,h6,h7,hT,hN⟩|h⟩
 ·exact .inl h
 ·exact .inr ⟨h0,.inl ⟨a,b,a1,a0,u,h1,h2,h3,h4,h5,h6,h7,hT.ext e,hN.mono hb⟩⟩
 exact .inr ⟨h0,.inr h⟩
theorem PostC.upd{B:Nat}{S:Nat->Prop}{O O':Nat->Nat}{w0 w w':J1}{v:J5}{li lk:List Int}{ts:List R3}(h:Lt w0.heap.size w v li lk ts)(r:KS B O w0)(u:Jv S O w O' w'):Lt w0.heap.size w' v li lk ts:=by
 rcases h with h|⟨h0,⟨a,b,a1,a0,x,h1,h2,h3,h4,h5,h6,h7,hT,hN⟩|h⟩
 ·exact .inl h
 ·refine .inr ⟨h0,.inl ⟨a,b,a1,a0,x,h1,h2,h3,h4,h5,h6,h7,?_,hN⟩⟩;obtain⟨gv,lc,rc,rfl,k1,k2,k3⟩:=hT;have hn:=hN _ rfl;have n1:NewV w0.heap.size gv:=hn gv (by simp);exact⟨gv,lc,rc,rfl,k1.upd (n1.free k1 (fun x _=>by simp) r) u,k2.upd (fun x hx=>hn x (by simp[hx])) r u,k3.upd (fun x hx=>hn x (by simp[hx])) r u⟩
 exact .inr ⟨h0,.inr h⟩
def Ig(B:Nat)(w:J1)(v:J5):TK->Prop
 |.bad p e=>v=.tuple #[.agg pc,nI (p:Int),nI e]/\e≠0
 |.ok st=>∃(cs:List J5) (e:Int),v=.tuple #[.agg cs.toArray,nI 0,nI e]/\Lt B w (.tuple #[.agg cs.toArray,nI e]) st.li st.lk st.ts
theorem pd(l:List UInt8)(w:J1)(b9:l.length<=1000000000):L2 JX 18 [.string (bs l)] w fun v w'=>Ku w w'/\Ig w.heap.size w' v (kD l):=by
 refine J6 func18 ntmps18 rfl rfl ?_;refine zh ?_
 refine ax (au w) 1 zo (KJ _) rfl ?_;intro cb w1 O1 a8 b8 b5 d0;refine zh ?_
 refine zc call50 (vu l w.heap.size O1 w1 b5 b9) ?_;rintro v w2 ⟨a7,hP⟩;have d2:=b5.ext a7;have hz:¬(0=1):=zo
 cases hM:kD l with
 |bad p e=>
  rw[hM]at hP;obtain⟨rfl,he⟩:=hP;refine zh ?_;refine ax (au w2) 1 zo (JL _) rfl ?_;intro tb w3 O3 a1 b4 c8 c';refine zsa (us:=#[sG,sG,sG]) a1 (Jz _) ?_;have a0:=(b4.trans (Jp (us:=#[sG,sG,sG]) zd a1.tag rfl)).ext;generalize w3.setRow tb #[sG,sG,sG]=w4 at *;have c5:=aa (S:=fun q=>q=1) hz O1 (a7.trans a0);have a4:=a8.upd (aa (S:=fun _=>False) (fun h=>h) O1 (a7.trans a0)) zd (fun h=>h);refine zh ?_;refine zTH rfl ((by simpa using he)) ?_;refine zvH (Kg (cells:=pc) FM (KJ _) rfl rfl) ?_;refine zsa (us:=pc) a4 (Ka _) ?_;have b3:=a4.setRow (us:=pc);have c7:Jv (fun j=>j=1) O1 w4 O1 (w4.setRow cb pc):=Jp zd a4.tag rfl;refine zh ?_;refine cF rfl rfl rfl rfl (b3.cellsAdd) (LC _) (Ka _) (⟨((b8.trans c5).trans c7).ext,rfl,he⟩)
 |ok st=>
  rw[hM]at hP;obtain⟨tv,rfl,hx⟩:=hP;obtain⟨ta,a5,tc,xs,rfl,x1,x2,x3,_⟩:=hx.ex;have o1:=x1.one;have o2:=x2.one;have o3:=x3.one;refine zh ?_;refine ax (au w2) 1 zo (JL _) rfl ?_;intro tb w3 O3 a1 b4 c8 c';refine zsb (us:=#[ta,a5,tc]) a1 (Jz _) (by simp[o1,o2,o3]) ?_;have b1:=a1.setRow (us:=#[ta,a5,tc]);have a0:=(b4.trans (Jp (us:=#[ta,a5,tc]) zd a1.tag rfl)).ext;generalize w3.setRow tb #[ta,a5,tc]=w4 at *;refine zh ?_;refine zFH rfl rfl ?_;refine zv (ai (us:=[ta,a5,tc]) b1.cellsAdd (Kk _) (Jz _) rfl) ?_;refine zc call9 (oG st.li st.lk st.ts (sF ta a5 tc) w4 (hx.ext a0)) ?_;rintro v w5 ⟨c9,hC⟩;obtain⟨cs,e,rfl,a6,b6⟩:=hC.shape;refine zh ?_;refine ax (au w5) 1 zo (KJ _) rfl ?_;intro xb w6 O6 a2 c6 d1 d3;refine bE (us:=cs.toArray) a2 (show cs.toArray.size=17 from by simpa using a6) (by rw[show cs.toArray.size=17 from by simpa using a6];exact Ka _) (by simpa using b6) rfl rfl rfl ?_;have b0:=a2.setRow (us:=cs.toArray);have a9:=(c6.trans (Jp (us:=cs.toArray) zd a2.tag rfl)).ext;generalize w6.setRow xb cs.toArray=w7 at *;have a':=((a7.trans a0).trans c9).trans a9;have b':=aa (S:=fun q=>q=1) hz O1 a';have a3:=a8.upd (aa (S:=fun _=>False) (fun h=>h) O1 a') zd (fun h=>h);refine zh ?_;refine zvH (ai (us:=cs) (by simpa using b0.cellsAdd) (LC _) (by rw[a6];exact Ka _) rfl) ?_
  refine bE (us:=cs.toArray) a3 (show cs.toArray.size=17 from by simpa using a6) (by rw[show cs.toArray.size=17 from by simpa using a6];exact Ka _) (by simpa using b6) rfl rfl rfl ?_;have b2:=a3.setRow (us:=cs.toArray);have b7:Jv (fun j=>j=1) O1 w7 O1 (w7.setRow cb cs.toArray):=Jp zd a3.tag rfl;refine zh ?_
  refine cF rfl rfl rfl rfl (us:=cs) (by simpa using b2.cellsAdd) (LC _) (by rw[a6];exact Ka _) ⟨((b8.trans b').trans b7).ext,cs,e,rfl,((hC.ext a9 (I4 _)).upd (b5.ext (a7.trans a0)) b7).ext (J4 _) (((d0.trans a7).trans a0).size)⟩
theorem ot(l l':List Bool)(av bv:J5)(w:J1)(h:Sl cP 1 w av l)(h':Sl cP 1 w bv l'):L2 JX 23 [av,bv] w fun v w'=>v=.bool (decide (l=l'))/\Ku w w':=by
 have q1:=h.len_le;have q2:=h'.len_le;refine J6 func23 ntmps23 rfl rfl ?_;refine zh ?_;refine zvH (Kf h' J7 rfl) ?_;refine zC ?_ ?_
 ·intro a4;have a1:¬l=l':=fun e=>by subst e;simp at a4
  refine zh ?_;refine ae rfl rfl (⟨by rw[decide_eq_false a1],J4 w⟩)
 intro a7;have a9:l.length=l'.length:=by have:=of_decide_eq_true (p:=((l.length:Int)=(l'.length:Int))) (by simpa using a7);omega
 refine zh ?_;refine zlp (fun z:Nat×J1=>[(0,av),(1,bv),(5,nI (z.1:Nat))]) (fun z=>z.2) (fun z=>z.1<=l.length/\Ku w z.2/\∀i,i<z.1->nth l i=nth l' i) (fun z=>l.length-z.1) (0,w) (⟨J3 _,J4 w,fun i hi=>absurd hi (Jq i)⟩) ?_
 rintro⟨k,w1⟩ ⟨hk,hE,a0⟩;dsimp only at hk hE a0 ⊢;have h1:=h.ext hE;have h2:=h'.ext hE;refine zh ?_;refine zC ?_ ?_
 ·intro a2;replace a2:k<l.length:=dT a2;have e1:w1.cell? (adr av 1 k)=some (.bool (nth l k)):=by have:=h1.cell (i:=k) (j:=0) a2 rfl;rw[ao]at this;exact this
  have e2:w1.cell? (adr bv 1 k)=some (.bool (nth l' k)):=by have:=h2.cell (i:=k) (j:=0) zo rfl;rw[ao]at this;exact this
  refine zh ?_;refine aI (fun W=>W.cell? (adr av 1 k)=some (.bool (nth l k))/\W.cell? (adr bv 1 k)=some (.bool (nth l' k))) 9 rfl zk ?_
  refine zin ⟨e1,e2⟩ fun zS=>?_
  refine zrm 0 rfl zS rfl ?_;refine zrm 1 rfl zS rfl ?_
  refine zr 2 rfl zS (fun _=>ah h1.sh underlying69 (JA _) rfl rfl k rfl zo) ?_;refine zt 3 rfl zS (fun w1 a3=>RV.ld a3.1 rfl) ?_
  refine zrm 4 rfl zS rfl ?_;refine zrm 5 rfl zS rfl ?_
  refine zr 6 rfl zS (fun _=>ah h2.sh J7 (JA _) rfl rfl k rfl zo) ?_;refine zt 7 rfl zS (fun w1 a3=>RV.ld a3.2 rfl) ?_
  refine zr 8 rfl zS (fun _=>Gm underlying4 rfl rfl) ?_;refine J8 zk ?_
  refine zh ?_;refine zC ?_ ?_
  ·intro a4;have a1:¬l=l':=fun e=>by subst e;simp at a4
   refine zh ?_;refine ae rfl rfl (⟨by rw[decide_eq_false a1],hE.drew⟩)
  intro a7;have a6:nth l k=nth l' k:=by simpa using a7
  refine zh ?_;have a8:∀i,i<k+1->nth l i=nth l' i:=fun i hi=>(KM.1 hi).elim (a0 i) (fun e=>by rw[e];exact a6)
  refine zxd (k+1,w1.drew) (⟨a2,hE.drew,a8⟩)
 intro b0;have a':k=l.length:=dF b0;subst a';have a5:l=l':=JC a9 fun i i1 i2=>by have:=a0 i i1;rwa[aB i1,aB i2]at this
 refine zh ?_;refine ae rfl rfl (⟨by rw[decide_eq_true a5],hE⟩)
theorem AK(li lk:List Int)(ts:List R3)(v:J5)(w:J1)(h:Tx w v li lk ts):L2 JX 7 [v] w fun u w'=>∃g,u=.bool g/\Ku w w'/\(g=true->Few li lk ts/\ts.length<=8):=by
 obtain⟨ig,kp,ru,xs,rfl,h1,h2,h3,h4,h5⟩:=h;have o1:=h1.one;have o2:=h2.one;have o3:=h3.one;refine J6 func7 ntmps7 rfl rfl ?_;refine zh ?_;refine aE (au w) 1 zo rfl rfl ?_;intro xb w1 O1 a' b8 b9 a2;have b5:Tx w1 (sF ig kp ru) li lk ts:=⟨⟨ig,kp,ru,xs,rfl,h1.ext a2,h2.ext a2,h3.ext a2,h4,fun i hi=>(h5 i hi).ext a2⟩⟩
 have c2:w1.cell? (nA xb 2)=some ru:=a'.cell 2 rfl;refine zh ?_;refine zv (ai (us:=[ig,kp,ru]) a'.cellsAdd (isAgg26 _) (sizeOf26 _) rfl) ?_;refine zc call29 (BJ li lk ts (sF ig kp ru) w1 b5) ?_;rintro _ w2 ⟨g,rfl,a6,hg⟩;have g3:=h3.ext (a2.trans a6);refine zh ?_;refine bK (fun w1=>_=w1) (decide ((8:Int)<(xs.length:Int))) 4 (rfl) rfl rfl rfl rfl rfl ?_ ?_
 ·intro a1;refine zh ?_;refine zvH (RV.ld (a6.cell c2) rfl) ?_;refine nE 7 5 (rfl) a1
 rintro _ rfl;refine zh ?_;refine zC ?_ ?_
 ·intro hc;refine zh ?_;refine ae rfl rfl (⟨false,rfl,a2.trans a6,fun e=>by cases e⟩)
 intro hc;simp only[Bool.or_eq_false_iff,decide_eq_false_iff_not]at hc;obtain⟨b4,b7⟩:=hc;have a9:=hg b4;have h8:ts.length<=8:=zo;have a7:=a2.trans a6;refine zh ?_;refine zlp (fun y:Nat×Nat×J1=>[(1,nP xb),(3,nI (y.2.1:Nat)),(4,nI y.1)]) (fun y=>y.2.2) (fun y=>y.1<=xs.length/\y.2.1<=302*y.1/\Ku w2 y.2.2) (fun y=>xs.length-y.1) (0,0,w2) (⟨J3 _,by dsimp only;omega,J4 _⟩) ?_;rintro⟨i,s,w3⟩ ⟨hi,a5,a4⟩;dsimp only at hi a5 a4 ⊢;have d2:=(a6.trans a4).cell c2;have a8:=g3.ext a4;refine zh ?_;refine aP (fun w1=>_=w1) (decide ((s:Int)<=60)) 2 (rfl) rfl rfl rfl rfl rfl ?_ ?_
 ·intro b1;refine zh ?_;refine nE 18 3 (rfl) b1
 rintro _ rfl;refine zh ?_;refine zC ?_ ?_
 ·intro hc;simp only[Kv,decide_eq_true_eq]at hc;have a3:i<xs.length:=zo;have b0:=(h5 i a3).ext (a7.trans a4);have b3:∀W,Ku w3 W->∀(j:Nat) (u:J5),(aY (nth xs i).1)[j]? = some u->W.cell? (((adr ru 7 i).add 0).add j)=some u:=fun W hE=>(gU (a8.ext hE) a3).1
  have b2:∀W,Ku w3 W->∀(j:Nat) (u:J5),(aY (nth xs i).2.1)[j]? = some u->W.cell? (((adr ru 7 i).add 3).add j)=some u:=fun W hE=>(gU (a8.ext hE) a3).2.1
  refine zh ?_;refine yJ (Ku w3) zk zk ((J4 w3).drew) ?_
  refine jx (fun w1 a0=>ix rfl) rfl ?_;refine jx (fun w1 a0=>Kq 2 LZ rfl rfl (sizeOf23 _) zd rfl) rfl ?_
  refine jx (fun w1 a0=>Mf (by first|exact a0.cell d2) (isAgg23 _) rfl) rfl ?_;refine jx (fun w1 a0=>ix rfl) rfl ?_
  refine jx (fun w1 a0=>JP (a8.ext a0) K1 (KG _) rfl rfl i rfl a3) rfl ?_;refine jx (fun w1 a0=>Kq 0 LY rfl rfl (JM _) zd rfl) rfl ?_
  refine jx (fun w1 a0=>ai (us:=aY (nth xs i).1) (b3 _ a0) (Kd _) (JM _) rfl) rfl ?_;refine Md call30 rfl (fun w1 a0=>(fK (nsz (nth ts i).1) (nth ts i).1 (I4 _) (nth xs i).1 _ 60 (b0.1.ext a0) zd).mono fun v w' h=>⟨h.1,a0.trans h.2⟩) rfl ?_
  refine jx (fun w1 a0=>JI rfl rfl (Jw zo)) rfl ?_;refine jx (fun w1 a0=>Kq 2 LZ rfl rfl (sizeOf23 _) zd rfl) rfl ?_
  refine jx (fun w1 a0=>Mf (by first|exact a0.cell d2) (isAgg23 _) rfl) rfl ?_;refine jx (fun w1 a0=>ix rfl) rfl ?_
  refine jx (fun w1 a0=>JP (a8.ext a0) K1 (KG _) rfl rfl i rfl a3) rfl ?_;refine jx (fun w1 a0=>Kq 3 LY rfl rfl (JM _) zd rfl) rfl ?_
  refine jx (fun w1 a0=>ai (us:=aY (nth xs i).2.1) (b2 _ a0) (Kd _) (JM _) rfl) rfl ?_;refine Md call30 rfl (fun w1 a0=>(fK (nsz (nth ts i).2.1) (nth ts i).2.1 (I4 _) (nth xs i).2.1 _ 60 (b0.2.1.ext a0) zd).mono fun v w' h=>⟨h.1,a0.trans h.2⟩) rfl ?_
  refine jx (fun w1 a0=>JI rfl rfl (Jw zo)) rfl ?_;refine jx (fun w1 a0=>Gh rfl) rfl ?_
  refine WQ.nil ?_;intro w4 b6;refine zh ?_
  rw[show(s:Int)+((min (nsz (nth ts i).1) (60+1):Nat):Int)+((min (nsz (nth ts i).2.1) (60+1):Nat):Int)=((s+(min (nsz (nth ts i).1) 61+min (nsz (nth ts i).2.1) 61):Nat):Int)from by omega];refine zxd (i+1,s+(min (nsz (nth ts i).1) 61+min (nsz (nth ts i).2.1) 61),w4) (⟨a3,by dsimp only;omega,a4.trans b6⟩)
 intro hc;refine zh ?_;refine ae rfl rfl (⟨_,rfl,a7.trans a4,fun _=>⟨a9,h8⟩⟩)
def Dw(x:Int):List Int->List Int
 |[]=>[x]
 |y::r=>if x<y then x::y::r else if x=y then y::r else y::Dw x r
def uE(l:List Int):List Int:=l.foldr Dw []
theorem rR(x z:Int):∀l:List Int,z∈Dw x l↔z=x\/z∈l
 |[]=>by simp[Dw]
 |y::r=>by
  unfold Dw
  split
  ·simp
  split
  ·rename_i h;subst h;simp
  rw[Ji,rR x z r,Ji]
  constructor
  ·rintro(h|h|h)
   ·exact .inr (.inl h)
   ·exact .inl h
   exact .inr (.inr h)
  rintro(h|h|h)
  ·exact .inr (.inl h)
  ·exact .inl h
  exact .inr (.inr h)
theorem BA(x:Int):∀l:List Int,l.Pairwise (· < ·)->(Dw x l).Pairwise (· < ·)
 |[],_=>by simp[Dw]
 |y::r,h=>by
  obtain⟨h1,h2⟩:=JN.1 h;unfold Dw
  split
  ·rename_i hxy;refine JN.2 ⟨fun z hz=>?_,h⟩
   rcases Ji.1 hz with rfl|hz
   ·exact hxy
   have:=h1 z hz;omega
  split
  ·exact h
  refine JN.2 ⟨fun z hz=>?_,BA x r h2⟩
  rcases(rR x z r).1 hz with rfl|hz
  ·omega
  exact h1 z hz
theorem oJ(l:List Int):(∀x,x∈uE l↔x∈l)/\(uE l).Pairwise (· < ·):=by
 induction l with
 |nil=>exact⟨fun x=>Iff.rfl,.nil⟩
 |cons a l ih=>
  refine⟨fun x=>?_,BA a _ ih.2⟩;show x∈Dw a (uE l)↔_;rw[rR,ih.1,Ji]
theorem D6:∀(a b:List Int),a.Pairwise (· < ·)->b.Pairwise (· < ·)->(∀x,x∈a↔x∈b)->a=b
 |[],[],_,_,_=>rfl
 |[],y::r,_,_,h=>absurd ((h y).2 (by simp)) (by simp)
 |x::a,[],_,_,h=>absurd ((h x).1 (by simp)) (by simp)
 |x::a,y::b,ha,hb,h=>by
  obtain⟨a1,a2⟩:=JN.1 ha;obtain⟨b1,b2⟩:=JN.1 hb;have a4:x=y:=by
   rcases Ji.1 ((h x).1 (by simp))with e|e
   ·exact e
   rcases Ji.1 ((h y).2 (by simp))with e'|e'
   ·exact e'.symm
   have:=a1 y e';have:=b1 x e;omega
  subst a4;congr 1;refine D6 a b a2 b2 fun z=>?_
  have hz:=h z;simp only[Ji]at hz
  constructor
  ·intro a3
   rcases hz.1 (.inr a3)with e|e
   ·subst e;exact absurd (a1 z a3) zo
   exact e
  intro a0
  rcases hz.2 (.inr a0)with e|e
  ·subst e;exact absurd (b1 z a0) zo
  exact e
theorem DF(l:List Int):qC l=uE l:=D6 _ _ (yB l) (oJ l).2 fun x=>by rw[uC,(oJ l).1]
def GJ(se:Bool)(g:Gr)(s:List Int)(m:Int):List Int:=uE (GM se g s m)
theorem step_eq(se:Bool)(g:Gr):cM se g=GJ se g:=funext fun _=>funext fun _=>DF _
def stK(se:Bool)(ts:List Nd):Option (List (List Nat)×List Nat):=if dP ts=0 then DC (GJ se (jZ ts)) (dp (jZ ts))else none
theorem stM_eq(se:Bool)(ts:List Nd):stM se ts=stK se ts:=by unfold stM stK;rw[step_eq]
abbrev mE:List R3:=[(.mk 0 1 [],.mk 0 2 [],false)]
theorem uK:∃st,kD Fc=.ok st/\st.ts=mE/\st.li=[]/\st.lk=[]:=⟨⟨mE,[],[],false,false⟩,by kernel_rfl,rfl,rfl,rfl⟩
theorem xl:dE [] [] mE=true:=by decide +kernel
theorem Ce:(stM true (nZ mE)).isSome=true:=by rw[stM_eq];decide +kernel
theorem Cd:(stM false (fM mE)).isSome=true:=by rw[stM_eq];decide +kernel
theorem uL:jT [] [] [1,2,2] mE=[true,false,true,true]:=by decide +kernel
theorem PostC.made{B:Nat}{w:J1}{v:J5}{li lk:List Int}{ts:List R3}(h:Lt B w v li lk ts):
  (∃e:Int,e≠0/\v=.tuple #[.agg pc,nI e]/\((e=1/\dE li lk ts=false)\/(e=7/\dE li lk ts=true/\(stM true (nZ ts)=none\/stM false (fM ts)=none))))\/
  ∃a b a1 a0 gv lc rc,L3 li lk ts a b a1 a0/\v=.tuple #[.agg (dq (bW li lk ts a b a1 a0).ig (bW li lk ts a b a1 a0).kp (bW li lk ts a b a1 a0).br (bW li lk ts a b a1 a0).rules gv lc rc).toArray,nI 0]/\
   M5 w gv (bW li lk ts a b a1 a0).groups/\PartV w lc (bW li lk ts a b a1 a0).left (bW li lk ts a b a1 a0).lt/\PartV w rc (bW li lk ts a b a1 a0).right (bW li lk ts a b a1 a0).rt/\Gx B (gv::(lc++rc)):=by
 rcases h with⟨h0,rfl⟩|⟨h0,⟨a,b,a1,a0,u,h1,h2,h3,h4,h5,h6,rfl,hT,hN⟩|⟨h1,rfl⟩⟩
 ·exact .inl ⟨1,zd,rfl,.inl ⟨rfl,h0⟩⟩
 ·obtain⟨gv,lc,rc,rfl,k1,k2,k3⟩:=hT;have hn:=hN _ rfl;exact .inr ⟨a,b,a1,a0,gv,lc,rc,⟨h0,h1,h2,h3,h4,h5,h6⟩,rfl,k1,k2,k3,fun x hx=>hn x (by simp only[KC,Ji,JS,or_false]at hx ⊢;rcases hx with hx|hx|hx<;>simp[hx])⟩
 exact .inl ⟨7,zd,rfl,.inr ⟨rfl,h0,h1⟩⟩
theorem oO(w:J1)(hT:eF w):L2 JX 8 [] w fun v w'=>v=.bool true/\Ku w w':=by
 have hg:=oM hT;obtain⟨st,e6,e4,e9,e7⟩:=uK;refine J6 func8 ntmps8 rfl rfl ?_;refine zh ?_;refine zc call18 (pd Fc w zd) ?_;rintro v w1 ⟨a2,hP⟩;rw[e6]at hP;obtain⟨cs,e,rfl,hC⟩:=hP;rw[e4,e9,e7]at hC
 rcases hC.made with⟨e',h',hv,c6⟩|⟨a,b,d8,d7,gv,lc,rc,hM,hv,k1,k2,k3,hn⟩
 ·exfalso
  rcases c6 with⟨_,h1⟩|⟨_,_,h1|h1⟩
  ·rw[xl]at h1;cases h1
  ·have:=Ce;rw[h1]at this;cases this
  have:=Cd;rw[h1]at this;cases this
 have hi:=hM.inv;have c5:=hM.breaks [1,2,2] zd;have d4:(bW [] [] mE a b d8 d7).ig=0:=rfl;rw[uL]at c5;obtain⟨e3,g'⟩:=k2.one;obtain⟨e2,g9⟩:=k3.one;generalize bW [] [] mE a b d8 d7=t at *;have f3:cs=dq t.ig t.kp t.br t.rules gv lc rc/\e=0:=by
  simp only[KK,Lc,KZ,KX,KW,and_true,true_and]at hv;simpa using hv
 obtain⟨rfl,rfl⟩:=f3;have a1:(dq t.ig t.kp t.br t.rules gv lc rc).length=17:=by simp[e3,e2]
 have b9:(dq t.ig t.kp t.br t.rules gv lc rc).all Jt=true:=by
  obtain⟨i5,e',h1,_,h3⟩:=hC.shape;simp only[KK,Lc,KZ,KX,KW,and_true,true_and]at h1;rw[h1.1];exact h3
 have d0:(aK t (ed t) [1]).wait=[]:=rfl;have c':(aK t (ed t) [1,2]).wait=[(2,false)]:=by
  have e:(aK t (ed t) [1,2]).wait=[(2,t.ig.testBit 2&&(false || !(t.kp.testBit 1)))]:=rfl;rw[e,d4];rfl
 have e1:(aK t (ed t) [1,2,2]).wait=[(2,false),(2,false)]:=by
  have e:(aK t (ed t) [1,2,2]).wait=[(2,t.ig.testBit 2&&(false || !(t.kp.testBit 1))),(2,t.ig.testBit 2&&((t.ig.testBit 2&&(false || !(t.kp.testBit 1))) || !(t.kp.testBit 2)))]:=rfl;rw[e,d4];rfl
 have f4:closeL t (aK t (ed t) [1,2,2]).wait (aK t (ed t) [1,2,2]).row=[false,true]:=by
  have e:oN t [1,2,2]=true::closeL t (aK t (ed t) [1,2,2]).wait (aK t (ed t) [1,2,2]).row++[true]:=rfl;rw[e,List.cons_append]at c5;have h2:=(La c5).2;have:closeL t (aK t (ed t) [1,2,2]).wait (aK t (ed t) [1,2,2]).row++[true]=[false,true]++[true]:=h2;exact List.append_cancel_right this
 have hz:¬(0=7):=zd;refine zh ?_;refine ax (au w1) 7 zo (KJ _) rfl ?_;intro tb w2 O2 a0 f8 i3 i4;refine bE (us:=(dq t.ig t.kp t.br t.rules gv lc rc).toArray) a0 (show(dq t.ig t.kp t.br t.rules gv lc rc).toArray.size=17 from by simpa using a1) (by rw[show(dq t.ig t.kp t.br t.rules gv lc rc).toArray.size=17 from by simpa using a1];exact Ka _) b9 rfl rfl rfl ?_;have b8:=a0.setRow (us:=(dq t.ig t.kp t.br t.rules gv lc rc).toArray);have a':=f8.trans (Jp (us:=(dq t.ig t.kp t.br t.rules gv lc rc).toArray) hz a0.tag rfl);generalize w2.setRow tb (dq t.ig t.kp t.br t.rules gv lc rc).toArray=w3 at *;have b0:=a'.ext;have g6:KS w1.heap.size O2 w3:=(au w1).upd a';have i1:eF w3:=cH hT (a2.trans b0);have a8:G5<w1.heap.size:=Nat.lt_of_lt_of_le hg a2.size;refine zh ?_;refine zv (ai (us:=dq t.ig t.kp t.br t.rules gv lc rc) (by simpa using b8.cellsAdd) (LC _) (by rw[a1];exact Ka _) rfl) ?_;refine zc call19 (jF w1.heap.size O2 w3 1 2 t gv lc rc (k1.ext b0) (k2.ext b0) (k3.ext b0) ((nz k1 k2 k3).upd a') zd zd zd zd hi.ok hi.right g6) ?_;rintro _ w4 ⟨O4,rb,rfl,h4,f7,g5⟩;have a3:¬(0=1\/0=2\/0=3\/0=4\/0=5\/0=6\/0=7\/0=1000):=zo;have a7:Jv (fun q=>q=1\/q=2\/q=3\/q=4\/q=5\/q=6\/q=7\/q=1000) (fun _=>0) w1 O4 w4:=(a'.mono (fun _ h=>zo) a3).trans (f7.mono (fun _ h=>zo) a3);have g1:eF w4:=cH hT (a2.trans a7.ext);have e5:=vq hi.ok;refine zh ?_
 refine zc Mc (ib w1.heap.size O4 w4 1 2 3 rb t gv lc rc _ (ed t) h4 zd zd zd zd zd zd zd zd zd hi.ok e5 (by show 0+1<=_;decide) rfl g5 g1 a8 1 (aK t (ed t) [1]) rfl) ?_;rintro v5 w5 ⟨O5,e0,h5,d3,b7,f6,g4⟩;rw[iV t _ _ (by rw[d0];rfl)]at h5 d3 b7;have a6:=a7.trans (f6.mono (fun _ h=>zo) a3);have g0:eF w5:=cH hT (a2.trans a6.ext);refine zh ?_
 refine zc Mc (ib w1.heap.size O5 w5 1 2 4 rb t gv lc rc e0 (aK t (ed t) [1]) h5 zd zd zd zd zd zd zd zd zd hi.ok d3 (by rw[d0];decide) rfl g4 g0 a8 2 (aK t (ed t) [1,2]) rfl) ?_;rintro v6 w6 ⟨O6,d',h6,d2,b5,d5,g3⟩;rw[iV t _ _ (by rw[c'];rfl)]at h6 d2 b5;have a5:=a6.trans (d5.mono (fun _ h=>zo) a3);have f':eF w6:=cH hT (a2.trans a5.ext);refine zh ?_
 refine zc Mc (ib w1.heap.size O6 w6 1 2 5 rb t gv lc rc d' (aK t (ed t) [1,2]) h6 zd zd zd zd zd zd zd zd zd hi.ok d2 (by rw[c'];decide) rfl g3 f' a8 2 (aK t (ed t) [1,2,2]) rfl) ?_;rintro v7 w7 ⟨O7,d9,h7,d1,b3,c7,g2⟩;rw[iV t _ _ (by rw[e1];rfl)]at h7 d1 b3;have a4:=a5.trans (c7.mono (fun _ h=>zo) a3);have f9:eF w7:=cH hT (a2.trans a4.ext);refine zh ?_
 refine zc call25 (kY w1.heap.size O7 w7 1 2 6 rb t gv lc rc d9 (aK t (ed t) [1,2,2]) h7 zd zd zd zd zd zd zd zd zd hi.ok d1 rfl g2 f9 a8) ?_;rintro v8 w8 ⟨O8,g7,s8,h8,h9,h0,i0,b1,a9,i2⟩;have c8:=a4.trans (a9.mono (fun _ h=>zo) a3);have e8:closeL t (aK t (ed t) [1,2,2]).wait (aK t (ed t) [1,2,2]).row=[false,true]:=f4;replace b1:JY cP 4 1 O8 w8 6 v8 [false,true]:=by rw[<-e8];exact b1
 dsimp only at b7 b5 b3;have b6:=((b7.upd d5 zd zd).upd c7 zd zd).upd a9 zd zd;have b4:=(b5.upd c7 zd zd).upd a9 zd zd;have b2:=b3.upd a9 zd zd;refine zh ?_;refine ay (d:=26) rfl (b':=true) (rfl) ?_;refine zh ?_;refine ay (d:=30) rfl (b':=true) (rfl) ?_;refine zh ?_;refine zvH (Kf b6.sl J7 rfl) ?_;refine zvH (Kf b4.sl J7 rfl) ?_;refine zvH (JI rfl rfl (Jw zd)) ?_;refine zvH (Kf b2.sl J7 rfl) ?_;refine zvH (JI rfl rfl (Jw zd)) ?_;refine ay (d:=41) rfl (b':=true) (rfl) ?_;refine zh ?_;refine gb J7 (JA _) (zeroValue4 _) cP [false,true] rfl rfl rfl rfl zk (by simp) rfl ?_;intro bv w9 f5 d6;refine zh ?_;refine zc call23 (ot [false,true] [false,true] v8 bv w9 (b1.sl.ext d6) f5) ?_;rintro _ g8 ⟨rfl,c9⟩;refine zh ?_;refine ae rfl rfl (⟨rfl,((a2.trans c8.ext).trans d6).trans c9⟩)
theorem RulesO.tx{w:J1}{ig kp rv:J5}{li lk:List Int}{ts:List R3}(h1:Sl encI 1 w ig li)(h2:Sl encI 1 w kp lk)(h:RulesO (fun _=>0) w rv ts):Tx w (sF ig kp rv) li lk ts:=by
 obtain⟨zs,h3,_,h4,h5⟩:=h;exact⟨ig,kp,rv,zs,rfl,h1,h2,h3,h4,h5⟩
section
variable(li lk ids:List Int)
def uh(k:Nat):En:=(aJ (nth ids k),gL li lk ids k)
def win(a b:Nat):List En:=(IJ (b-a)).map fun j=>uh li lk ids (a+j)
theorem dQ(a b:Nat):(win li lk ids a b).length=b-a:=by simp[win]
theorem oz{a b j:Nat}(h:j<b-a):nth (win li lk ids a b) j=uh li lk ids (a+j):=rI _ h
theorem mr(a:Nat):win li lk ids a a=[]:=by simp[win]
theorem lG{a m b:Nat}(h1:a<=m)(h2:m<=b):win li lk ids a m++win li lk ids m b=win li lk ids a b:=by
 refine JC (by simp[win];omega) fun j j1 j2=>?_
 simp only[win,Jn,KE,Li]at j1 j2;rw[List.getElem_append];simp only[win,JK,JD,KE,Li]
 split
 ·rfl
 congr 1;omega
theorem mo{a b:Nat}(j:Nat)(h:j<=b-a):(win li lk ids a b).take j=win li lk ids a (a+j):=by
 by_cases h0:a<=b
 ·rw[<-lG li lk ids (show a<=a+j by omega) (show a+j<=b by omega),K5];rw[dQ];omega
 obtain rfl:j=0:=zo;rw[Kc,Km,mr]
theorem mq{a b:Nat}(j:Nat)(h:j<=b-a):(win li lk ids a b).drop j=win li lk ids (a+j) b:=by
 by_cases h0:a<=b
 ·rw[<-lG li lk ids (show a<=a+j by omega) (show a+j<=b by omega),Lv];rw[dQ];omega
 obtain rfl:j=0:=zo;rw[JW,Km]
theorem qN{a b:Nat}(h:a<b):win li lk ids a b=uh li lk ids a::win li lk ids (a+1) b:=by
 rw[<-lG li lk ids (show a<=a+1 by omega) (show a+1<=b by omega)];congr 1;simp[win]
theorem pZ{a b:Nat}(h:a<=b):win li lk ids a b++[uh li lk ids b]=win li lk ids a (b+1):=by
 rw[<-lG li lk ids h (show b<=b+1 by omega)];congr 1;simp[win]
theorem tp(a b:Nat):∀x∈win li lk ids a b,x.1<36:=fun x hx=>by
 obtain⟨j,_,rfl⟩:=List.mem_map.1 hx;exact cy _
def eM(a:Nat):Nat->Nat
 |0=>0
 |j+1=>eM a j+if gL li lk ids (a+j)=true then 0 else 1
theorem mw(a:Nat):∀j,iy (win li lk ids a (a+j))=eM li lk ids a j
 |0=>by rw[Km,mr];rfl
 |j+1=>by
  rw[<-LH,<-pZ li lk ids (show a<=a+j by omega)];have ih:=mw a j;unfold iy at ih ⊢;rw[List.filter_append,Jn,ih,eM];congr 1
  cases hh:gL li lk ids (a+j)<;>simp[uh,hh]
theorem su(a:Nat):∀j,eM li lk ids a j<=j
 |0=>I4 _
 |j+1=>by
  have:=su a j;unfold eM
  split<;>omega
theorem tG{a b:Nat}(h:a<b):xU (win li lk ids a b)=(gL li lk ids a||decide (4<=eM li lk ids a (b-a))):=by
 have e:iy (win li lk ids a b)=eM li lk ids a (b-a):=by
  rw[<-mw,show a+(b-a)=b from by omega]
 rw[<-e,qN li lk ids h];rfl
end
section
variable{li lk:List Int}{ts:List R3}{a b:List (List Nat)×List Nat}{clA clB:Nat→Nat}
theorem uu(t:Me)(li lk:List Int)(c:Int)(r:List Int)(a1:∀c:Nat,t.ig.testBit c=decide ((c:Int)∈li))(a0:∀c:Nat,t.kp.testBit c=decide ((c:Int)∈lk)):pJ t (aJ c,false) r=win li lk (c::r) 1 (c::r).length:=by
 have hL:=kN t r (aJ c,false);refine JC (by rw[hL,dQ];simp) fun j j1 j2=>?_
 have hj:j<r.length:=zo;have hx:=np t li lk (c::r) a1 a0 r 0 rfl j hj;rw[ar,show gL li lk (c::r) 0=false from rfl,show 0+1+j=1+j from by omega]at hx;rw[<-aB j1,<-aB j2,hx,oz _ _ _ (by simp;omega)];rfl
def sx(li lk ids:List Int)(k:Nat):List Nat:=[36,aJ (nth ids 0)]++ff (win li lk ids 1 k)
theorem tR(li lk ids:List Int)(k:Nat):∀m∈sx li lk ids k,m<37:=fun m hm=>by
 unfold sx at hm
 rcases KC.1 hm with hm|hm
 ·have:=cy (nth ids 0);simp only[Ji,JS,or_false]at hm;omega
 have:=Fk (tp li lk ids 1 k) m hm;omega
theorem ox(li lk ids:List Int){k m:Nat}(h1:1<=k)(h2:k<=m):sx li lk ids k++ff (win li lk ids k m)=sx li lk ids m:=by
 unfold sx;rw[Js,<-mX,lG li lk ids h1 h2]
theorem Made.firstN(h:L3 li lk ts a b clA clB)(ids:List Int){k:Nat}(h1:1<=k)(hk:k<ids.length)(hh:gL li lk ids k=false):KV ts (sx li lk ids k) (ff (win li lk ids k ids.length)) (bu li lk ids ts 0 k):=by
 cases ids with
 |nil=>simp at hk
 |cons c r=>
  obtain⟨n,rfl⟩:∃n,k=n+1:=⟨k-1,zo⟩
  have hn:n<r.length:=by simpa using hk
  have:=ml h.rules2 _ c r h.ig h.kp hn hh;rw[uu _ li lk c r h.ig h.kp,mo _ _ _ _ (by simp;omega),mq _ _ _ _ (by simp;omega),show 1+n=n+1 from by omega]at this;unfold sx;rw[ar];exact this
theorem th(ts:List R3)(a0 after:List Nat):∃k,KV ts a0 after k:=by
 by_cases hA:∃q,jY ts a0 after q
 ·obtain⟨q,hq⟩:=hA
  induction q using Nat.strongRecOn with
  |_ q ih=>
   by_cases a1:∃m,m<q/\jY ts a0 after m
   ·obtain⟨m,m1,m2⟩:=a1;exact ih m m1 m2
   exact⟨q,.inr ⟨q,rfl,hq,fun m m1 m2=>a1 ⟨m,m1,m2⟩⟩⟩
 exact⟨-1,.inl ⟨rfl,fun q hq=>hA ⟨q,hq⟩⟩⟩
structure RunAt(li lk ids:List Int)(A:List (List Nat)×List Nat)(i told:Nat)(s:RunS):Prop where
 t1:1<=told
 t2:told<=max i 1
 begun:s.begun=decide (0<i)
 last:0<i->s.last=uh li lk ids (i-1)
 wait:s.wait=win li lk ids told i
 row:s.row=if i=0 then jj A.1 [36] 0 else jj A.1 (sx li lk ids told) 0
 open_:s.closed=false
theorem Made.runAt0(h:L3 li lk ts a b clA clB)(ids:List Int):RunAt li lk ids (aU clA a.1 a.2) 0 1 (ed (bW li lk ts a b clA clB)):=by
 have h0:=(h.left [] (fun m hm=>by cases hm)).1;exact⟨I4 _,zd,rfl,fun h=>absurd h zd,by simp[ed,win],(h.inv.left 0 36 h0 zd),rfl⟩
theorem Made.runAt(h:L3 li lk ts a b clA clB)(ids:List Int)(hn:ids.length<=100000){i told:Nat}(hi:i<ids.length){s p:RunS}(hs:RunAt li lk ids (aU clA a.1 a.2) i told s)(hp:p=nT (bW li lk ts a b clA clB) s (aJ (nth ids i))):
  p.wait=win li lk ids told (i+1)/\(GY (bW li lk ts a b clA clB) p.wait p.row).1=(IJ (dW (win li lk ids told (i+1)))).map (fun j=>dM li lk ids ts (told+j))/\
  RunAt li lk ids (aU clA a.1 a.2) (i+1) (told+dW (win li lk ids told (i+1))) {p with wait:=(GY (bW li lk ts a b clA clB) p.wait p.row).2.1,row:=(GY (bW li lk ts a b clA clB) p.wait p.row).2.2}:=by
 obtain⟨t1,t2,hb,hl,hw,hr,ho⟩:=hs;have a0:=nN (win li lk ids told (i+1));rw[dQ]at a0
 by_cases h0:i=0
 ·subst h0;obtain rfl:told=1:=zo;have e:p = {s with begun:=true,last:=(aJ (nth ids 0),false),row:=stL (bW li lk ts a b clA clB) s.row (aJ (nth ids 0))}:=by rw[hp];unfold nT;rw[hb,if_neg zd]
  have ew:p.wait=[]:=by
   rw[e];show s.wait=[]
   rw[hw];simp[win]
  have e0:win li lk ids 1 (0+1)=[]:=mr _ _ _ _;rw[e0,ew];refine⟨rfl,rfl,?_⟩;have a1:p.row=jj (aU clA a.1 a.2).1 (sx li lk ids 1) 0:=by
   rw[e];show stL _ s.row _=_;rw[hr,if_pos rfl];have h1:=(h.left [36] (fun m hm=>by rw[GT.1 hm];decide)).1;have hc:=cy (nth ids 0);rw[h.inv.left _ _ h1 zo];unfold sx;rw[mr];rfl
  refine⟨I4 _,by show 1+0<=_;omega,by rw[e];rfl,fun _=>by rw[e];rfl,by show []=_;rw[show 1+dW []=0+1 from rfl,mr],?_,by rw[e];exact ho⟩;rw[if_neg zo];exact a1
 have hh:CJ (bW li lk ts a b clA clB) s (aJ (nth ids i))=gL li lk ids i:=by
  obtain⟨m,rfl⟩:∃m,i=m+1:=⟨i-1,zo⟩
  unfold CJ;rw[hl zo,h.ig,h.kp,gL];rfl
 have e:p = {s with last:=uh li lk ids i,wait:=s.wait++[uh li lk ids i]}:=by
  rw[hp];unfold nT;rw[hb,if_pos (decide_eq_true zo),hh];rfl
 have ew:p.wait=win li lk ids told (i+1):=by
  rw[e];show s.wait++_=_;rw[hw,pZ _ _ _ zo]
 have er:p.row=jj (aU clA a.1 a.2).1 (sx li lk ids told) 0:=by
  rw[e];show s.row=_;rw[hr,if_neg h0]
 have hP:=h.pushL (win li lk ids (i+1) ids.length) (win li lk ids told (i+1)) (sx li lk ids told) (tR _ _ _ _) (tp _ _ _ _ _) (by rw[dQ];omega);rw[ew,er];obtain⟨p1,p2,p3⟩:=hP;rw[mq _ _ _ _ a0,mo _ _ _ _ a0,ox _ _ _ t1 zo]at p2;refine⟨rfl,?_,?_⟩
 ·refine JC (by rw[p1];simp) fun j j1 j2=>?_
  have hj:j<dW (win li lk ids told (i+1)):=by simpa using j2
  rw[<-aB j1,JK,JD];have hx:=p3 j hj;rw[mo _ _ _ _ zo,mq _ _ _ _ zo,ox _ _ _ t1 zo,lG _ _ _ zo zo,oz _ _ _ zo]at hx;have e2:(uh li lk ids (told+j)).2=gL li lk ids (told+j):=rfl;rw[e2]at hx;rw[zU]
  cases hd:gL li lk ids (told+j)with
  |true=>
   rw[hd]at hx;obtain⟨k,hk⟩:=th ts (sx li lk ids (told+j)) (ff (win li lk ids (told+j) ids.length));rw[hx k hk];rfl
  |false=>
   rw[hd]at hx;rw[hx _ (h.firstN ids zo zo hd)];rfl
 rw[p2];refine⟨zo,zo,by rw[e];show s.begun=_;rw[hb,decide_eq_true (show 0<i by omega),decide_eq_true zo],fun _=>by rw[e];rfl,rfl,by rw[if_neg zo],by rw[e];exact ho⟩
theorem Made.runEnd(h:L3 li lk ts a b clA clB)(ids:List Int)(hn:ids.length<=100000){told:Nat}{s:RunS}(hs:RunAt li lk ids (aU clA a.1 a.2) ids.length told s):
  Kj (bW li lk ts a b clA clB) s.wait s.row=(IJ (ids.length-told)).map (fun j=>dM li lk ids ts (told+j)):=by
 obtain⟨t1,t2,hb,hl,hw,hr,ho⟩:=hs
 by_cases h0:ids.length=0
 ·rw[hw,h0,show win li lk ids told 0=[]from by simp[win],show 0-told=0 from by omega];rfl
 rw[if_neg h0]at hr;rw[hw,hr];refine JC (by rw[lX,dQ];simp) fun j j1 j2=>?_
 have hj:j<ids.length-told:=by simpa using j2
 rw[<-aB j1,JK,JD];obtain⟨k,k1,k2⟩:=h.closeL (win li lk ids told ids.length) (sx li lk ids told) (tR _ _ _ _) (tp _ _ _ _ _) (by rw[dQ];omega) j (by rw[dQ];exact hj);rw[mo _ _ _ _ zo,mq _ _ _ _ zo,ox _ _ _ t1 zo]at k1;rw[k2,oz _ _ _ hj,zU];have e2:(uh li lk ids (told+j)).2=gL li lk ids (told+j):=rfl;rw[e2]
 cases hd:gL li lk ids (told+j)with
 |true=>rfl
 |false=>rw[(h.firstN ids zo zo hd).uniq k1];rfl
end
end Go.Proofs.YtlehnbkknlpkbaaGreatDoor
