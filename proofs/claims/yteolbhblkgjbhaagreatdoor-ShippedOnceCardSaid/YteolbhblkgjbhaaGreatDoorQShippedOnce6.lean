/- Texts that the proof of this statement needs, merged and shortened. -/
import Derived.Test.YteolbhblkgjbhaaGreatDoorQShippedOnce5
open Go.VL.RV renaming move->ix,extract->I5,assign->IS,indexAddr->Jb,build->Jo,ext->JF,add->JG,len->K2,not->Km,neq->KD
open Go renaming World->ln,Value->I3,TypeId->JK
open Go.VL.WL renaming nil->I0,off->K0,ext->KC,push->KT
open List renaming dropWhile_suffix->I1,mem_cons->IM,getElem?_eq_some_iff->IW,getElem?_append_left->IX,pairwise_cons->IY,length_append->IZ,takeWhile_prefix->J4,all_cons->J7,mem_singleton->Jc,all_nil->Jg,not_mem_nil->Jp,getElem?_append_right->Jw,getElem_append_right->JB,getElem_append_left->JH,take_of_length_le->JJ,toArray_inj->K6,mem_append->Kb,length->Kq
open Go.VL.Ret renaming enter->I2,mono->Kg
open Go.VL.Upd renaming setRow->I4,set->IL,trans->J1,refl->Je,lowT->JR,mono->KI,drew->KJ
open Go.VL.WC renaming region->I6,seq->IH,tail->J8,skip->Jk,ret->JM,block->KO
open Go.Proofs.Tryz renaming sizeOf31->I7,zeroValue31->II,underlying22->IK,prog->IR,underlying9->IV,sizeOf56->J2,isAgg31->J3,call109->J6,sizeOf3->Ja,zeroValue56->Jf,sizeOf22->Js,call79->Jy,underlying4->JD,isAgg56->JI,sizeOf120->JT,sizeOf112->JU,underlying38->JW,underlying33->JX,sizeOf4->JY,call76->JZ,sizeOf29->K8,call9->K9,call77->Ke,ntmps79->Kh,isAgg29->Ki,call114->Kj,call113->Kk,func79->Kw,underlying270->KA,underlying266->KB,zeroValue197->KG,zeroValue120->KH,call8->KN,ntmps9->KR,call53->KS
open Array renaming getElem?_setIfInBounds_ne->I8,getElem?_setIfInBounds_self_of_lt->Jh,size_setIfInBounds->JC
open Go.VL.BlkO renaming upd->I9,setRow->Jd,drew->Jj,tag->KE,set->KF,q7->KL,q6->KM
open Go.VL.WH renaming one->IJ,done->J0,leaf->Ku
open Go.Value renaming oneCell'->IN
open Go.VL.Ext renaming refl->IP
open Go.VL renaming Upd->IQ,BlkO->J5,Ret->Jl,Rng->JA,Ext->K7,RowT->Ky
open Nat renaming le_of_eq->IT,zero_le->Ji,le_refl->Jr,lt_succ_self->Ka,not_lt_zero->Kc
open Go.World renaming setCell->IU,setRow->J9,drew->Jt,frozen?->Jz
open Go.VL.WS renaming go->Jm
open Go.VL.Fit renaming i64->Jn
open Go.VL.WI renaming region->Jq,seq->Kl
open Go.Proofs.YteolbhblkgjbhaaGreatDoor renaming PostC->Ju,Rd6->K1,TabV->Kf,PartV->Ko
open Go.VL.RowT renaming nil->Jv,drew->Kx
open Go.Value.tuple renaming injEq->JE
open Go.VL.Rng renaming upd->JL,drew->KK
open Go.Value.int renaming injEq->JN
open Go.Value.agg renaming injEq->JO
open List.cons renaming injEq->JP
open Go.Proofs.YteolbhblkgjbhaaGreatDoor.LR renaming bad->JQ
open Go.Lib renaming compact->JS
open Array.mk renaming injEq->JV
open Or renaming inr->K4,inl->K5
open Go.Addr renaming add->Kd
open Go.Proofs.YteolbhblkgjbhaaGreatDoor.RowsT renaming push->Kp
open Go.VL.Leave renaming call->Kr
open Go.VL.RetB renaming enter->Kv
open Option.some renaming inj->Kz
open Go.VL.QF renaming dn->KP
open Go.Proofs.YteolbhblkgjbhaaGreatDoor.Mac renaming upd->KQ
set_option maxRecDepth 10000
open Go.VL Go.Proofs Go.Proofs.Tryz
namespace Go.Proofs.YteolbhblkgjbhaaGreatDoor
section
variable{kn:Kn}
theorem FY:cC IR 197 #[(0,1),(1,3)]:=⟨_,underlying197,fun w=>by kernel_rfl⟩
inductive ML where
 |ok (m:List UInt8×Nd)
 |bad (p:Nat) (e:Int)
def GZ(nm r2:List UInt8):XR->ML
 |.ok t=>.ok (nm,t)
 |.bad p e=>.bad (r2.length-1-p) e
def ri(kn:Kn)(r:List UInt8):ML:=
 if(ar r).takeWhile ai=[]then .bad (ar r).length 4
 else if eL kn ((ar r).takeWhile ai)≠0 then .bad (ar r).length (eL kn ((ar r).takeWhile ai))
 else if(ar ((ar r).dropWhile ai)).headD 0=61 then GZ ((ar r).takeWhile ai) (ar ((ar r).dropWhile ai)) (eW kn (ar ((ar r).dropWhile ai)).tail)
 else .bad (ar ((ar r).dropWhile ai)).length 4
def Ie(O:Nat->Nat)(w:ln)(jm:Nat)(m:Nat)(v:I3)(bad e:Int)(kn:Kn):ML->Prop
 |.ok x=>e=0/\Mac O w jm v (kn++[x])
 |.bad p e'=>e=e'/\e'≠0/\bad=(m:Int)-(p:Int)
def atX:XR->Int
 |.ok _=>0
 |.bad p _=>(p:Int)
def G2:XR->Int
 |.ok _=>0
 |.bad _ e=>e
theorem PostX.shape{O:Nat->Nat}{w:ln}{v:I3}{M:XR}(h:PostX O w v M):∃x:N3,v=.tuple #[nv x,nI (atX M),nI (G2 M)]/\x.2.2.oneCell'=true/\∀t,M=.ok t->Nt O w t x:=by
 cases M with
 |ok t=>obtain⟨x,rfl,hn⟩:=h;exact⟨x,rfl,hn.one,fun t e=>by cases e;exact hn⟩
 |bad p e=>obtain⟨rfl,_⟩:=h;exact⟨(0,0,nS),rfl,rfl,fun t e=>by cases e⟩
theorem jW{m:M3}(h:m.2.2.2.oneCell'=true):∀c∈kA m,c.oneCell'=true:=fun c hc=>by
 simp only[kA,IM,Jp,or_false]at hc
 rcases hc with rfl|rfl|rfl|rfl
 ·rfl
 ·rfl
 ·rfl
 exact h
theorem xK{O:Nat->Nat}{w:ln}{i:Nat}{v:I3}{ms:List M3}{nm:List UInt8}{x:N3}{t:Nd}(hr:Ky kA 197 4 O w i v (ms++[(nm,x)]))(hl:kn.length=ms.length)(hk:∀q,q<ms.length->(nth kn q).1=(nth ms q).1/\Nt O w (nth kn q).2 (nth ms q).2)(hn:Nt O w t x):Mac O w i v (kn++[(nm,t)]):=by
 refine⟨_,hr,by simp[hl],fun q hq=>?_⟩;simp only[IZ,List.length_singleton]at hq
 by_cases e:q<ms.length
 ·rw[aC (by simp;omega),aC (by simp;omega),JH zo,JH e,<-aC zo,<-aC e];exact hk q e
 obtain rfl:q=ms.length:=zo;rw[aC (by simp;omega),aC (by simp),JB zo,JB zo];simp[hl];exact hn
theorem AA(B:Nat)(O:Nat → Nat)(w:ln)(j jm rb:Nat)(s:LS)(m:Nat)(r:List UInt8)(hR:JA B O w)(hj:j ≠ 0)(hjm:jm ≠ 0)(hne:j ≠ jm)(hm:m ≤ s.l.length)(hl:s.l.length ≤ 100000)(hto:s.to = (m:Int))(he:s.e = 0)
  (hr:r <:+ s.l.take m) (hp:s.pos = (m:Int) - (r.length:Int)) (hkl:kn.length ≤ 100000) (hmac:Mac O w jm s.mc kn) (h:K1 O w j rb s) :
  Jl IR 78 [nP rb] w fun _ w' => ∃O' v pos bad e, IQ (fun k => k = j ∨ k = jm) O w O' w' ∧ JA B O' w' ∧ K1 O' w' j rb {s with pos := pos, bad := bad, e := e, mc := v} ∧ Ie O' w' jm m v bad e kn (ri kn r) := by
 obtain⟨T0, hT00, hT01⟩ := hR.bound
 obtain⟨T, hT0, hjmT, hT⟩:∃T, 0 < T ∧ jm < T ∧ ∀b, O b < T := ⟨T0 + jm + 1, by omega, by omega, fun b => by have := hT01 b; omega⟩
 clear hT00 hT01 T0
 have hjT:j < T := by rw[← h.tag]; exact hT rb
 have hz2:¬(fun q:Nat => q = j ∨ q = jm) 0 := fun e => by rcases e with e | e; exact hj e.symm; exact hjm e.symm
 have hz3:¬(fun q:Nat => q = j ∨ q = jm ∨ T ≤ q) 0 := fun e => by rcases e with e | e | e; exact hj e.symm; exact hjm e.symm; omega
 have hpv:∀ {O':Nat → Nat} {w':ln}, IQ (fun q => q = j ∨ q = jm ∨ T ≤ q) O w O' w' → IQ (fun q => q = j ∨ q = jm) O w O w' := fun hU => hU.fgt (S' := fun q => q = j ∨ q = jm) (fun b hb => by rcases hb with hb | hb | hb; exact K5 hb; exact K4 hb; have := hT b; omega) hz2
 have hLl:(s.l.take m).length = m := by simp; omega
 refine I2 func78 ntmps78 rfl rfl ?_
 refine IH ?_
 refine I6 ?_
 refine zv (ix rfl) ?_
 refine zv (ao rfl) ?_
 refine zv (RV.fa rfl) ?_
 refine zc JZ (dI O w j rb s m r hj hm hl hto hr hp h) ?_
 rintro v w1 ⟨rfl, hb1, hU1⟩
 have hs1 := (aZ r).trans hr
 have hm1 := hmac.upd hU1 hjm (fun e => hne e.symm)
 have hR1 := hR.upd hU1
 refine I0 ?_
 refine aj ?_
 refine IH ?_
 refine I6 ?_
 refine zv (ix rfl) ?_
 refine zv (ao rfl) ?_
 refine zv (RV.fa rfl) ?_
 refine zv (RV.fa rfl) ?_
 refine zv (RV.ld hb1.q1 rfl) ?_
 refine zv (IS rfl) ?_
 refine I0 ?_
 refine aj ?_
 refine IH ?_
 refine I6 ?_
 refine zv (ix rfl) ?_
 refine zv (ao rfl) ?_
 refine zv (RV.fa rfl) ?_
 refine zc Ke (gq O w1 j rb ({s with pos := (m:Int) - ((ar r).length:Int)}:LS) m (ar r) hj hm hl hto hs1 rfl hb1) ?_
 rintro v w2 ⟨rfl, hb2, hU2⟩
 have hs2 := (I1 ai).trans hs1
 have hm2 := hm1.upd hU2 hjm (fun e => hne e.symm)
 have hR2 := hR1.upd hU2
 have hUt2 := (hU1.trans hU2).mono (S' := fun q => q = j ∨ q = jm ∨ T ≤ q) (fun _ h => .inl h) hz3
 refine zv (IS rfl) ?_
 refine I0 ?_
 refine aj ?_
 refine IH ?_
 refine IH ?_
 refine I6 ?_
 refine zv (ix rfl) ?_
 refine zv (cF rfl rfl) ?_
 refine I0 ?_
 refine aj ?_
 by_cases hnm:(ar r).takeWhile ai = []
 ·have hM:ri kn r = .bad (ar r).length 4 := by unfold ri; rw[if_pos hnm]
  rw[hM]
  refine aS rfl ((by rw[hnm]; rfl)) ?_
  refine IH ?_
  refine I6 ?_
  refine zv (ix rfl) ?_
  refine zv (ao rfl) ?_
  refine zv (RV.fa rfl) ?_
  refine zv (ix rfl) ?_
  refine zc J6 (bz O w2 j rb ({s with pos := (m:Int) - (((ar r).dropWhile ai).length:Int)}:LS) ((m:Int) - ((ar r).length:Int)) 4 hj he hb2) ?_
  rintro u w3 ⟨hb3, hU3⟩
  refine I0 ?_
  refine aj ?_
  refine JM ?_
  refine cZ ?_
  exact bR rfl ⟨O, s.mc, _, _, _, hpv (hUt2.trans (hU3.mono (fun _ h => .inl h) hz3)), hR2.upd hU3, hb3, rfl, by decide, rfl⟩
 ·skip
  refine aQ rfl ((by simpa using hnm)) ?_
  refine Jk ?_
  refine aj ?_
  refine IH ?_
  refine IH ?_
  refine I6 ?_
  refine zv (ix rfl) ?_
  refine zv (ix rfl) ?_
  refine zc call110 (zq O w2 j jm rb ({s with pos := (m:Int) - (((ar r).dropWhile ai).length:Int)}:LS) ((ar r).takeWhile ai) hm2 hb2) ?_
  rintro v w3 ⟨rfl, hE3⟩
  have hX3:IQ (fun _ => False) O w2 O w3 := aa (fun h => h) O hE3
  have hb3 := hb2.upd hX3 hj (fun h => h)
  have hm3 := hm2.upd hX3 hjm (fun h => h)
  have hR3 := hR2.upd hX3
  have hUt3 := hUt2.trans (hX3.mono (fun _ h => h.elim) hz3)
  refine zv (IS rfl) ?_
  refine I0 ?_
  refine aj ?_
  refine IH ?_
  refine I6 ?_
  refine zv (ix rfl) ?_
  refine zv (KD rfl rfl) ?_
  refine I0 ?_
  refine aj ?_
  by_cases htk:eL kn ((ar r).takeWhile ai) = 0
  ·skip
   refine aQ rfl ((by rw[htk]; rfl)) ?_
   have hMK:ri kn r = if(ar ((ar r).dropWhile ai)).headD 0 = 61 then GZ ((ar r).takeWhile ai) (ar ((ar r).dropWhile ai)) (eW kn (ar ((ar r).dropWhile ai)).tail)else .bad (ar ((ar r).dropWhile ai)).length 4 := by unfold ri; rw[if_neg hnm, if_neg (by rw[htk]; simp)]
   generalize (ar r).takeWhile ai = nm at *
   generalize (ar r).dropWhile ai = q at *
   have hs5 := (aZ q).trans hs2
   have hbd := hb3.drew
   have hmd := hm3.upd (aa (S := fun _ => False) (fun h => h) O (IP w3).drew) hjm (fun h => h)
   have hRd := hR3.drew
   have hUd := hUt3.drew
   refine Jk ?_
   refine aj ?_
   refine IH ?_
   refine IH ?_
   refine aI (fun V => V.cell? ⟨rb, 0, none⟩ = some (.string (bs s.l))) 19 rfl (by kernel_rfl) ?_
   refine zrm 0 rfl hbd.q0 rfl ?_
   refine zr 1 rfl hbd.q0 (fun _ => ao rfl) ?_
   refine zrf 2 rfl hbd.q0 rfl ?_
   refine IJ 3 (by kernel_rfl) rfl ?_
   refine zc JZ (dI O w3.drew j rb ({s with pos := (m:Int) - (q.length:Int)}:LS) m q hj hm hl hto hs2 rfl hbd) ?_
   rintro v w5 ⟨rfl, hb5, hU5⟩
   have hm5 := hmd.upd hU5 hjm (fun e => hne e.symm)
   have hR5 := hRd.upd hU5
   have hUt5 := hUd.trans (hU5.mono (fun _ h => .inl h) hz3)
   generalize ar q = r2 at *
   have hr2l := hs5.length_le
   rw[hLl]at hr2l
   have hb5':J5 O w5 j rb ({s with pos := (m:Int) - (r2.length:Int)}:LS).cells 114 := hb5
   clear hb5
   have hb5 := hb5'
   refine I0 ?_
   refine zaf (hb5.q0) fun zS => ?_
   refine zr 4 rfl zS (fun _ => Km rfl) ?_
   refine zrm 5 rfl zS rfl ?_
   by_cases hr0:r2.length = 0
   ·have hrn:r2 = [] := List.eq_nil_of_length_eq_zero hr0
    have hM:ri kn r = .bad r2.length 4 := by rw[hMK, if_neg (by rw[hrn]; decide)]
    rw[hM]
    refine lq (d := 44) rfl (b' := true) ((by rw[decide_eq_false (by omega)]; rfl)) ?_
    have hbe := hb5.drew
    refine zin (hb5.q0) fun zS => ?_
    refine zte 6 rfl rfl zS ?_
    refine zte 7 rfl rfl zS ?_
    refine zte 8 rfl rfl zS ?_
    refine zte 9 rfl rfl zS ?_
    refine zte 10 rfl rfl zS ?_
    refine zte 11 rfl rfl zS ?_
    refine zte 12 rfl rfl zS ?_
    refine zte 13 rfl rfl zS ?_
    refine zte 14 rfl rfl zS ?_
    refine zte 15 rfl rfl zS ?_
    refine zte 16 rfl rfl zS ?_
    refine zte 17 rfl rfl zS ?_
    refine zr 18 rfl zS (fun _ => bC rfl rfl) ?_
    refine J0 (by kernel_rfl) ?_
    refine aj ?_
    refine aS rfl rfl ?_
    refine IH ?_
    refine J8 8 rfl rfl (by kernel_rfl) (by kernel_rfl) ?_
    refine zw (ix rfl) ?_
    refine zw (ao rfl) ?_
    refine zw (RV.fa rfl) ?_
    refine zw (ix rfl) ?_
    refine zw (ao rfl) ?_
    refine zw (RV.fa rfl) ?_
    refine zw (RV.fa rfl) ?_
    refine zw (RV.ld hbe.q1 rfl) ?_
    refine Jm ?_
    refine zc J6 (bz O w5.drew j rb ({s with pos := (m:Int) - (r2.length:Int)}:LS) ((m:Int) - (r2.length:Int)) 4 hj he hbe) ?_
    rintro u w6 ⟨hb6, hU6⟩
    refine I0 ?_
    refine aj ?_
    refine JM ?_
    refine cZ ?_
    exact bR rfl ⟨O, s.mc, _, _, _, hpv ((hUt5.drew).trans (hU6.mono (fun _ h => .inl h) hz3)), hR5.drew.upd hU6, hb6, rfl, by decide, rfl⟩
   ·have hrn:r2 ≠ [] := fun e => hr0 (by rw[e]; rfl)
    have hgh := mh (xn hs5 hrn)
    rw[hLl]at hgh
    refine lq (d := 44) rfl (b' := false) ((by rw[decide_eq_true (by omega)]; rfl)) ?_
    refine zin (hb5.q0) fun zS => ?_
    refine zro 6 rfl zS (fun _ => ix rfl) ?_
    refine zro 7 rfl zS (fun _ => ao rfl) ?_
    refine zro 8 rfl zS (fun _ => RV.fa rfl) ?_
    refine zro 9 rfl zS (fun _ => RV.fa rfl) ?_
    refine zto 10 rfl zS (fun w1 hw1 => RV.ld hw1 rfl) ?_
    refine zro 11 rfl zS (fun _ => ix rfl) ?_
    refine zro 12 rfl zS (fun _ => ao rfl) ?_
    refine zro 13 rfl zS (fun _ => RV.fa rfl) ?_
    refine zro 14 rfl zS (fun _ => RV.fa rfl) ?_
    refine IJ 15 (by kernel_rfl) rfl ?_
    refine bY rfl ?_
    refine zv (RV.ld hb5.q1 rfl) ?_
    refine I0 ?_
    refine zaf (hb5.q0) fun zS => ?_
    refine zro 16 rfl zS (fun _ => bh (c := r2.headD 0) IV rfl rfl (m - r2.length) (by dsimp only; omega) hgh) ?_
    refine zro 17 rfl zS (fun _ => KD rfl rfl) ?_
    refine zr 18 rfl zS (fun _ => bt rfl rfl) ?_
    refine J0 (by kernel_rfl) ?_
    refine aj ?_
    by_cases hc:r2.headD 0 = 61
    ·have hMX:ri kn r = GZ nm r2 (eW kn r2.tail) := by rw[hMK, if_pos hc]
     obtain⟨k1, k2⟩ := bT (r := r2) (by rw[hc]; decide)
     have hts := k1.trans hs5
     refine aQ rfl ((by rw[hc]; rfl)) ?_
     have hbe := hb5.drew
     have hme := hm5.upd (aa (S := fun _ => False) (fun h => h) O (IP w5).drew) hjm (fun h => h)
     have hRe := hR5.drew
     have hUe := hUt5.drew
     have hseg:(s.l.take m).drop (m - r2.tail.length) = r2.tail := by have := C8 hts; rwa[hLl]at this
     have hgX := xq (kn := kn) r2.tail
     generalize hMd:eW kn r2.tail = M at *
     refine Jk ?_
     refine aj ?_
     refine IH ?_
     refine kq (fun z:(Nat → Nat)×World×Nat×N3 => [(0, nP rb), (3, .string (bs nm)), (5, .pointer (some ⟨z.2.2.1, 0, none⟩)), (6, nI (atX M)), (7, nI (G2 M))]) (fun z:(Nat → Nat)×World×Nat×N3 => z.2.1) (fun z:(Nat → Nat)×World×Nat×N3 => J5 z.1 z.2.1 T z.2.2.1 #[nI z.2.2.2.1, nI z.2.2.2.2.1, z.2.2.2.2.2] 120 ∧ K1 z.1 z.2.1 j rb {s with pos := (m:Int) - (r2.length:Int)} ∧ Mac z.1 z.2.1 jm s.mc kn ∧ IQ (fun q => q = j ∨ q = jm ∨ T ≤ q) O w z.1 z.2.1 ∧ JA B z.1 z.2.1 ∧ z.2.2.2.2.2.oneCell' = true ∧ ∀t, M = .ok t → Nt z.1 z.2.1 t z.2.2.2) ?_ ?_
     ·intro hN
      refine aI (fun V => V.cell? ⟨rb, 0, none⟩ = some (.string (bs s.l)) ∧ V.cell? ⟨rb, 1, none⟩ = some (nI ((m:Int) - (r2.length:Int))) ∧ V.cell? ⟨rb, 2, none⟩ = some (nI s.to) ∧ V.cell? ⟨rb, 9, none⟩ = some s.mc) 30 rfl (by kernel_rfl) ?_
      refine zin ⟨hbe.q0, hbe.q1, hbe.q2, hbe.q9⟩ fun zS => ?_
      refine zrm 0 rfl zS rfl ?_
      refine zr 1 rfl zS (fun _ => ao rfl) ?_
      refine zrf 2 rfl zS rfl ?_
      refine zrf 3 rfl zS rfl ?_
      refine zt 4 rfl zS (fun w1 hw1 => RV.ld hw1.1 rfl) ?_
      refine zrm 5 rfl zS rfl ?_
      refine zr 6 rfl zS (fun _ => ao rfl) ?_
      refine zrf 7 rfl zS rfl ?_
      refine zrf 8 rfl zS rfl ?_
      refine zt 9 rfl zS (fun w1 hw1 => RV.ld hw1.2.1 rfl) ?_
      refine zr 10 rfl zS (fun _ => JG rfl rfl (Jn (by omega))) ?_
      refine zrm 11 rfl zS rfl ?_
      refine zr 12 rfl zS (fun _ => ao rfl) ?_
      refine zrf 13 rfl zS rfl ?_
      refine zrf 14 rfl zS rfl ?_
      refine zt 15 rfl zS (fun w1 hw1 => RV.ld hw1.2.2.1 rfl) ?_
      refine zr 16 rfl zS (fun _ => cK IV rfl rfl rfl (m - r2.tail.length) m (by omega) hto (by omega) hm) ?_
      refine zrm 17 rfl zS rfl ?_
      refine zr 18 rfl zS (fun _ => ao rfl) ?_
      refine zrf 19 rfl zS rfl ?_
      refine zt 20 rfl zS (fun w1 hw1 => RV.ld hw1.2.2.2 rfl) ?_
      rw[hseg]
      refine bQ 21 26 (by kernel_rfl) rfl rfl ?_ ?_
      ·skip
       refine zc call111 (kH s.mc r2.tail B O (forget jm O) w5.drew hRe hRe.forget (hme.known hjm hRe)) ?_
       rintro v w6 ⟨hE6, hP6⟩
       rw[hMd]at hP6
       obtain⟨x, rfl, hxo, hxn⟩ := hP6.shape
       have hX6:IQ (fun _ => False) O w5.drew O w6 := aa (fun h => h) O hE6
       have hb6 := hbe.upd hX6 hj (fun h => h)
       have hm6 := hme.upd hX6 hjm (fun h => h)
       have hR6 := hRe.upd hX6
       have hU6 := hUe.trans (hX6.mono (fun _ h => h.elim) hz3)
       refine I0 ?_
       refine zaf (⟨hb6.q0, hb6.q1, hb6.q2, hb6.q9⟩) fun zS => ?_
       refine zrm 22 rfl zS rfl ?_
       refine zr 23 rfl zS (fun _ => I5 rfl rfl) ?_
       refine zr 24 rfl zS (fun _ => I5 rfl rfl) ?_
       refine zr 25 rfl zS (fun _ => I5 rfl rfl) ?_
       refine IJ 26 (by kernel_rfl) rfl ?_
       refine au hR6 T (by omega) (KH _) rfl ?_
       intro nb w7 O7 hn7 hX7 hR7 hE7
       have hb7 := hb6.upd hX7 hj (by omega)
       have hm7 := hm6.upd hX7 hjm (by omega)
       have hU7 := hU6.trans (hX7.mono (fun _ h => .inr (.inr (IT h.symm))) hz3)
       refine I0 ?_
       refine af (⟨hb7.q0, hb7.q1, hb7.q2, hb7.q9⟩) ?_
       refine IJ 27 (by kernel_rfl) rfl ?_
       refine zsb (us := #[nI x.1, nI x.2.1, x.2.2]) hn7 (JT _) (bX hxo) ?_
       have hnz := Jd (us := #[nI x.1, nI x.2.1, x.2.2]) hn7
       have hXz:IQ (fun q => q = T) O7 w7 O7 (J9 w7 nb #[nI x.1, nI x.2.1, x.2.2]) := I4 (by omega) (KE hn7) rfl
       have hbz := I9 hb7 hXz hj (by omega)
       refine I0 ?_
       refine zaf (⟨hbz.q0, hbz.q1, hbz.q2, hbz.q9⟩) fun zS => ?_
       refine zra 28 rfl zS rfl ?_
       refine zra 29 rfl zS rfl ?_
       refine J0 (by kernel_rfl) ?_
       exact gd (hN ((O7, J9 w7 nb #[nI x.1, nI x.2.1, x.2.2], nb, x)) (⟨hnz, hbz, KQ hm7 hXz hjm (by omega), J1 hU7 (hXz.mono (fun _ h => .inr (.inr (IT h.symm))) hz3), JL hR7 hXz, hxo, fun t e => Nt.upd ((fun t e => (hxn t e).upd hX7) t e) hXz⟩)) ⟨rfl, rfl, rfl, rfl, rfl, trivial⟩ rfl
      ·skip
       refine au hRe T (by omega) (KH _) rfl ?_
       intro nb w6 O6 hn6 hX6 hR6 hE6
       have hb6 := hbe.upd hX6 hj (by omega)
       have hm6 := hme.upd hX6 hjm (by omega)
       have hU6 := hUe.trans (hX6.mono (fun _ h => .inr (.inr (IT h.symm))) hz3)
       refine I0 ?_
       refine af (⟨hb6.q0, hb6.q1, hb6.q2, hb6.q9⟩) ?_
       refine IJ 21 (by kernel_rfl) rfl ?_
       refine zc call111 (kH s.mc r2.tail B O6 (forget jm O6) w6 hR6 hR6.forget (hm6.known hjm hR6)) ?_
       rintro v w7 ⟨hE7, hP7⟩
       rw[hMd]at hP7
       obtain⟨x, rfl, hxo, hxn⟩ := hP7.shape
       have hX7:IQ (fun _ => False) O6 w6 O6 w7 := aa (fun h => h) O6 hE7
       have hn7 := hn6.upd hX7 (by omega) (fun h => h)
       have hb7 := hb6.upd hX7 hj (fun h => h)
       have hm7 := hm6.upd hX7 hjm (fun h => h)
       have hR7 := hR6.upd hX7
       have hU7 := hU6.trans (hX7.mono (fun _ h => h.elim) hz3)
       refine I0 ?_
       refine zaf (⟨hb7.q0, hb7.q1, hb7.q2, hb7.q9⟩) fun zS => ?_
       refine zrm 22 rfl zS rfl ?_
       refine zr 23 rfl zS (fun _ => I5 rfl rfl) ?_
       refine zr 24 rfl zS (fun _ => I5 rfl rfl) ?_
       refine zr 25 rfl zS (fun _ => I5 rfl rfl) ?_
       refine IJ 27 (by kernel_rfl) rfl ?_
       refine zsb (us := #[nI x.1, nI x.2.1, x.2.2]) hn7 (JT _) (bX hxo) ?_
       have hnz := Jd (us := #[nI x.1, nI x.2.1, x.2.2]) hn7
       have hXz:IQ (fun q => q = T) O6 w7 O6 (J9 w7 nb #[nI x.1, nI x.2.1, x.2.2]) := I4 (by omega) (KE hn7) rfl
       have hbz := I9 hb7 hXz hj (by omega)
       refine I0 ?_
       refine zaf (⟨hbz.q0, hbz.q1, hbz.q2, hbz.q9⟩) fun zS => ?_
       refine zra 28 rfl zS rfl ?_
       refine zra 29 rfl zS rfl ?_
       refine J0 (by kernel_rfl) ?_
       exact gd (hN ((O6, J9 w7 nb #[nI x.1, nI x.2.1, x.2.2], nb, x)) (⟨hnz, hbz, KQ hm7 hXz hjm (by omega), J1 hU7 (hXz.mono (fun _ h => .inr (.inr (IT h.symm))) hz3), JL hR7 hXz, hxo, fun t e => Nt.upd (hxn t e) hXz⟩)) ⟨rfl, rfl, rfl, rfl, rfl, trivial⟩ rfl
     ·rintro⟨O8, w8, nb, x⟩ ⟨hn8, hb8, hm8, hU8, hR8, hxo, hxn⟩
      dsimp only at hn8 hb8 hm8 hU8 hR8 hxo hxn ⊢
      refine aj ?_
      refine IH ?_
      refine IH ?_
      refine I6 ?_
      refine zv (ix rfl) ?_
      refine zv (KD rfl rfl) ?_
      refine I0 ?_
      refine aj ?_
      cases M with
      |ok t =>
       rw[hMX]
       refine aQ rfl rfl ?_
       have hnt := hxn t rfl
       obtain⟨ms, hrow, hkl2, hke⟩ := hm8
       have hrowD := Kx hrow
       have hRD := KK hR8
       have hbD := Jj hb8
       have hnD := Jj hn8
       have hUD := KJ hU8
       refine Jk ?_
       refine aj ?_
       refine aI (fun V => ∀(q:Nat) (u:I3), (bu x)[q]? = some u → V.cell? (nA nb q) = some u) 13 rfl (by kernel_rfl) ?_
       refine zin hnD.cellsAdd fun zS => ?_
       refine zrm 0 rfl zS rfl ?_
       refine zrm 1 rfl zS rfl ?_
       refine zr 2 rfl zS (fun _ => ao rfl) ?_
       refine zrf 3 rfl zS rfl ?_
       refine zrm 5 rfl zS rfl ?_
       refine zt 6 rfl zS (fun w1 hw1 => ah (us := bu x) hw1 (isAgg120 _) (JT _) rfl) ?_
       refine zr 7 rfl zS (fun _ => Jo (vs := [(0, .string (bs nm)), (1, nv x)]) (cells := (kA (nm, x)).toArray) FY (KG _) rfl (by kernel_rfl)) ?_
       refine bQ 4 8 (by kernel_rfl) rfl rfl ?_ ?_
       ·skip
        refine zv (RV.ld hbD.q9 rfl) ?_
        refine I0 ?_
        refine af hnD.cellsAdd ?_
        refine IJ 8 (by kernel_rfl) rfl ?_
        refine aU elM (enc := kA) (nm, x) rfl rfl rfl (by decide) rfl ?_
        intro w9 h9 hE9
        have hX9:IQ (fun _ => False) O8 (Jt w8) O8 w9 := aa (fun h => h) O8 hE9
        have hb9 := hbD.upd hX9 hj (fun h => h)
        have hn9 := hnD.upd hX9 (by omega) (fun h => h)
        have hrow9 := hrowD.upd hX9 hjm (fun h => h)
        have hR9 := hRD.upd hX9
        have hU9 := hUD.trans (hX9.mono (fun _ h => h.elim) hz3)
        refine I0 ?_
        refine af hn9.cellsAdd ?_
        have hone9:∀u ∈ [((nm, x):M3)], ∀c ∈ kA u, c.oneCell' = true := fun u hu => by
         rw[Jc.1 hu]; exact jW hxo
        refine IJ 9 (by kernel_rfl) rfl ?_
        refine aB elM hrow9 hR9 h9 (by simp) rfl rfl (fun _ _ => rfl) hone9 (by simp; omega) (by simp; omega) (by omega) rfl ?_
        intro lv10 w10 O10 hrow10 hX10 hR10
        have hb10 := I9 hb9 hX10 hj (by omega)
        have hn10 := I9 hn9 hX10 (by omega) (by omega)
        have hl10 := hrow10.one
        have hU10 := hU9.trans (hX10.mono (fun _ h => .inr (.inl h)) hz3)
        refine I0 ?_
        refine zaf (hn10.cellsAdd) fun zS => ?_
        refine zr 10 rfl zS (fun _ => ao rfl) ?_
        refine zrf 11 rfl zS rfl ?_
        refine IJ 12 (by kernel_rfl) rfl ?_
        refine ak (j := 9) hb10 rfl (JU _) hl10 rfl rfl rfl ?_
        have hX11:IQ (fun q => q = j) O10 w10 O10 (IU w10 ⟨rb, 9, none⟩ lv10) := IL (fun e => hj e.symm) hb10.tag rfl
        have hb11:J5 O10 (IU w10 ⟨rb, 9, none⟩ lv10) j rb ({({s with pos := (m:Int) - (r2.length:Int)}:LS)with mc := lv10}:LS).cells 114 := hb10.set 9 lv10
        have hn11 := hn10.upd hX11 (by omega) (by omega)
        have hrow11 := hrow10.upd hX11 hjm (fun e => hne e.symm)
        have hU11 := hU10.trans (hX11.mono (fun _ h => .inl h) hz3)
        have hR11 := hR10.upd hX11
        refine I0 ?_
        refine af (hn11.cellsAdd) ?_
        refine J0 (by kernel_rfl) ?_
        have hUz := JR hU11 hT (S' := fun q => q = j ∨ q = jm) (fun b hb => by rcases hb with hb | hb | hb; exact K5 hb; exact K4 hb; have := hT b; omega) hz2
        exact aD rfl ⟨lowT O10 T, lv10, _, _, _, hUz, hR11.lowT T, hb11.lowT hjT, he, xK (hrow11.lowT hjmT) hkl2 (fun q hq => ⟨(hke q hq).1, (((((hke q hq).2.drew).upd hX9).upd hX10).upd hX11).weak (fun b hb => jK hb)⟩) (((((hnt.drew).upd hX9).upd hX10).upd hX11).weak (fun b hb => jK hb))⟩
       ·skip
        refine aU elM (enc := kA) (nm, x) rfl rfl rfl (by decide) rfl ?_
        intro w9 h9 hE9
        have hX9:IQ (fun _ => False) O8 (Jt w8) O8 w9 := aa (fun h => h) O8 hE9
        have hb9 := hbD.upd hX9 hj (fun h => h)
        have hn9 := hnD.upd hX9 (by omega) (fun h => h)
        have hrow9 := hrowD.upd hX9 hjm (fun h => h)
        have hR9 := hRD.upd hX9
        have hU9 := hUD.trans (hX9.mono (fun _ h => h.elim) hz3)
        refine I0 ?_
        refine af hn9.cellsAdd ?_
        refine IJ 4 (by kernel_rfl) rfl ?_
        refine zv (RV.ld hb9.q9 rfl) ?_
        refine I0 ?_
        refine af hn9.cellsAdd ?_
        have hone9:∀u ∈ [((nm, x):M3)], ∀c ∈ kA u, c.oneCell' = true := fun u hu => by
         rw[Jc.1 hu]; exact jW hxo
        refine IJ 9 (by kernel_rfl) rfl ?_
        refine aB elM hrow9 hR9 h9 (by simp) rfl rfl (fun _ _ => rfl) hone9 (by simp; omega) (by simp; omega) (by omega) rfl ?_
        intro lv10 w10 O10 hrow10 hX10 hR10
        have hb10 := I9 hb9 hX10 hj (by omega)
        have hn10 := I9 hn9 hX10 (by omega) (by omega)
        have hl10 := hrow10.one
        have hU10 := hU9.trans (hX10.mono (fun _ h => .inr (.inl h)) hz3)
        refine I0 ?_
        refine zaf (hn10.cellsAdd) fun zS => ?_
        refine zr 10 rfl zS (fun _ => ao rfl) ?_
        refine zrf 11 rfl zS rfl ?_
        refine IJ 12 (by kernel_rfl) rfl ?_
        refine ak (j := 9) hb10 rfl (JU _) hl10 rfl rfl rfl ?_
        have hX11:IQ (fun q => q = j) O10 w10 O10 (IU w10 ⟨rb, 9, none⟩ lv10) := IL (fun e => hj e.symm) hb10.tag rfl
        have hb11:J5 O10 (IU w10 ⟨rb, 9, none⟩ lv10) j rb ({({s with pos := (m:Int) - (r2.length:Int)}:LS)with mc := lv10}:LS).cells 114 := hb10.set 9 lv10
        have hn11 := hn10.upd hX11 (by omega) (by omega)
        have hrow11 := hrow10.upd hX11 hjm (fun e => hne e.symm)
        have hU11 := hU10.trans (hX11.mono (fun _ h => .inl h) hz3)
        have hR11 := hR10.upd hX11
        refine I0 ?_
        refine af (hn11.cellsAdd) ?_
        refine J0 (by kernel_rfl) ?_
        have hUz := JR hU11 hT (S' := fun q => q = j ∨ q = jm) (fun b hb => by rcases hb with hb | hb | hb; exact K5 hb; exact K4 hb; have := hT b; omega) hz2
        exact aD rfl ⟨lowT O10 T, lv10, _, _, _, hUz, hR11.lowT T, hb11.lowT hjT, he, xK (hrow11.lowT hjmT) hkl2 (fun q hq => ⟨(hke q hq).1, (((((hke q hq).2.drew).upd hX9).upd hX10).upd hX11).weak (fun b hb => jK hb)⟩) (((((hnt.drew).upd hX9).upd hX10).upd hX11).weak (fun b hb => jK hb))⟩
      |bad p e =>
       have hne7 := (hgX p e rfl).1
       have hple := (hgX p e rfl).2
       rw[hMX]
       refine aS rfl ((by simpa[G2]using hne7)) ?_
       have hb8d := hb8.drew
       have hn8d := hn8.drew
       have hm8d := hm8.upd (aa (S := fun _ => False) (fun h => h) O8 (IP w8).drew) hjm (fun h => h)
       refine J8 12 rfl rfl (by kernel_rfl) (by kernel_rfl) ?_
       refine zw (ix rfl) ?_
       refine zw (ao rfl) ?_
       refine zw (RV.fa rfl) ?_
       refine zw (ix rfl) ?_
       refine zw (ao rfl) ?_
       refine zw (RV.fa rfl) ?_
       refine zw (RV.fa rfl) ?_
       refine zw (RV.ld hb8d.q1 rfl) ?_
       refine zw (JG rfl rfl (Jn (by dsimp only; omega))) ?_
       refine zw (ix rfl) ?_
       refine zw (JG rfl rfl (Jn (by dsimp only[atX]; omega))) ?_
       refine zw (ix rfl) ?_
       refine Jm ?_
       refine zc J6 (bz O8 w8.drew j rb ({s with pos := (m:Int) - (r2.length:Int)}:LS) (((m:Int) - (r2.length:Int)) + 1 + (p:Int)) e hj he hb8d) ?_
       rintro u wf ⟨hbf, hUf⟩
       have hnf' := hn8d.upd hUf (by omega) (by omega)
       have hmf' := hm8d.upd hUf hjm (fun e => hne e.symm)
       have hRf' := hR8.drew.upd hUf
       have hUf' := (hU8.drew).trans (hUf.mono (S' := fun q => q = j ∨ q = jm ∨ T ≤ q) (fun _ h => .inl h) hz3)
       have hbf':J5 O8 wf j rb ({s with pos := (m:Int) - (r2.length:Int), bad := ((m:Int) - (r2.length:Int)) + 1 + (p:Int), e := e}:LS).cells 114 := hbf
       clear hbf
       obtain⟨ms, hrow, hkl2, hke⟩ := hmf'
       have hrowD := Kx hrow
       have hRD := KK hRf'
       have hbD := Jj hbf'
       have hnD := Jj hnf'
       have hUD := KJ hUf'
       refine I0 ?_
       refine aj ?_
       refine aI (fun V => ∀(q:Nat) (u:I3), (bu x)[q]? = some u → V.cell? (nA nb q) = some u) 13 rfl (by kernel_rfl) ?_
       refine zin hnD.cellsAdd fun zS => ?_
       refine zrm 0 rfl zS rfl ?_
       refine zrm 1 rfl zS rfl ?_
       refine zr 2 rfl zS (fun _ => ao rfl) ?_
       refine zrf 3 rfl zS rfl ?_
       refine zrm 5 rfl zS rfl ?_
       refine zt 6 rfl zS (fun w1 hw1 => ah (us := bu x) hw1 (isAgg120 _) (JT _) rfl) ?_
       refine zr 7 rfl zS (fun _ => Jo (vs := [(0, .string (bs nm)), (1, nv x)]) (cells := (kA (nm, x)).toArray) FY (KG _) rfl (by kernel_rfl)) ?_
       refine bQ 4 8 (by kernel_rfl) rfl rfl ?_ ?_
       ·skip
        refine zv (RV.ld hbD.q9 rfl) ?_
        refine I0 ?_
        refine af hnD.cellsAdd ?_
        refine IJ 8 (by kernel_rfl) rfl ?_
        refine aU elM (enc := kA) (nm, x) rfl rfl rfl (by decide) rfl ?_
        intro w9 h9 hE9
        have hX9:IQ (fun _ => False) O8 (Jt wf) O8 w9 := aa (fun h => h) O8 hE9
        have hb9 := hbD.upd hX9 hj (fun h => h)
        have hn9 := hnD.upd hX9 (by omega) (fun h => h)
        have hrow9 := hrowD.upd hX9 hjm (fun h => h)
        have hR9 := hRD.upd hX9
        have hU9 := hUD.trans (hX9.mono (fun _ h => h.elim) hz3)
        refine I0 ?_
        refine af hn9.cellsAdd ?_
        have hone9:∀u ∈ [((nm, x):M3)], ∀c ∈ kA u, c.oneCell' = true := fun u hu => by
         rw[Jc.1 hu]; exact jW hxo
        refine IJ 9 (by kernel_rfl) rfl ?_
        refine aB elM hrow9 hR9 h9 (by simp) rfl rfl (fun _ _ => rfl) hone9 (by simp; omega) (by simp; omega) (by omega) rfl ?_
        intro lv10 w10 O10 hrow10 hX10 hR10
        have hb10 := I9 hb9 hX10 hj (by omega)
        have hn10 := I9 hn9 hX10 (by omega) (by omega)
        have hl10 := hrow10.one
        have hU10 := hU9.trans (hX10.mono (fun _ h => .inr (.inl h)) hz3)
        refine I0 ?_
        refine zaf (hn10.cellsAdd) fun zS => ?_
        refine zr 10 rfl zS (fun _ => ao rfl) ?_
        refine zrf 11 rfl zS rfl ?_
        refine IJ 12 (by kernel_rfl) rfl ?_
        refine ak (j := 9) hb10 rfl (JU _) hl10 rfl rfl rfl ?_
        have hX11:IQ (fun q => q = j) O10 w10 O10 (IU w10 ⟨rb, 9, none⟩ lv10) := IL (fun e => hj e.symm) hb10.tag rfl
        have hb11:J5 O10 (IU w10 ⟨rb, 9, none⟩ lv10) j rb ({({s with pos := (m:Int) - (r2.length:Int), bad := ((m:Int) - (r2.length:Int)) + 1 + (p:Int), e := e}:LS)with mc := lv10}:LS).cells 114 := hb10.set 9 lv10
        have hn11 := hn10.upd hX11 (by omega) (by omega)
        have hrow11 := hrow10.upd hX11 hjm (fun e => hne e.symm)
        have hU11 := hU10.trans (hX11.mono (fun _ h => .inl h) hz3)
        have hR11 := hR10.upd hX11
        refine I0 ?_
        refine af (hn11.cellsAdd) ?_
        refine J0 (by kernel_rfl) ?_
        have hUz := JR hU11 hT (S' := fun q => q = j ∨ q = jm) (fun b hb => by rcases hb with hb | hb | hb; exact K5 hb; exact K4 hb; have := hT b; omega) hz2
        exact aD rfl ⟨lowT O10 T, lv10, _, _, _, hUz, hR11.lowT T, hb11.lowT hjT, rfl, hne7, by dsimp only; omega⟩
       ·skip
        refine aU elM (enc := kA) (nm, x) rfl rfl rfl (by decide) rfl ?_
        intro w9 h9 hE9
        have hX9:IQ (fun _ => False) O8 (Jt wf) O8 w9 := aa (fun h => h) O8 hE9
        have hb9 := hbD.upd hX9 hj (fun h => h)
        have hn9 := hnD.upd hX9 (by omega) (fun h => h)
        have hrow9 := hrowD.upd hX9 hjm (fun h => h)
        have hR9 := hRD.upd hX9
        have hU9 := hUD.trans (hX9.mono (fun _ h => h.elim) hz3)
        refine I0 ?_
        refine af hn9.cellsAdd ?_
        refine IJ 4 (by kernel_rfl) rfl ?_
        refine zv (RV.ld hb9.q9 rfl) ?_
        refine I0 ?_
        refine af hn9.cellsAdd ?_
        have hone9:∀u ∈ [((nm, x):M3)], ∀c ∈ kA u, c.oneCell' = true := fun u hu => by
         rw[Jc.1 hu]; exact jW hxo
        refine IJ 9 (by kernel_rfl) rfl ?_
        refine aB elM hrow9 hR9 h9 (by simp) rfl rfl (fun _ _ => rfl) hone9 (by simp; omega) (by simp; omega) (by omega) rfl ?_
        intro lv10 w10 O10 hrow10 hX10 hR10
        have hb10 := I9 hb9 hX10 hj (by omega)
        have hn10 := I9 hn9 hX10 (by omega) (by omega)
        have hl10 := hrow10.one
        have hU10 := hU9.trans (hX10.mono (fun _ h => .inr (.inl h)) hz3)
        refine I0 ?_
        refine zaf (hn10.cellsAdd) fun zS => ?_
        refine zr 10 rfl zS (fun _ => ao rfl) ?_
        refine zrf 11 rfl zS rfl ?_
        refine IJ 12 (by kernel_rfl) rfl ?_
        refine ak (j := 9) hb10 rfl (JU _) hl10 rfl rfl rfl ?_
        have hX11:IQ (fun q => q = j) O10 w10 O10 (IU w10 ⟨rb, 9, none⟩ lv10) := IL (fun e => hj e.symm) hb10.tag rfl
        have hb11:J5 O10 (IU w10 ⟨rb, 9, none⟩ lv10) j rb ({({s with pos := (m:Int) - (r2.length:Int), bad := ((m:Int) - (r2.length:Int)) + 1 + (p:Int), e := e}:LS)with mc := lv10}:LS).cells 114 := hb10.set 9 lv10
        have hn11 := hn10.upd hX11 (by omega) (by omega)
        have hrow11 := hrow10.upd hX11 hjm (fun e => hne e.symm)
        have hU11 := hU10.trans (hX11.mono (fun _ h => .inl h) hz3)
        have hR11 := hR10.upd hX11
        refine I0 ?_
        refine af (hn11.cellsAdd) ?_
        refine J0 (by kernel_rfl) ?_
        have hUz := JR hU11 hT (S' := fun q => q = j ∨ q = jm) (fun b hb => by rcases hb with hb | hb | hb; exact K5 hb; exact K4 hb; have := hT b; omega) hz2
        exact aD rfl ⟨lowT O10 T, lv10, _, _, _, hUz, hR11.lowT T, hb11.lowT hjT, rfl, hne7, by dsimp only; omega⟩
    ·have hM:ri kn r = .bad r2.length 4 := by rw[hMK, if_neg hc]
     rw[hM]
     refine aS rfl ((vi _ 61 (by decide) hc)) ?_
     have hbe := hb5.drew
     refine IH ?_
     refine J8 8 rfl rfl (by kernel_rfl) (by kernel_rfl) ?_
     refine zw (ix rfl) ?_
     refine zw (ao rfl) ?_
     refine zw (RV.fa rfl) ?_
     refine zw (ix rfl) ?_
     refine zw (ao rfl) ?_
     refine zw (RV.fa rfl) ?_
     refine zw (RV.fa rfl) ?_
     refine zw (RV.ld hbe.q1 rfl) ?_
     refine Jm ?_
     refine zc J6 (bz O w5.drew j rb ({s with pos := (m:Int) - (r2.length:Int)}:LS) ((m:Int) - (r2.length:Int)) 4 hj he hbe) ?_
     rintro u w6 ⟨hb6, hU6⟩
     refine I0 ?_
     refine aj ?_
     refine JM ?_
     refine cZ ?_
     exact bR rfl ⟨O, s.mc, _, _, _, hpv ((hUt5.drew).trans (hU6.mono (fun _ h => .inl h) hz3)), hR5.drew.upd hU6, hb6, rfl, by decide, rfl⟩
  ·have hM:ri kn r = .bad (ar r).length (eL kn ((ar r).takeWhile ai)) := by unfold ri; rw[if_neg hnm, if_pos htk]
   rw[hM]
   refine aS rfl ((by simpa using htk)) ?_
   refine IH ?_
   refine I6 ?_
   refine zv (ix rfl) ?_
   refine zv (ao rfl) ?_
   refine zv (RV.fa rfl) ?_
   refine zv (ix rfl) ?_
   refine zv (ix rfl) ?_
   refine zc J6 (bz O w3 j rb ({s with pos := (m:Int) - (((ar r).dropWhile ai).length:Int)}:LS) ((m:Int) - ((ar r).length:Int)) (eL kn ((ar r).takeWhile ai)) hj he hb3) ?_
   rintro u w4 ⟨hb4, hU4⟩
   refine I0 ?_
   refine aj ?_
   refine JM ?_
   refine cZ ?_
   exact bR rfl ⟨O, s.mc, _, _, _, hpv (hUt3.trans (hU4.mono (fun _ h => .inl h) hz3)), hR3.upd hU4, hb4, rfl, htk, rfl⟩
end
theorem Io:Elem IR 22 3 1 8:=⟨IK,by kernel_rfl,zd⟩
inductive LM where
 |ok (l:List Int)
 |bad (p:Nat) (e:Int)
def eZ:Nat->List Int->List UInt8->LM
 |0,acc,_=>.ok acc
 |n+1,acc,r=>
  if(ar r).length=0 then .ok acc
  else if(ar r).takeWhile ai=[]then .bad (ar r).length 4
  else match Aj ((ar r).takeWhile ai)with
   |none=>.bad (ar r).length 5
   |some c=>eZ n (acc++[(c:Int)]) ((ar r).dropWhile ai)
def GY:LM->LM
 |.bad p e=>.bad p e
 |.ok []=>.bad 0 4
 |.ok (a::l)=>.ok (JS (gm (a::l)))
def cI(r:List UInt8):LM:=GY (eZ (r.length+1) [] r)
theorem ry{x:List UInt8}(h:x.takeWhile ai≠[]):(x.dropWhile ai).length<x.length:=by
 have:=congrArg Kq (List.takeWhile_append_dropWhile (p:=ai) (l:=x));rw[IZ]at this;have:=List.length_pos_iff.2 h;omega
def Gu(m:Nat)(w':ln)(O':Nat->Nat)(ji:Nat)(lv:I3)(bad e:Int):LM->Prop
 |.ok l=>e=0/\Ky encI 3 1 O' w' ji lv l
 |.bad p e'=>e=e'/\e'≠0/\bad=(m:Int)-(p:Int)
theorem oQ(O:Nat->Nat)(w:ln)(j rb:Nat)(s:LS)(hj:j≠0)(he:s.e=0)(a0:s.i=true)(h:K1 O w j rb s):
  Jl IR 79 [nP rb,.pointer (some ⟨rb,6,none⟩),.pointer (some ⟨rb,10,none⟩)] w fun _ w'=>K1 O w' j rb {s with bad:=s.bg,e:=11}/\IQ (fun k=>k=j) O w O w':=by
 have q0:=h.q10;rw[a0]at q0;have q3:=h.q3;have hd:=h.drew;have a3:IQ (fun k=>k=j) O w O w.drew:=(Je (fun e=>hj e.symm) O w).drew;refine I2 Kw Kh rfl rfl ?_;refine zg ?_;refine zvG (RV.ld q0 rfl) ?_;refine zTG rfl rfl ?_;refine J8 8 rfl rfl zk zk ?_;refine zg ?_;refine zw (RV.ld q3 rfl) ?_;refine Jm ?_;refine zc J6 (bz O w.drew j rb s s.bg 11 hj he hd) ?_;rintro u w1 ⟨a1,a2⟩;refine zg ?_;exact bR rfl ⟨a1,a3.trans a2⟩
theorem oP(O:Nat->Nat)(w:ln)(j rb:Nat)(s:LS)(hj:j≠0)(he:s.e=0)(a0:s.k=true)(h:K1 O w j rb s):
  Jl IR 79 [nP rb,.pointer (some ⟨rb,7,none⟩),.pointer (some ⟨rb,11,none⟩)] w fun _ w'=>K1 O w' j rb {s with bad:=s.bg,e:=11}/\IQ (fun k=>k=j) O w O w':=by
 have q0:=h.q11;rw[a0]at q0;have q3:=h.q3;have hd:=h.drew;have a3:IQ (fun k=>k=j) O w O w.drew:=(Je (fun e=>hj e.symm) O w).drew;refine I2 Kw Kh rfl rfl ?_;refine zg ?_;refine zvG (RV.ld q0 rfl) ?_;refine zTG rfl rfl ?_;refine J8 8 rfl rfl zk zk ?_;refine zg ?_;refine zw (RV.ld q3 rfl) ?_;refine Jm ?_;refine zc J6 (bz O w.drew j rb s s.bg 11 hj he hd) ?_;rintro u w1 ⟨a1,a2⟩;refine zg ?_;exact bR rfl ⟨a1,a3.trans a2⟩
theorem rq:∀(n:Nat) (a0:List Int) (r:List UInt8) (p:Nat) (e:Int),eZ n a0 r=.bad p e->p<=r.length
 |0,_,_,_,_,h=>by cases h
 |n+1,a0,r,p,e,h=>by
  have hs:=df r;unfold eZ at h
  split at h
  ·cases h
  split at h
  ·cases h;exact hs
  split at h
  ·cases h;exact hs
  have h1:=rq n _ _ p e h;have h2:=(I1 (l:=ar r) ai).length_le;omega
theorem mo{r:List UInt8}{p:Nat}{e:Int}(h:cI r=.bad p e):p<=r.length:=by
 unfold cI at h
 cases hw:eZ (r.length+1) [] r with
 |bad q f=>rw[hw]at h;cases h;exact rq _ _ _ _ _ hw
 |ok l=>
  rw[hw]at h
  cases l with
  |nil=>cases h;exact Ji _
  |cons a l=>cases h
theorem sD(B:Nat)(O:Nat->Nat)(w:ln)(j ji rb:Nat)(s:LS)(m:Nat)(r0:List UInt8)(hR:JA B O w)(hj:j≠0)(a8:ji≠0)(a9:j≠ji)(hm:m<=s.l.length)(hl:s.l.length<=100000)(d6:s.to=(m:Int))(he:s.e=0)(g1:s.i=false)(g2:s.ig=rh)
  (hr:r0 <:+ s.l.take m) (hp:s.pos=(m:Int)-(r0.length:Int)) (h:K1 O w j rb s) :
  Jl IR 79 [nP rb,.pointer (some ⟨rb,6,none⟩),.pointer (some ⟨rb,10,none⟩)] w fun _ w'=>∃O' lv pos bad e,IQ (fun k=>k=j\/k=ji) O w O' w'/\JA B O' w'/\K1 O' w' j rb {s with pos:=pos,bad:=bad,e:=e,ig:=lv,i:=true}/\Gu m w' O' ji lv bad e (cI r0):=by
 have a0:¬(fun q:Nat=>q=j\/q=ji) 0:=fun e=>by rcases e with e|e;exact hj e.symm;exact a8 e.symm
 have h1:r0.length<=m:=by have:=hr.length_le;simp at this;omega
 have q0:=h.q10;rw[g1]at q0;refine I2 Kw Kh rfl rfl ?_;refine zg ?_;refine zvG (RV.ld q0 rfl) ?_;refine zFG rfl rfl ?_;refine ak (j:=10) h rfl (JY _) rfl rfl rfl rfl ?_;have g4:K1 O (w.setCell ⟨rb,10,none⟩ (.bool true)) j rb {s with i:=true}:=KF h 10 _;have f6:IQ (fun k=>k=j) O w O (w.setCell ⟨rb,10,none⟩ (.bool true)):=IL (fun e=>hj e.symm) h.tag rfl;have g7:=hR.upd f6;generalize w.setCell ⟨rb,10,none⟩ (.bool true)=w1 at *;obtain⟨M,d1⟩:∃M,M=eZ (r0.length+1) [] r0:=⟨_,rfl⟩
 refine zg ?_;refine zlp (fun y:Nat×List Int×List UInt8×(Nat->Nat)×World×I3=>[(0,nP rb),(1,.pointer (some ⟨rb,6,none⟩))]) (fun y=>y.2.2.2.2.1) (fun y=>K1 y.2.2.2.1 y.2.2.2.2.1 j rb {s with pos:=(m:Int)-(y.2.2.1.length:Int),ig:=y.2.2.2.2.2,i:=true}/\Ky encI 3 1 y.2.2.2.1 y.2.2.2.2.1 ji y.2.2.2.2.2 y.2.1/\y.2.2.1 <:+ s.l.take m/\eZ y.1 y.2.1 y.2.2.1=M/\y.2.2.1.length<y.1/\y.2.1.length+y.2.2.1.length<=r0.length/\IQ (fun k=>k=j\/k=ji) O w y.2.2.2.1 y.2.2.2.2.1/\JA B y.2.2.2.1 y.2.2.2.2.1) (fun y=>y.1) (r0.length+1,[],r0,O,w1,rh) (⟨by dsimp only;rw[<-hp,<-g2];exact g4,Jv _ _ _ _ _ _,hr,d1.symm,Ka _,by simp,f6.mono (fun _ h=>.inl h) a0,g7⟩) ?_
 rintro⟨n,d5,r,O1,w2,lv⟩ ⟨f4,b1,b2,a4,hn,g5,f5,f7⟩;dsimp only at f4 b1 b2 a4 hn g5 f5 f7 ⊢;obtain⟨n,rfl⟩:∃q,n=q+1:=⟨n-1,by omega⟩
 have g':=df r;unfold eZ at a4;refine zg ?_;refine zc JZ (dI O1 w2 j rb ({s with pos:=(m:Int)-((r).length:Int),ig:=lv,i:=true}:LS) m r hj hm hl d6 b2 rfl f4) ?_;rintro v w3 ⟨rfl,b6,e6⟩;have a3:=b1.upd e6 a8 (fun e=>a9 e.symm);have f3:=f7.upd e6;have b9:=f5.trans (e6.mono (fun _ h=>.inl h) a0);refine zg ?_
 by_cases h0:(ar r).length=0
 ·rw[if_pos h0]at a4;refine aQ rfl ((decide_eq_false zo)) ?_;have f9:=b6.q6;have d7:=a3.sl;refine zg ?_;refine zv (RV.ld f9 rfl) ?_;refine zvG (K2 (by first|exact d7) IK rfl) ?_
  rcases d5 with _|⟨a,d5⟩
  ·have hM:cI r0=.bad 0 4:=by unfold cI;rw[<-d1,<-a4];rfl
   rw[hM];refine aS rfl rfl ?_;have d':=b6.q2;dsimp only at d';rw[d6]at d';have hb3d:=b6.drew;have hrow3d:=a3.drew;have hR3d:=f3.drew;have hUt3d:=b9.drew;refine J8 8 rfl rfl zk zk ?_;refine zg ?_;refine zw (RV.ld d' rfl) ?_;refine Jm ?_;refine zc J6 (bz O1 w3.drew j rb ({s with pos:=(m:Int)-((ar r).length:Int),ig:=lv,i:=true}:LS) (m:Int) 4 hj he hb3d) ?_;rintro u w7 ⟨b',c5⟩;have a2:=hrow3d.upd c5 a8 (fun e=>a9 e.symm);have e9:=hR3d.upd c5;have e3:=hUt3d.trans (c5.mono (fun _ h=>.inl h) a0);have d9:=KM b';refine zg ?_;refine zv (RV.ld d9 rfl) ?_;refine zc Kk (jv e9 a2 a8 zo) ?_;rintro u w8 ⟨a6,a',e8⟩;have b5:=I9 b' a' hj a9;have d8:=b5.q6;refine zg ?_;refine zv (RV.ld d8 rfl) ?_;refine zc Kj (eE e8 a6 a8 (by rw[dM];omega)) ?_;rintro u w9 ⟨a1,c',e7⟩;have b4:=b5.upd c' hj a9;have a7:=a1.one;refine zg ?_;refine ak (j:=6) b4 rfl (Js _) a7 rfl rfl rfl ?_;have b7:=b4.set 6 u;have a5:IQ (fun k=>k=j) O1 w9 O1 (w9.setCell ⟨rb,6,none⟩ u):=IL (fun e=>hj e.symm) b4.tag rfl;have e1:=((e3.trans (a'.mono (fun _ h=>.inr h) a0)).trans (c'.mono (fun _ h=>.inr h) a0)).trans (a5.mono (fun _ h=>.inl h) a0);refine zg ?_;exact aD rfl ⟨O1,u,_,(m:Int),4,e1,e7.upd a5,b7,⟨rfl,by decide,by simp⟩⟩
  have hM:cI r0=.ok (JS (gm (a::d5))):=by unfold cI;rw[<-d1,<-a4];rfl
  rw[hM];refine aQ rfl ((beq_eq_false_iff_ne.2 (by simp;omega))) ?_;have d9:=KM b6;refine zg ?_;refine zv (RV.ld d9 rfl) ?_;refine zc Kk (jv f3 a3 a8 zo) ?_;rintro u w8 ⟨a6,a',e8⟩;have b5:=I9 b6 a' hj a9;have d8:=b5.q6;refine zg ?_;refine zv (RV.ld d8 rfl) ?_;refine zc Kj (eE e8 a6 a8 (by rw[dM];omega)) ?_;rintro u w9 ⟨a1,c',e7⟩;have b4:=b5.upd c' hj a9;have a7:=a1.one;refine zg ?_;refine ak (j:=6) b4 rfl (Js _) a7 rfl rfl rfl ?_;have b7:=b4.set 6 u;have a5:IQ (fun k=>k=j) O1 w9 O1 (w9.setCell ⟨rb,6,none⟩ u):=IL (fun e=>hj e.symm) b4.tag rfl;have e1:=((b9.trans (a'.mono (fun _ h=>.inr h) a0)).trans (c'.mono (fun _ h=>.inr h) a0)).trans (a5.mono (fun _ h=>.inl h) a0);refine zg ?_;exact aD rfl ⟨O1,u,_,_,_,e1,e7.upd a5,b7,⟨he,a1.upd a5 a8 (fun e=>a9 e.symm)⟩⟩
 rw[if_neg h0]at a4;refine aS rfl ((decide_eq_true zo)) ?_;have f':=b6.q1;have b0:=(aZ r).trans b2;refine zg ?_;refine zvG (RV.ld f' rfl) ?_;refine zc Ke (gq O1 w3 j rb ({s with pos:=(m:Int)-((ar r).length:Int),ig:=lv,i:=true}:LS) m (ar r) hj hm hl d6 b0 rfl b6) ?_;rintro v w4 ⟨rfl,g3,e5⟩;have c7:=a3.upd e5 a8 (fun e=>a9 e.symm);have g6:=f3.upd e5;have e4:=b9.trans (e5.mono (fun _ h=>.inl h) a0);refine zg ?_;refine zc call112 (ij ((ar r).takeWhile ai) w4) ?_;rintro v w5 ⟨rfl,g8⟩;have d4:IQ (fun _=>False) O1 w4 O1 w5:=aa (fun h=>h) O1 g8;have d3:=g3.upd d4 hj (fun h=>h);have c6:=c7.upd d4 a8 (fun h=>h);have e':=g6.upd d4;have b8:=e4.trans (d4.mono (fun _ h=>h.elim) a0);refine zg ?_;refine zvG (cF rfl rfl) ?_
 by_cases c9:(ar r).takeWhile ai=[]
 ·rw[if_pos c9]at a4;have hM:cI r0=.bad (ar r).length 4:=by unfold cI;rw[<-d1,<-a4];rfl
  rw[hM];refine zTG rfl ((by simpa using c9)) ?_;refine zc J6 (bz O1 w5 j rb ({s with pos:=(m:Int)-(((ar r).dropWhile ai).length:Int),ig:=lv,i:=true}:LS) ((m:Int)-((ar r).length:Int)) 4 hj he d3) ?_;rintro u w6 ⟨e0,d0⟩;refine zg ?_;exact bR rfl ⟨O1,lv,_,_,_,b8.trans (d0.mono (fun _ h=>.inl h) a0),e'.upd d0,e0,rfl,by decide,rfl⟩
 rw[if_neg c9]at a4;have g9:=ry c9;refine zFG rfl ((by simpa using c9)) ?_
 cases b3:Aj ((ar r).takeWhile ai)with
 |none=>
  rw[b3]at a4;have hM:cI r0=.bad (ar r).length 5:=by unfold cI;rw[<-d1,<-a4];rfl
  rw[hM];refine zTG rfl rfl ?_;refine zc J6 (bz O1 w5 j rb ({s with pos:=(m:Int)-(((ar r).dropWhile ai).length:Int),ig:=lv,i:=true}:LS) ((m:Int)-((ar r).length:Int)) 5 hj he d3) ?_;rintro u w6 ⟨e0,d0⟩;refine zg ?_;exact bR rfl ⟨O1,lv,_,_,_,b8.trans (d0.mono (fun _ h=>.inl h) a0),e'.upd d0,e0,rfl,by decide,rfl⟩
 |some c=>
  rw[b3]at a4;dsimp only at a4;have g0:Df ((ar r).takeWhile ai)=(c:Int):=by unfold Df;rw[b3]
  rw[g0];refine aQ rfl rfl ?_;have f8:=d3.q6;refine zg ?_;refine zvG (RV.ld f8 rfl) ?_;refine KT Io c6 e' ((c:Int)) (fun _=>rfl) rfl rfl rfl (by simp[IN,encI]) zo zo zo zd rfl rfl ?_;intro d2 w7 O7 a2 c5 e9;have c8:=a2.one;have b':=d3.upd c5 hj a9;refine zg ?_;refine ak (j:=6) b' rfl (Js _) c8 rfl rfl rfl ?_;have b5:=b'.set 6 d2;have a':IQ (fun k=>k=j) O7 w7 O7 (w7.setCell ⟨rb,6,none⟩ d2):=IL (fun e=>hj e.symm) b'.tag rfl;have e2:=(b8.trans (c5.mono (fun _ h=>.inr h) a0)).trans (a'.mono (fun _ h=>.inl h) a0);refine zg ?_;refine zxd (n,d5++[(c:Int)],(ar r).dropWhile ai,O7,(w7.setCell ⟨rb,6,none⟩ d2),d2) (⟨b5,a2.upd a' a8 (fun e=>a9 e.symm),(I1 _).trans b0,a4,by dsimp only;omega,by simp;omega,e2,e9.upd a'⟩)
theorem sC(B:Nat)(O:Nat->Nat)(w:ln)(j ji rb:Nat)(s:LS)(m:Nat)(r0:List UInt8)(hR:JA B O w)(hj:j≠0)(a8:ji≠0)(a9:j≠ji)(hm:m<=s.l.length)(hl:s.l.length<=100000)(d6:s.to=(m:Int))(he:s.e=0)(g1:s.k=false)(g2:s.kp=rh)
  (hr:r0 <:+ s.l.take m) (hp:s.pos=(m:Int)-(r0.length:Int)) (h:K1 O w j rb s) :
  Jl IR 79 [nP rb,.pointer (some ⟨rb,7,none⟩),.pointer (some ⟨rb,11,none⟩)] w fun _ w'=>∃O' lv pos bad e,IQ (fun k=>k=j\/k=ji) O w O' w'/\JA B O' w'/\K1 O' w' j rb {s with pos:=pos,bad:=bad,e:=e,kp:=lv,k:=true}/\Gu m w' O' ji lv bad e (cI r0):=by
 have a0:¬(fun q:Nat=>q=j\/q=ji) 0:=fun e=>by rcases e with e|e;exact hj e.symm;exact a8 e.symm
 have h1:r0.length<=m:=by have:=hr.length_le;simp at this;omega
 have q0:=h.q11;rw[g1]at q0;refine I2 Kw Kh rfl rfl ?_;refine zg ?_;refine zvG (RV.ld q0 rfl) ?_;refine zFG rfl rfl ?_;refine ak (j:=11) h rfl (JY _) rfl rfl rfl rfl ?_;have g4:K1 O (w.setCell ⟨rb,11,none⟩ (.bool true)) j rb {s with k:=true}:=KF h 11 _;have f6:IQ (fun k=>k=j) O w O (w.setCell ⟨rb,11,none⟩ (.bool true)):=IL (fun e=>hj e.symm) h.tag rfl;have g7:=hR.upd f6;generalize w.setCell ⟨rb,11,none⟩ (.bool true)=w1 at *;obtain⟨M,d1⟩:∃M,M=eZ (r0.length+1) [] r0:=⟨_,rfl⟩
 refine zg ?_;refine zlp (fun y:Nat×List Int×List UInt8×(Nat->Nat)×World×I3=>[(0,nP rb),(1,.pointer (some ⟨rb,7,none⟩))]) (fun y=>y.2.2.2.2.1) (fun y=>K1 y.2.2.2.1 y.2.2.2.2.1 j rb {s with pos:=(m:Int)-(y.2.2.1.length:Int),kp:=y.2.2.2.2.2,k:=true}/\Ky encI 3 1 y.2.2.2.1 y.2.2.2.2.1 ji y.2.2.2.2.2 y.2.1/\y.2.2.1 <:+ s.l.take m/\eZ y.1 y.2.1 y.2.2.1=M/\y.2.2.1.length<y.1/\y.2.1.length+y.2.2.1.length<=r0.length/\IQ (fun k=>k=j\/k=ji) O w y.2.2.2.1 y.2.2.2.2.1/\JA B y.2.2.2.1 y.2.2.2.2.1) (fun y=>y.1) (r0.length+1,[],r0,O,w1,rh) (⟨by dsimp only;rw[<-hp,<-g2];exact g4,Jv _ _ _ _ _ _,hr,d1.symm,Ka _,by simp,f6.mono (fun _ h=>.inl h) a0,g7⟩) ?_
 rintro⟨n,d5,r,O1,w2,lv⟩ ⟨f4,b1,b2,a4,hn,g5,f5,f7⟩;dsimp only at f4 b1 b2 a4 hn g5 f5 f7 ⊢;obtain⟨n,rfl⟩:∃q,n=q+1:=⟨n-1,by omega⟩
 have g':=df r;unfold eZ at a4;refine zg ?_;refine zc JZ (dI O1 w2 j rb ({s with pos:=(m:Int)-((r).length:Int),kp:=lv,k:=true}:LS) m r hj hm hl d6 b2 rfl f4) ?_;rintro v w3 ⟨rfl,b6,e6⟩;have a3:=b1.upd e6 a8 (fun e=>a9 e.symm);have f3:=f7.upd e6;have b9:=f5.trans (e6.mono (fun _ h=>.inl h) a0);refine zg ?_
 by_cases h0:(ar r).length=0
 ·rw[if_pos h0]at a4;refine aQ rfl ((decide_eq_false zo)) ?_;have f9:=b6.q7;have d7:=a3.sl;refine zg ?_;refine zv (RV.ld f9 rfl) ?_;refine zvG (K2 (by first|exact d7) IK rfl) ?_
  rcases d5 with _|⟨a,d5⟩
  ·have hM:cI r0=.bad 0 4:=by unfold cI;rw[<-d1,<-a4];rfl
   rw[hM];refine aS rfl rfl ?_;have d':=b6.q2;dsimp only at d';rw[d6]at d';have hb3d:=b6.drew;have hrow3d:=a3.drew;have hR3d:=f3.drew;have hUt3d:=b9.drew;refine J8 8 rfl rfl zk zk ?_;refine zg ?_;refine zw (RV.ld d' rfl) ?_;refine Jm ?_;refine zc J6 (bz O1 w3.drew j rb ({s with pos:=(m:Int)-((ar r).length:Int),kp:=lv,k:=true}:LS) (m:Int) 4 hj he hb3d) ?_;rintro u w7 ⟨b',c5⟩;have a2:=hrow3d.upd c5 a8 (fun e=>a9 e.symm);have e9:=hR3d.upd c5;have e3:=hUt3d.trans (c5.mono (fun _ h=>.inl h) a0);have d9:=KL b';refine zg ?_;refine zv (RV.ld d9 rfl) ?_;refine zc Kk (jv e9 a2 a8 zo) ?_;rintro u w8 ⟨a6,a',e8⟩;have b5:=I9 b' a' hj a9;have d8:=b5.q7;refine zg ?_;refine zv (RV.ld d8 rfl) ?_;refine zc Kj (eE e8 a6 a8 (by rw[dM];omega)) ?_;rintro u w9 ⟨a1,c',e7⟩;have b4:=b5.upd c' hj a9;have a7:=a1.one;refine zg ?_;refine ak (j:=7) b4 rfl (Js _) a7 rfl rfl rfl ?_;have b7:=b4.set 7 u;have a5:IQ (fun k=>k=j) O1 w9 O1 (w9.setCell ⟨rb,7,none⟩ u):=IL (fun e=>hj e.symm) b4.tag rfl;have e1:=((e3.trans (a'.mono (fun _ h=>.inr h) a0)).trans (c'.mono (fun _ h=>.inr h) a0)).trans (a5.mono (fun _ h=>.inl h) a0);refine zg ?_;exact aD rfl ⟨O1,u,_,(m:Int),4,e1,e7.upd a5,b7,⟨rfl,by decide,by simp⟩⟩
  have hM:cI r0=.ok (JS (gm (a::d5))):=by unfold cI;rw[<-d1,<-a4];rfl
  rw[hM];refine aQ rfl ((beq_eq_false_iff_ne.2 (by simp;omega))) ?_;have d9:=KL b6;refine zg ?_;refine zv (RV.ld d9 rfl) ?_;refine zc Kk (jv f3 a3 a8 zo) ?_;rintro u w8 ⟨a6,a',e8⟩;have b5:=I9 b6 a' hj a9;have d8:=b5.q7;refine zg ?_;refine zv (RV.ld d8 rfl) ?_;refine zc Kj (eE e8 a6 a8 (by rw[dM];omega)) ?_;rintro u w9 ⟨a1,c',e7⟩;have b4:=b5.upd c' hj a9;have a7:=a1.one;refine zg ?_;refine ak (j:=7) b4 rfl (Js _) a7 rfl rfl rfl ?_;have b7:=b4.set 7 u;have a5:IQ (fun k=>k=j) O1 w9 O1 (w9.setCell ⟨rb,7,none⟩ u):=IL (fun e=>hj e.symm) b4.tag rfl;have e1:=((b9.trans (a'.mono (fun _ h=>.inr h) a0)).trans (c'.mono (fun _ h=>.inr h) a0)).trans (a5.mono (fun _ h=>.inl h) a0);refine zg ?_;exact aD rfl ⟨O1,u,_,_,_,e1,e7.upd a5,b7,⟨he,a1.upd a5 a8 (fun e=>a9 e.symm)⟩⟩
 rw[if_neg h0]at a4;refine aS rfl ((decide_eq_true zo)) ?_;have f':=b6.q1;have b0:=(aZ r).trans b2;refine zg ?_;refine zvG (RV.ld f' rfl) ?_;refine zc Ke (gq O1 w3 j rb ({s with pos:=(m:Int)-((ar r).length:Int),kp:=lv,k:=true}:LS) m (ar r) hj hm hl d6 b0 rfl b6) ?_;rintro v w4 ⟨rfl,g3,e5⟩;have c7:=a3.upd e5 a8 (fun e=>a9 e.symm);have g6:=f3.upd e5;have e4:=b9.trans (e5.mono (fun _ h=>.inl h) a0);refine zg ?_;refine zc call112 (ij ((ar r).takeWhile ai) w4) ?_;rintro v w5 ⟨rfl,g8⟩;have d4:IQ (fun _=>False) O1 w4 O1 w5:=aa (fun h=>h) O1 g8;have d3:=g3.upd d4 hj (fun h=>h);have c6:=c7.upd d4 a8 (fun h=>h);have e':=g6.upd d4;have b8:=e4.trans (d4.mono (fun _ h=>h.elim) a0);refine zg ?_;refine zvG (cF rfl rfl) ?_
 by_cases c9:(ar r).takeWhile ai=[]
 ·rw[if_pos c9]at a4;have hM:cI r0=.bad (ar r).length 4:=by unfold cI;rw[<-d1,<-a4];rfl
  rw[hM];refine zTG rfl ((by simpa using c9)) ?_;refine zc J6 (bz O1 w5 j rb ({s with pos:=(m:Int)-(((ar r).dropWhile ai).length:Int),kp:=lv,k:=true}:LS) ((m:Int)-((ar r).length:Int)) 4 hj he d3) ?_;rintro u w6 ⟨e0,d0⟩;refine zg ?_;exact bR rfl ⟨O1,lv,_,_,_,b8.trans (d0.mono (fun _ h=>.inl h) a0),e'.upd d0,e0,rfl,by decide,rfl⟩
 rw[if_neg c9]at a4;have g9:=ry c9;refine zFG rfl ((by simpa using c9)) ?_
 cases b3:Aj ((ar r).takeWhile ai)with
 |none=>
  rw[b3]at a4;have hM:cI r0=.bad (ar r).length 5:=by unfold cI;rw[<-d1,<-a4];rfl
  rw[hM];refine zTG rfl rfl ?_;refine zc J6 (bz O1 w5 j rb ({s with pos:=(m:Int)-(((ar r).dropWhile ai).length:Int),kp:=lv,k:=true}:LS) ((m:Int)-((ar r).length:Int)) 5 hj he d3) ?_;rintro u w6 ⟨e0,d0⟩;refine zg ?_;exact bR rfl ⟨O1,lv,_,_,_,b8.trans (d0.mono (fun _ h=>.inl h) a0),e'.upd d0,e0,rfl,by decide,rfl⟩
 |some c=>
  rw[b3]at a4;dsimp only at a4;have g0:Df ((ar r).takeWhile ai)=(c:Int):=by unfold Df;rw[b3]
  rw[g0];refine aQ rfl rfl ?_;have f8:=d3.q7;refine zg ?_;refine zvG (RV.ld f8 rfl) ?_;refine KT Io c6 e' ((c:Int)) (fun _=>rfl) rfl rfl rfl (by simp[IN,encI]) zo zo zo zd rfl rfl ?_;intro d2 w7 O7 a2 c5 e9;have c8:=a2.one;have b':=d3.upd c5 hj a9;refine zg ?_;refine ak (j:=7) b' rfl (Js _) c8 rfl rfl rfl ?_;have b5:=b'.set 7 d2;have a':IQ (fun k=>k=j) O7 w7 O7 (w7.setCell ⟨rb,7,none⟩ d2):=IL (fun e=>hj e.symm) b'.tag rfl;have e2:=(b8.trans (c5.mono (fun _ h=>.inr h) a0)).trans (a'.mono (fun _ h=>.inl h) a0);refine zg ?_;refine zxd (n,d5++[(c:Int)],(ar r).dropWhile ai,O7,(w7.setCell ⟨rb,7,none⟩ d2),d2) (⟨b5,a2.upd a' a8 (fun e=>a9 e.symm),(I1 _).trans b0,a4,by dsimp only;omega,by simp;omega,e2,e9.upd a'⟩)
structure St where
 ts:List R3
 li:List Int
 lk:List Int
 hi:Bool
 hk:Bool
inductive RS where
 |go (s:St)
 |bad (p:Nat) (e:Int)
 |other
def GC(st:St)(d:Nat):LM->RS
 |.ok l=>.go {st with li:=l,hi:=true}
 |.bad p e=>.bad (d-p) e
def GB(st:St)(d:Nat):LM->RS
 |.ok l=>.go {st with lk:=l,hk:=true}
 |.bad p e=>.bad (d-p) e
def GA(st:St)(d:Nat):LR->RS
 |.ok t=>.go {st with ts:=st.ts++[t]}
 |.bad p e=>.bad (d+p) e
structure Mem(O:Nat->Nat)(w:ln)(jr ji jk:Nat)(s:LS)(st:St):Prop where
 ru:∃xs,Ky cN 122 7 O w jr s.ru xs/\st.ts.length=xs.length/\xs.length<=40/\∀i,i<xs.length->Rt O w (nth st.ts i) (nth xs i)
 ig:Ky encI 3 1 O w ji s.ig st.li
 kp:Ky encI 3 1 O w jk s.kp st.lk
 fi:s.i=st.hi
 fk:s.k=st.hk
 ni:st.hi=false->s.ig=rh
 nk:st.hk=false->s.kp=rh
theorem Mem.upd{S:Nat->Prop}{O O':Nat->Nat}{w w':ln}{jr ji jk:Nat}{s:LS}{st:St}(h:Mem O w jr ji jk s st)(u:IQ S O w O' w')(h1:jr≠0)(h2:ji≠0)(h3:jk≠0)(g1:¬S jr)(g2:¬S ji)(g3:¬S jk):Mem O' w' jr ji jk s st:=by
 obtain⟨⟨xs,a1,a2,a3,a4⟩,b,c,d,e,f,g⟩:=h;exact⟨⟨xs,a1.upd u h1 g1,a2,a3,fun i hi=>(a4 i hi).upd u⟩,b.upd u h2 g2,c.upd u h3 g3,d,e,f,g⟩
theorem Mem.with{O:Nat->Nat}{w:ln}{jr ji jk:Nat}{s s':LS}{st:St}(h:Mem O w jr ji jk s st)(e1:s'.ru=s.ru)(e2:s'.ig=s.ig)(e3:s'.kp=s.kp)(e4:s'.i=s.i)(e5:s'.k=s.k):Mem O w jr ji jk s' st:=by
 obtain⟨a,b,c,d,e,f,g⟩:=h;exact⟨by rw[e1];exact a,by rw[e2];exact b,by rw[e3];exact c,by rw[e4];exact d,by rw[e5];exact e,by rw[e2];exact f,by rw[e3];exact g⟩
section
variable{kn:Kn}
inductive RK where
 |go (kn:Kn) (st:St)
 |bad (p:Nat) (e:Int)
def kP(kn:Kn):RS->RK
 |.go st=>.go kn st
 |.bad p e=>.bad p e
 |.other=>.bad 0 0
def Gk(kn:Kn)(st:St)(d:Nat):ML->RK
 |.ok x=>.go (kn++[x]) st
 |.bad p e=>.bad (d-p) e
def cu(kn:Kn)(st:St)(seg:List UInt8):RK:=
 if(aP seg).length=0 then .go kn st
 else if((aP seg).takeWhile ai==[108,101,116])=true then Gk kn st (bj seg).length (ri kn ((aP seg).dropWhile ai))
 else if((aP seg).takeWhile ai==[105,103,110,111,114,101])=true then
  (if st.hi=true then .bad ((bj seg).length-(aP seg).length) 11 else kP kn (GC st (bj seg).length (cI ((aP seg).dropWhile ai))))
 else if((aP seg).takeWhile ai==[107,101,101,112])=true then
  (if st.hk=true then .bad ((bj seg).length-(aP seg).length) 11 else kP kn (GB st (bj seg).length (cI ((aP seg).dropWhile ai))))
 else kP kn (GA st ((bj seg).length-(aP seg).length) (if st.ts.length=40 then JQ 0 3 else gp kn (aP seg)))
def Gt(B:Nat)(O:Nat->Nat)(w w':ln)(j jr ji jk jm rb:Nat)(s:LS)(fr:Nat)(M:RK):Prop:=
 ∃O' s',IQ (fun k=>k=j\/k=jr\/k=ji\/k=jk\/k=jm) O w O' w'/\JA B O' w'/\K1 O' w' j rb s'/\s'.l=s.l/\
  match M with
  |.go kn' st'=>s'.e=0/\Mem O' w' jr ji jk s' st'/\Mac O' w' jm s'.mc kn'
  |.bad p e=>e≠0/\s'.e=e/\s'.bad=(fr:Int)+(p:Int)
theorem AB{r:List UInt8}{p:Nat}{e:Int}(h:ri kn r=.bad p e):p<=r.length:=by
 have h1:=df r;have h2:=(I1 (l:=ar r) ai).length_le;have h3:=df ((ar r).dropWhile ai);unfold ri at h
 split at h
 ·cases h;omega
 split at h
 ·cases h;omega
 split at h
 ·cases hx:eW kn (ar ((ar r).dropWhile ai)).tail with
  |ok t=>rw[hx]at h;cases h
  |bad q f=>rw[hx]at h;cases h;omega
 cases h;omega
theorem rZ(B:Nat)(O:Nat->Nat)(w:ln)(j jr ji jk jm rb:Nat)(s:LS)(fr to:Nat)(seg:List UInt8)(st:St)(hR:JA B O w)(hj:j≠0)(b7:jr≠0)(b9:ji≠0)(b8:jk≠0)(d0:j≠jr)(c':j≠ji)(c9:j≠jk)(h5:jr≠ji)(h4:jr≠jk)(h3:ji≠jk)(b3:jm≠0)(c6:j≠jm)(g3:jr≠jm)(g':ji≠jm)(e7:jk≠jm)(g5:kn.length<=100000)(j0:fr<=to)(i9:to<=s.l.length)(d4:s.l.length<=100000)(he:s.e=0) 
  (f9:(s.l.take to).drop fr=seg) (h':Mem O w jr ji jk s st) (i1:Mac O w jm s.mc kn) (h:K1 O w j rb s) :
  Jl IR 45 [nP rb,nI fr,nI to] w fun _ w'=>Gt B O w w' j jr ji jk jm rb s fr (cu kn st seg):=by
 have b':¬(fun q:Nat=>q=j\/q=jr\/q=ji\/q=jk\/q=jm) 0:=fun e=>by rcases e with e|e|e|e|e;exact hj e.symm;exact b7 e.symm;exact b9 e.symm;exact b8 e.symm;exact b3 e.symm
 have h7:¬(fun q:Nat=>q=j) 0:=fun e=>hj e.symm
 have i':seg.length=to-fr:=by rw[<-f9];simp;omega
 have j8:(aP seg).length<=(bj seg).length:=df _;have j9:(bj seg).length<=seg.length:=(J4 (l:=seg) _).length_le;obtain⟨m,i0⟩:∃m,m=fr+(bj seg).length:=⟨_,rfl⟩
 have d3:m<=s.l.length:=zo;have g7:(s.l.take m).drop fr=bj seg:=by
  have h1:bj seg=seg.take (bj seg).length:=List.prefix_iff_eq_take.1 (J4 _);have h2:(seg.take (bj seg).length)=(s.l.take m).drop fr:=by
   conv=>lhs;arg 2;rw[<-f9]
   rw[List.take_drop,List.take_take,Nat.min_eq_left zo,i0]
  rw[<-h2,<-h1]
 have d5:bj seg <:+ s.l.take m:=by rw[<-g7];exact List.drop_suffix _ _
 have b1:aP seg <:+ s.l.take m:=(aZ _).trans d5;have f6:(fr:Int)=(m:Int)-((bj seg).length:Int):=zo;have g6:(m:Int)-((ar (bj seg)).length:Int)=((m-(aP seg).length:Nat):Int):=by
  have:(ar (bj seg)).length=(aP seg).length:=rfl;omega
 refine I2 func45 ntmps45 rfl rfl ?_;refine zh ?_
 refine ak (j:=1) h rfl (Ja _) rfl rfl rfl rfl ?_;have i4:=h.s_pos (fr:Int);have j4:IQ (fun k=>k=j) O w O (w.setCell ⟨rb,1,none⟩ (nI (fr:Int))):=IL h7 h.tag rfl;refine zh ?_
 refine ak (j:=2) i4 rfl (Ja _) rfl rfl rfl rfl ?_;have g8:=i4.s_to (to:Int);have j3:IQ (fun k=>k=j) O (w.setCell ⟨rb,1,none⟩ (nI (fr:Int))) O ((w.setCell ⟨rb,1,none⟩ (nI (fr:Int))).setCell ⟨rb,2,none⟩ (nI (to:Int))):=IL h7 i4.tag rfl;have e6:=j4.trans j3;have f7:=h'.upd e6 b7 b9 b8 (fun e=>d0 e.symm) (fun e=>c' e.symm) (fun e=>c9 e.symm);have f8:=i1.upd e6 b3 (fun e=>c6 e.symm);have i8:=hR.upd e6;generalize (w.setCell ⟨rb,1,none⟩ (nI (fr:Int))).setCell ⟨rb,2,none⟩ (nI (to:Int))=w2 at *;refine zh ?_
 refine zvH (RV.ld g8.q0 rfl) ?_;refine zv (cK IV rfl rfl rfl fr to rfl rfl j0 i9) ?_
 rw[show({s with pos:=(fr:Int),to:=(to:Int)}:LS).l=s.l from rfl,f9];refine zc call44 (du seg 35 w2) ?_;rintro v w9 ⟨rfl,i7⟩;rw[i7];clear i7 w9
 cases hf:seg.findIdx? (· == 35)with
 |none=>
  have hi:rj seg 35 = -1:=by unfold rj;rw[hf]
  have i2:=yK hf;rw[hi];obtain rfl:m=to:=by rw[i0,i2,i'];omega
  refine zh ?_;refine aQ rfl rfl ?_
  have d':=f7;have e2:=f8;have i6:=i8;have g1:=e6.mono (S':=fun k=>k=j\/k=jr\/k=ji\/k=jk\/k=jm) (fun _ h=>.inl h) b';refine zh ?_;refine zc JZ (dI O w2 j rb ({s with pos:=(fr:Int),to:=(m:Int)}:LS) m (bj seg) hj d3 d4 rfl d5 f6 g8) ?_;rintro v w4 ⟨rfl,e4,f4⟩;have c7:=d'.upd f4 b7 b9 b8 (fun e=>d0 e.symm) (fun e=>c' e.symm) (fun e=>c9 e.symm);have c8:=e2.upd f4 b3 (fun e=>c6 e.symm);have g9:=i6.upd f4;have e5:=g1.trans (f4.mono (fun _ h=>.inl h) b');refine zh ?_
  by_cases h0:(aP seg).length=0
  ·have hM:cu kn st seg=.go kn st:=by unfold cu;rw[if_pos h0]
   rw[hM];refine zTH rfl ((by have d2:(ar (bj seg)).length=0:=h0;simp[d2])) ?_;exact bR rfl ⟨O,_,e5,g9,e4,rfl,he,c7.with rfl rfl rfl rfl rfl,c8⟩
  have d2:(ar (bj seg)).length=(aP seg).length:=rfl;refine zFH rfl ((by rw[d2,decide_eq_true zo];rfl)) ?_;refine zvH (RV.ld e4.q1 rfl) ?_;refine ak (j:=3) e4 rfl (Ja _) rfl rfl rfl rfl ?_;have i3:=e4.s_bg ((m:Int)-((ar (bj seg)).length:Int));have f3:IQ (fun k=>k=j) O w4 O (w4.setCell ⟨rb,3,none⟩ (nI ((m:Int)-((ar (bj seg)).length:Int)))):=IL (fun e=>hj e.symm) e4.tag rfl;have d9:=c7.upd f3 b7 b9 b8 (fun e=>d0 e.symm) (fun e=>c' e.symm) (fun e=>c9 e.symm);have e1:=c8.upd f3 b3 (fun e=>c6 e.symm);have i5:=g9.upd f3;have g0:=e5.trans (f3.mono (fun _ h=>.inl h) b');generalize w4.setCell ⟨rb,3,none⟩ (nI ((m:Int)-((ar (bj seg)).length:Int)))=w5 at *;refine zh ?_;refine zc Ke (gq O w5 j rb ({s with pos:=((m:Int)-((ar (bj seg)).length:Int)),to:=(m:Int),bg:=((m:Int)-((ar (bj seg)).length:Int))}:LS) m (aP seg) hj d3 d4 rfl b1 rfl i3) ?_;rintro v w6 ⟨rfl,e8,e9⟩;have a8:=d9.upd e9 b7 b9 b8 (fun e=>d0 e.symm) (fun e=>c' e.symm) (fun e=>c9 e.symm);have a9:=e1.upd e9 b3 (fun e=>c6 e.symm);have f5:=i5.upd e9;have c5:=g0.trans (e9.mono (fun _ h=>.inl h) b');have j1:=(I1 (l:=aP seg) ai).length_le;refine zh ?_;refine zvH (cF rfl rfl) ?_
  cases d1:((aP seg).takeWhile ai==[108,101,116])with
  |true=>
   have hM:cu kn st seg=Gk kn st (bj seg).length (ri kn ((aP seg).dropWhile ai)):=by unfold cu;rw[if_neg h0,if_pos d1]
   rw[hM];refine zTH rfl rfl ?_;refine zc call78 (AA B O w6 j jm rb ({s with pos:=(m:Int)-(((aP seg).dropWhile ai).length:Int),to:=(m:Int),bg:=((m:Int)-((ar (bj seg)).length:Int))}:LS) m ((aP seg).dropWhile ai) f5 hj b3 c6 d3 d4 rfl he ((I1 _).trans b1) rfl g5 a9 e8) ?_;rintro u w7 ⟨O7,v7,pos,bad,e,a0,b6,b0,a6⟩;have a5:=c5.trans (a0.mono (S':=fun k=>k=j\/k=jr\/k=ji\/k=jk\/k=jm) (fun _ h=>by rcases h with h|h;exact .inl h;exact .inr (.inr (.inr (.inr h)))) b');have d8:=a8.upd a0 b7 b9 b8 (fun h=>by rcases h with h|h;exact d0 h.symm;exact g3 h) (fun h=>by rcases h with h|h;exact c' h.symm;exact g' h) (fun h=>by rcases h with h|h;exact c9 h.symm;exact e7 h);refine zh ?_
   cases hq:ri kn ((aP seg).dropWhile ai)with
   |ok x=>
    rw[hq]at a6;obtain⟨b5,e0⟩:=a6;exact aD rfl ⟨O7,_,a5,b6,b0,rfl,b5,d8.with rfl rfl rfl rfl rfl,e0⟩
   |bad p e'=>
    rw[hq]at a6;obtain⟨b5,b2,a'⟩:=a6;have d7:=AB hq;exact aD rfl ⟨O7,_,a5,b6,b0,rfl,b2,b5,by dsimp only;rw[a'];omega⟩
  |false=>
  refine zFH rfl rfl ?_;refine zvH (cF rfl rfl) ?_
  cases e3:((aP seg).takeWhile ai==[105,103,110,111,114,101])with
  |true=>
   refine aS rfl rfl ?_;have hb6d:=e8.drew;have hmem6d:=a8.upd (aa (S:=fun _=>False) (fun h=>h) O (IP w6).drew) b7 b9 b8 (fun h=>h) (fun h=>h) (fun h=>h);have hmac6d:=a9.upd (aa (S:=fun _=>False) (fun h=>h) O (IP w6).drew) b3 (fun h=>h);have hR6d:=f5.drew;have hUt6d:=c5.drew;refine J8 8 rfl rfl zk zk ?_
   refine zh ?_;refine Jm ?_
   cases b4:st.hi with
   |true=>
    have hM:cu kn st seg=.bad ((bj seg).length-(aP seg).length) 11:=by unfold cu;rw[if_neg h0,if_neg (by rw[d1];decide),if_pos e3,if_pos b4]
    rw[hM];refine zc Jy (oQ O w6.drew j rb ({s with pos:=(m:Int)-(((aP seg).dropWhile ai).length:Int),to:=(m:Int),bg:=((m:Int)-((ar (bj seg)).length:Int))}:LS) hj he (hmem6d.fi.trans b4) hb6d) ?_;rintro u w7 ⟨b0,a0⟩;refine zh ?_;exact aD rfl ⟨O,_,hUt6d.trans (a0.mono (fun _ h=>.inl h) b'),hR6d.upd a0,b0,rfl,zd,rfl,by dsimp only;rw[d2];omega⟩
   |false=>
    have hM:cu kn st seg=kP kn (GC st (bj seg).length (cI ((aP seg).dropWhile ai))):=by unfold cu;rw[if_neg h0,if_neg (by rw[d1];decide),if_pos e3,if_neg (by rw[b4];decide)]
    rw[hM];refine zc Jy (sD B O w6.drew j ji rb ({s with pos:=(m:Int)-(((aP seg).dropWhile ai).length:Int),to:=(m:Int),bg:=((m:Int)-((ar (bj seg)).length:Int))}:LS) m ((aP seg).dropWhile ai) hR6d hj b9 c' d3 d4 rfl he (hmem6d.fi.trans b4) (hmem6d.ni b4) ((I1 _).trans b1) rfl hb6d) ?_;rintro u w7 ⟨O7,lv,pos,bad,e,a0,b6,b0,a6⟩;have a5:=hUt6d.trans (a0.mono (S':=fun k=>k=j\/k=jr\/k=ji\/k=jk\/k=jm) (fun _ h=>by rcases h with h|h;exact .inl h;exact .inr (.inr (.inl h))) b');refine zh ?_
    cases hq:cI ((aP seg).dropWhile ai)with
    |ok l=>
     rw[hq]at a6;obtain⟨b5,a7⟩:=a6;obtain⟨⟨xs,a1,a2,a3,a4⟩,mb,mc,md,me,mf,mg⟩:=hmem6d;exact aD rfl ⟨O7,_,a5,b6,b0,rfl,b5,⟨⟨xs,a1.upd a0 b7 (fun h=>by rcases h with h|h;exact d0 h.symm;exact h5 h),a2,a3,fun i hi=>(a4 i hi).upd a0⟩,a7,mc.upd a0 b8 (fun h=>by rcases h with h|h;exact c9 h.symm;exact h3 h.symm),rfl,me,(fun h=>by cases h),mg⟩,hmac6d.upd a0 b3 (fun h=>by rcases h with h|h;exact c6 h.symm;exact g' h.symm)⟩
    |bad p e'=>
     rw[hq]at a6;obtain⟨b5,b2,a'⟩:=a6;have d7:=mo hq;exact aD rfl ⟨O7,_,a5,b6,b0,rfl,b2,b5,by dsimp only;rw[a'];omega⟩
  |false=>
   refine zFH rfl rfl ?_;refine zvH (cF rfl rfl) ?_
   cases f':((aP seg).takeWhile ai==[107,101,101,112])with
   |true=>
    refine aS rfl rfl ?_;have hb6d:=e8.drew;have hmem6d:=a8.upd (aa (S:=fun _=>False) (fun h=>h) O (IP w6).drew) b7 b9 b8 (fun h=>h) (fun h=>h) (fun h=>h);have hmac6d:=a9.upd (aa (S:=fun _=>False) (fun h=>h) O (IP w6).drew) b3 (fun h=>h);have hR6d:=f5.drew;have hUt6d:=c5.drew;refine J8 8 rfl rfl zk zk ?_
    refine zh ?_;refine Jm ?_
    cases b4:st.hk with
    |true=>
     have hM:cu kn st seg=.bad ((bj seg).length-(aP seg).length) 11:=by unfold cu;rw[if_neg h0,if_neg (by rw[d1];decide),if_neg (by rw[e3];decide),if_pos f',if_pos b4]
     rw[hM];refine zc Jy (oP O w6.drew j rb ({s with pos:=(m:Int)-(((aP seg).dropWhile ai).length:Int),to:=(m:Int),bg:=((m:Int)-((ar (bj seg)).length:Int))}:LS) hj he (hmem6d.fk.trans b4) hb6d) ?_;rintro u w7 ⟨b0,a0⟩;refine zh ?_;exact aD rfl ⟨O,_,hUt6d.trans (a0.mono (fun _ h=>.inl h) b'),hR6d.upd a0,b0,rfl,zd,rfl,by dsimp only;rw[d2];omega⟩
    |false=>
     have hM:cu kn st seg=kP kn (GB st (bj seg).length (cI ((aP seg).dropWhile ai))):=by unfold cu;rw[if_neg h0,if_neg (by rw[d1];decide),if_neg (by rw[e3];decide),if_pos f',if_neg (by rw[b4];decide)]
     rw[hM];refine zc Jy (sC B O w6.drew j jk rb ({s with pos:=(m:Int)-(((aP seg).dropWhile ai).length:Int),to:=(m:Int),bg:=((m:Int)-((ar (bj seg)).length:Int))}:LS) m ((aP seg).dropWhile ai) hR6d hj b8 c9 d3 d4 rfl he (hmem6d.fk.trans b4) (hmem6d.nk b4) ((I1 _).trans b1) rfl hb6d) ?_;rintro u w7 ⟨O7,lv,pos,bad,e,a0,b6,b0,a6⟩;have a5:=hUt6d.trans (a0.mono (S':=fun k=>k=j\/k=jr\/k=ji\/k=jk\/k=jm) (fun _ h=>by rcases h with h|h;exact .inl h;exact .inr (.inr (.inr (.inl h)))) b');refine zh ?_
     cases hq:cI ((aP seg).dropWhile ai)with
     |ok l=>
      rw[hq]at a6;obtain⟨b5,a7⟩:=a6;obtain⟨⟨xs,a1,a2,a3,a4⟩,mb,mc,md,me,mf,mg⟩:=hmem6d;exact aD rfl ⟨O7,_,a5,b6,b0,rfl,b5,⟨⟨xs,a1.upd a0 b7 (fun h=>by rcases h with h|h;exact d0 h.symm;exact h4 h),a2,a3,fun i hi=>(a4 i hi).upd a0⟩,mb.upd a0 b9 (fun h=>by rcases h with h|h;exact c' h.symm;exact h3 h),a7,md,rfl,mf,(fun h=>by cases h)⟩,hmac6d.upd a0 b3 (fun h=>by rcases h with h|h;exact c6 h.symm;exact e7 h.symm)⟩
     |bad p e'=>
      rw[hq]at a6;obtain⟨b5,b2,a'⟩:=a6;have d7:=mo hq;exact aD rfl ⟨O7,_,a5,b6,b0,rfl,b2,b5,by dsimp only;rw[a'];omega⟩
   |false=>
    have hM:cu kn st seg=kP kn (GA st ((bj seg).length-(aP seg).length) (if st.ts.length=40 then JQ 0 3 else gp kn (aP seg))):=by unfold cu;rw[if_neg h0,if_neg (by rw[d1];decide),if_neg (by rw[e3];decide),if_neg (by rw[f'];decide)]
    refine aQ rfl rfl ?_;obtain⟨xs,d6,g4,h9,h8⟩:=a8.ru;refine zh ?_
    refine zc call80 (rW B O w6 j jr rb ({s with pos:=(m:Int)-(((aP seg).dropWhile ai).length:Int),to:=(m:Int),bg:=((m:Int)-((ar (bj seg)).length:Int))}:LS) m (aP seg) xs f5 hj b7 d0 d3 d4 rfl g6 he b3 c6 g3 a9 b1 d6 h9 e8) ?_;rintro v w7 ⟨O7,rv,a0,b6,a6⟩;have a5:=c5.trans (a0.mono (S':=fun k=>k=j\/k=jr\/k=ji\/k=jk\/k=jm) (fun _ h=>by rcases h with h|h;exact .inl h;exact .inr (.inl h)) b');refine zh ?_
    rw[hM,g4]
    cases hq:(if xs.length=40 then JQ 0 3 else gp kn (aP seg))with
    |ok t=>
     rw[hq]at a6;obtain⟨x,a7,g2,b0⟩:=a6;have j5:xs.length≠40:=fun e=>by rw[if_pos e]at hq;cases hq
     obtain⟨_,mb,mc,md,me,mf,mg⟩:=a8;obtain⟨q1,q2,q3,q4⟩:=Kp (ts:=st.ts) a7 g4 zo (fun i hi=>(h8 i hi).upd a0) g2;exact aD rfl ⟨O7,_,a5,b6,b0,rfl,he,⟨⟨xs++[x],q1,q2,q3,q4⟩,mb.upd a0 b9 (fun h=>by rcases h with h|h;exact c' h.symm;exact h5 h.symm),mc.upd a0 b8 (fun h=>by rcases h with h|h;exact c9 h.symm;exact h4 h.symm),md,me,mf,mg⟩,a9.upd a0 b3 (fun h=>by rcases h with h|h;exact c6 h.symm;exact g3 h.symm)⟩
    |bad p e=>
     rw[hq]at a6;obtain⟨b2,b0⟩:=a6;exact aD rfl ⟨O7,_,a5,b6,b0,rfl,b2,rfl,by dsimp only;rw[d2];omega⟩
 |some k=>
  have hi:rj seg 35=(k:Nat):=by unfold rj;rw[hf]
  obtain⟨i2,j7⟩:=yJ hf;rw[hi];have j6:m=fr+k:=by rw[i0,i2];simp;omega
  refine zh ?_;refine zTH rfl ((decide_eq_true zo)) ?_
  refine ak (j:=2) g8 rfl (Ja _) rfl rfl rfl rfl ?_;rw[show(fr:Int)+((k:Nat):Int)=(m:Int)from by omega];have j2:=g8.s_to (m:Int);have h6:IQ (fun k=>k=j) O w2 O (w2.setCell ⟨rb,2,none⟩ (nI (m:Int))):=IL h7 g8.tag rfl;have d':=f7.upd h6 b7 b9 b8 (fun e=>d0 e.symm) (fun e=>c' e.symm) (fun e=>c9 e.symm);have e2:=f8.upd h6 b3 (fun e=>c6 e.symm);have i6:=i8.upd h6;have g1:=(e6.trans h6).mono (S':=fun k=>k=j\/k=jr\/k=ji\/k=jk\/k=jm) (fun _ h=>.inl h) b';generalize w2.setCell ⟨rb,2,none⟩ (nI (m:Int))=w3 at *;refine zh ?_
  refine zc JZ (dI O w3 j rb ({s with pos:=(fr:Int),to:=(m:Int)}:LS) m (bj seg) hj d3 d4 rfl d5 f6 j2) ?_;rintro v w4 ⟨rfl,e4,f4⟩;have c7:=d'.upd f4 b7 b9 b8 (fun e=>d0 e.symm) (fun e=>c' e.symm) (fun e=>c9 e.symm);have c8:=e2.upd f4 b3 (fun e=>c6 e.symm);have g9:=i6.upd f4;have e5:=g1.trans (f4.mono (fun _ h=>.inl h) b');refine zh ?_
  by_cases h0:(aP seg).length=0
  ·have hM:cu kn st seg=.go kn st:=by unfold cu;rw[if_pos h0]
   rw[hM];refine zTH rfl ((by have d2:(ar (bj seg)).length=0:=h0;simp[d2])) ?_;exact bR rfl ⟨O,_,e5,g9,e4,rfl,he,c7.with rfl rfl rfl rfl rfl,c8⟩
  have d2:(ar (bj seg)).length=(aP seg).length:=rfl;refine zFH rfl ((by rw[d2,decide_eq_true zo];rfl)) ?_;refine zvH (RV.ld e4.q1 rfl) ?_;refine ak (j:=3) e4 rfl (Ja _) rfl rfl rfl rfl ?_;have i3:=e4.s_bg ((m:Int)-((ar (bj seg)).length:Int));have f3:IQ (fun k=>k=j) O w4 O (w4.setCell ⟨rb,3,none⟩ (nI ((m:Int)-((ar (bj seg)).length:Int)))):=IL (fun e=>hj e.symm) e4.tag rfl;have d9:=c7.upd f3 b7 b9 b8 (fun e=>d0 e.symm) (fun e=>c' e.symm) (fun e=>c9 e.symm);have e1:=c8.upd f3 b3 (fun e=>c6 e.symm);have i5:=g9.upd f3;have g0:=e5.trans (f3.mono (fun _ h=>.inl h) b');generalize w4.setCell ⟨rb,3,none⟩ (nI ((m:Int)-((ar (bj seg)).length:Int)))=w5 at *;refine zh ?_;refine zc Ke (gq O w5 j rb ({s with pos:=((m:Int)-((ar (bj seg)).length:Int)),to:=(m:Int),bg:=((m:Int)-((ar (bj seg)).length:Int))}:LS) m (aP seg) hj d3 d4 rfl b1 rfl i3) ?_;rintro v w6 ⟨rfl,e8,e9⟩;have a8:=d9.upd e9 b7 b9 b8 (fun e=>d0 e.symm) (fun e=>c' e.symm) (fun e=>c9 e.symm);have a9:=e1.upd e9 b3 (fun e=>c6 e.symm);have f5:=i5.upd e9;have c5:=g0.trans (e9.mono (fun _ h=>.inl h) b');have j1:=(I1 (l:=aP seg) ai).length_le;refine zh ?_;refine zvH (cF rfl rfl) ?_
  cases d1:((aP seg).takeWhile ai==[108,101,116])with
  |true=>
   have hM:cu kn st seg=Gk kn st (bj seg).length (ri kn ((aP seg).dropWhile ai)):=by unfold cu;rw[if_neg h0,if_pos d1]
   rw[hM];refine zTH rfl rfl ?_;refine zc call78 (AA B O w6 j jm rb ({s with pos:=(m:Int)-(((aP seg).dropWhile ai).length:Int),to:=(m:Int),bg:=((m:Int)-((ar (bj seg)).length:Int))}:LS) m ((aP seg).dropWhile ai) f5 hj b3 c6 d3 d4 rfl he ((I1 _).trans b1) rfl g5 a9 e8) ?_;rintro u w7 ⟨O7,v7,pos,bad,e,a0,b6,b0,a6⟩;have a5:=c5.trans (a0.mono (S':=fun k=>k=j\/k=jr\/k=ji\/k=jk\/k=jm) (fun _ h=>by rcases h with h|h;exact .inl h;exact .inr (.inr (.inr (.inr h)))) b');have d8:=a8.upd a0 b7 b9 b8 (fun h=>by rcases h with h|h;exact d0 h.symm;exact g3 h) (fun h=>by rcases h with h|h;exact c' h.symm;exact g' h) (fun h=>by rcases h with h|h;exact c9 h.symm;exact e7 h);refine zh ?_
   cases hq:ri kn ((aP seg).dropWhile ai)with
   |ok x=>
    rw[hq]at a6;obtain⟨b5,e0⟩:=a6;exact aD rfl ⟨O7,_,a5,b6,b0,rfl,b5,d8.with rfl rfl rfl rfl rfl,e0⟩
   |bad p e'=>
    rw[hq]at a6;obtain⟨b5,b2,a'⟩:=a6;have d7:=AB hq;exact aD rfl ⟨O7,_,a5,b6,b0,rfl,b2,b5,by dsimp only;rw[a'];omega⟩
  |false=>
  refine zFH rfl rfl ?_;refine zvH (cF rfl rfl) ?_
  cases e3:((aP seg).takeWhile ai==[105,103,110,111,114,101])with
  |true=>
   refine aS rfl rfl ?_;have hb6d:=e8.drew;have hmem6d:=a8.upd (aa (S:=fun _=>False) (fun h=>h) O (IP w6).drew) b7 b9 b8 (fun h=>h) (fun h=>h) (fun h=>h);have hmac6d:=a9.upd (aa (S:=fun _=>False) (fun h=>h) O (IP w6).drew) b3 (fun h=>h);have hR6d:=f5.drew;have hUt6d:=c5.drew;refine J8 8 rfl rfl zk zk ?_
   refine zh ?_;refine Jm ?_
   cases b4:st.hi with
   |true=>
    have hM:cu kn st seg=.bad ((bj seg).length-(aP seg).length) 11:=by unfold cu;rw[if_neg h0,if_neg (by rw[d1];decide),if_pos e3,if_pos b4]
    rw[hM];refine zc Jy (oQ O w6.drew j rb ({s with pos:=(m:Int)-(((aP seg).dropWhile ai).length:Int),to:=(m:Int),bg:=((m:Int)-((ar (bj seg)).length:Int))}:LS) hj he (hmem6d.fi.trans b4) hb6d) ?_;rintro u w7 ⟨b0,a0⟩;refine zh ?_;exact aD rfl ⟨O,_,hUt6d.trans (a0.mono (fun _ h=>.inl h) b'),hR6d.upd a0,b0,rfl,zd,rfl,by dsimp only;rw[d2];omega⟩
   |false=>
    have hM:cu kn st seg=kP kn (GC st (bj seg).length (cI ((aP seg).dropWhile ai))):=by unfold cu;rw[if_neg h0,if_neg (by rw[d1];decide),if_pos e3,if_neg (by rw[b4];decide)]
    rw[hM];refine zc Jy (sD B O w6.drew j ji rb ({s with pos:=(m:Int)-(((aP seg).dropWhile ai).length:Int),to:=(m:Int),bg:=((m:Int)-((ar (bj seg)).length:Int))}:LS) m ((aP seg).dropWhile ai) hR6d hj b9 c' d3 d4 rfl he (hmem6d.fi.trans b4) (hmem6d.ni b4) ((I1 _).trans b1) rfl hb6d) ?_;rintro u w7 ⟨O7,lv,pos,bad,e,a0,b6,b0,a6⟩;have a5:=hUt6d.trans (a0.mono (S':=fun k=>k=j\/k=jr\/k=ji\/k=jk\/k=jm) (fun _ h=>by rcases h with h|h;exact .inl h;exact .inr (.inr (.inl h))) b');refine zh ?_
    cases hq:cI ((aP seg).dropWhile ai)with
    |ok l=>
     rw[hq]at a6;obtain⟨b5,a7⟩:=a6;obtain⟨⟨xs,a1,a2,a3,a4⟩,mb,mc,md,me,mf,mg⟩:=hmem6d;exact aD rfl ⟨O7,_,a5,b6,b0,rfl,b5,⟨⟨xs,a1.upd a0 b7 (fun h=>by rcases h with h|h;exact d0 h.symm;exact h5 h),a2,a3,fun i hi=>(a4 i hi).upd a0⟩,a7,mc.upd a0 b8 (fun h=>by rcases h with h|h;exact c9 h.symm;exact h3 h.symm),rfl,me,(fun h=>by cases h),mg⟩,hmac6d.upd a0 b3 (fun h=>by rcases h with h|h;exact c6 h.symm;exact g' h.symm)⟩
    |bad p e'=>
     rw[hq]at a6;obtain⟨b5,b2,a'⟩:=a6;have d7:=mo hq;exact aD rfl ⟨O7,_,a5,b6,b0,rfl,b2,b5,by dsimp only;rw[a'];omega⟩
  |false=>
   refine zFH rfl rfl ?_;refine zvH (cF rfl rfl) ?_
   cases f':((aP seg).takeWhile ai==[107,101,101,112])with
   |true=>
    refine aS rfl rfl ?_;have hb6d:=e8.drew;have hmem6d:=a8.upd (aa (S:=fun _=>False) (fun h=>h) O (IP w6).drew) b7 b9 b8 (fun h=>h) (fun h=>h) (fun h=>h);have hmac6d:=a9.upd (aa (S:=fun _=>False) (fun h=>h) O (IP w6).drew) b3 (fun h=>h);have hR6d:=f5.drew;have hUt6d:=c5.drew;refine J8 8 rfl rfl zk zk ?_
    refine zh ?_;refine Jm ?_
    cases b4:st.hk with
    |true=>
     have hM:cu kn st seg=.bad ((bj seg).length-(aP seg).length) 11:=by unfold cu;rw[if_neg h0,if_neg (by rw[d1];decide),if_neg (by rw[e3];decide),if_pos f',if_pos b4]
     rw[hM];refine zc Jy (oP O w6.drew j rb ({s with pos:=(m:Int)-(((aP seg).dropWhile ai).length:Int),to:=(m:Int),bg:=((m:Int)-((ar (bj seg)).length:Int))}:LS) hj he (hmem6d.fk.trans b4) hb6d) ?_;rintro u w7 ⟨b0,a0⟩;refine zh ?_;exact aD rfl ⟨O,_,hUt6d.trans (a0.mono (fun _ h=>.inl h) b'),hR6d.upd a0,b0,rfl,zd,rfl,by dsimp only;rw[d2];omega⟩
    |false=>
     have hM:cu kn st seg=kP kn (GB st (bj seg).length (cI ((aP seg).dropWhile ai))):=by unfold cu;rw[if_neg h0,if_neg (by rw[d1];decide),if_neg (by rw[e3];decide),if_pos f',if_neg (by rw[b4];decide)]
     rw[hM];refine zc Jy (sC B O w6.drew j jk rb ({s with pos:=(m:Int)-(((aP seg).dropWhile ai).length:Int),to:=(m:Int),bg:=((m:Int)-((ar (bj seg)).length:Int))}:LS) m ((aP seg).dropWhile ai) hR6d hj b8 c9 d3 d4 rfl he (hmem6d.fk.trans b4) (hmem6d.nk b4) ((I1 _).trans b1) rfl hb6d) ?_;rintro u w7 ⟨O7,lv,pos,bad,e,a0,b6,b0,a6⟩;have a5:=hUt6d.trans (a0.mono (S':=fun k=>k=j\/k=jr\/k=ji\/k=jk\/k=jm) (fun _ h=>by rcases h with h|h;exact .inl h;exact .inr (.inr (.inr (.inl h)))) b');refine zh ?_
     cases hq:cI ((aP seg).dropWhile ai)with
     |ok l=>
      rw[hq]at a6;obtain⟨b5,a7⟩:=a6;obtain⟨⟨xs,a1,a2,a3,a4⟩,mb,mc,md,me,mf,mg⟩:=hmem6d;exact aD rfl ⟨O7,_,a5,b6,b0,rfl,b5,⟨⟨xs,a1.upd a0 b7 (fun h=>by rcases h with h|h;exact d0 h.symm;exact h4 h),a2,a3,fun i hi=>(a4 i hi).upd a0⟩,mb.upd a0 b9 (fun h=>by rcases h with h|h;exact c' h.symm;exact h3 h),a7,md,rfl,mf,(fun h=>by cases h)⟩,hmac6d.upd a0 b3 (fun h=>by rcases h with h|h;exact c6 h.symm;exact e7 h.symm)⟩
     |bad p e'=>
      rw[hq]at a6;obtain⟨b5,b2,a'⟩:=a6;have d7:=mo hq;exact aD rfl ⟨O7,_,a5,b6,b0,rfl,b2,b5,by dsimp only;rw[a'];omega⟩
   |false=>
    have hM:cu kn st seg=kP kn (GA st ((bj seg).length-(aP seg).length) (if st.ts.length=40 then JQ 0 3 else gp kn (aP seg))):=by unfold cu;rw[if_neg h0,if_neg (by rw[d1];decide),if_neg (by rw[e3];decide),if_neg (by rw[f'];decide)]
    refine aQ rfl rfl ?_;obtain⟨xs,d6,g4,h9,h8⟩:=a8.ru;refine zh ?_
    refine zc call80 (rW B O w6 j jr rb ({s with pos:=(m:Int)-(((aP seg).dropWhile ai).length:Int),to:=(m:Int),bg:=((m:Int)-((ar (bj seg)).length:Int))}:LS) m (aP seg) xs f5 hj b7 d0 d3 d4 rfl g6 he b3 c6 g3 a9 b1 d6 h9 e8) ?_;rintro v w7 ⟨O7,rv,a0,b6,a6⟩;have a5:=c5.trans (a0.mono (S':=fun k=>k=j\/k=jr\/k=ji\/k=jk\/k=jm) (fun _ h=>by rcases h with h|h;exact .inl h;exact .inr (.inl h)) b');refine zh ?_
    rw[hM,g4]
    cases hq:(if xs.length=40 then JQ 0 3 else gp kn (aP seg))with
    |ok t=>
     rw[hq]at a6;obtain⟨x,a7,g2,b0⟩:=a6;have j5:xs.length≠40:=fun e=>by rw[if_pos e]at hq;cases hq
     obtain⟨_,mb,mc,md,me,mf,mg⟩:=a8;obtain⟨q1,q2,q3,q4⟩:=Kp (ts:=st.ts) a7 g4 zo (fun i hi=>(h8 i hi).upd a0) g2;exact aD rfl ⟨O7,_,a5,b6,b0,rfl,he,⟨⟨xs++[x],q1,q2,q3,q4⟩,mb.upd a0 b9 (fun h=>by rcases h with h|h;exact c' h.symm;exact h5 h.symm),mc.upd a0 b8 (fun h=>by rcases h with h|h;exact c9 h.symm;exact h4 h.symm),md,me,mf,mg⟩,a9.upd a0 b3 (fun h=>by rcases h with h|h;exact c6 h.symm;exact g3 h.symm)⟩
    |bad p e=>
     rw[hq]at a6;obtain⟨b2,b0⟩:=a6;exact aD rfl ⟨O7,_,a5,b6,b0,rfl,b2,rfl,by dsimp only;rw[d2];omega⟩
end
inductive TK where
 |ok (st:St)
 |bad (p:Nat) (e:Int)
def lB:Nat->Kn->St->Nat->List UInt8->TK
 |0,_,_,_,_=>.bad 0 3
 |n+1,kn,st,fr,r=>
  match cu kn st (cQ r)with
  |.bad p e=>.bad (fr+p) e
  |.go kn' st'=>if(cQ r).length=r.length then .ok st' else lB n kn' st' (fr+(cQ r).length+1) (r.drop ((cQ r).length+1))
def st0:St:=⟨[],[],[],false,false⟩
def gx(l:List UInt8):TK:=if 4096<l.length then .bad 0 3 else lB (l.length+1) [] st0 0 l
theorem Aa{kn a0:Kn}{st a1:St}{seg:List UInt8}(h:cu kn st seg=.go a0 a1):a0.length<=kn.length+1:=by
 have hl:∀ {R:RS},kP kn R=.go a0 a1->a0.length<=kn.length+1:=fun {R} h=>by
  cases R with
  |go s=>cases h;omega
  |bad p e=>cases h
  |other=>cases h
 unfold cu at h
 split at h
 ·cases h;omega
 split at h
 ·unfold Gk at h
  split at h
  ·cases h;simp
  cases h
 split at h
 ·split at h
  ·cases h
  exact hl h
 split at h
 ·split at h
  ·cases h
  exact hl h
 exact hl h
def LoopK(l:List UInt8)(M:TK)(O:Nat->Nat)(w:ln)(jr ji jk jm:Nat)(n fr:Nat)(kn:Kn)(st:St)(s:LS):Prop:=
 (fr<=l.length/\s.e=0/\l.length-fr<n/\lB n kn st fr (l.drop fr)=M/\Mem O w jr ji jk s st/\Mac O w jm s.mc kn/\kn.length<=fr)\/(fr=l.length+1/\s.e=0/\M=.ok st/\Mem O w jr ji jk s st)\/
 (∃p e,e≠0/\s.e=e/\s.bad=((p:Nat):Int)/\M=.bad p e)
theorem LoopK.next{l:List UInt8}{M:TK}{B j jr ji jk jm rb n fr:Nat}{O:Nat->Nat}{w w':ln}{kn:Kn}{st:St}{s:LS}(a3:fr<=l.length)(hn:l.length-fr<n+1)(hM:lB (n+1) kn st fr (l.drop fr)=M)(a2:kn.length<=fr) 
  (hP:Gt B O w w' j jr ji jk jm rb s fr (cu kn st (cQ (l.drop fr)))) :
  ∃O' s' n' kn' st',IQ (fun k=>k=j\/k=jr\/k=ji\/k=jk\/k=jm) O w O' w'/\JA B O' w'/\K1 O' w' j rb s'/\s'.l=s.l/\n'<n+1/\LoopK l M O' w' jr ji jk jm n' (fr+(cQ (l.drop fr)).length+1) kn' st' s':=by
 obtain⟨O',s',hU,hR,hb,e1,hq⟩:=hP;have a0:(cQ (l.drop fr)).length<=l.length-fr:=by
  have:=(J4 (l:=l.drop fr) (fun b=>!(b==10))).length_le;simpa[cQ]using this
 have a4:(l.drop fr).length=l.length-fr:=by simp
 unfold lB at hM;refine⟨O',s',?_⟩
 cases hr:cu kn st (cQ (l.drop fr))with
 |bad p e=>
  rw[hr]at hq hM;obtain⟨q1,q2,q3⟩:=hq;exact⟨0,kn,st,hU,hR,hb,e1,zo,.inr (.inr ⟨fr+p,e,q1,q2,by rw[q3];simp,hM.symm⟩)⟩
 |go kn' st'=>
  have a1:=Aa hr;rw[hr]at hq hM;dsimp only at hM;obtain⟨q1,q2,q3⟩:=hq
  split at hM
  ·rename_i he;exact⟨0,kn',st',hU,hR,hb,e1,zo,.inr (.inl ⟨zo,q1,hM.symm,q2⟩)⟩
  rename_i he;exact⟨n,kn',st',hU,hR,hb,e1,zo,.inl ⟨zo,q1,zo,by rw[<-hM,List.drop_drop,Nat.add_assoc],q2,q3,zo⟩⟩
def Gq(w:ln)(v:I3):TK->Prop
 |.ok st=>∃tv,v=.tuple #[tv,nI 0,nI 0]/\Tx w tv st.li st.lk st.ts
 |.bad p e=>v=.tuple #[FS rh rh rh,nI (p:Int),nI e]/\e≠0
theorem Mem.tx{O:Nat->Nat}{w:ln}{jr ji jk:Nat}{s:LS}{st:St}(h:Mem O w jr ji jk s st):Tx w (FS s.ig s.kp s.ru) st.li st.lk st.ts:=by
 obtain⟨xs,a1,a2,a3,a4⟩:=h.ru;exact⟨s.ig,s.kp,s.ru,xs,rfl,h.ig.sl,h.kp.sl,a1.sl,a2,fun i hi=>(a4 i hi).weak fun _ _=>rfl⟩
theorem uj(l:List UInt8)(B:Nat)(O:Nat->Nat)(w:ln)(hR:JA B O w)(g0:l.length<=1000000000):Jl IR 21 [.string (bs l)] w fun v w'=>K7 w w'/\Gq w' v (gx l):=by
 obtain⟨T,g3,hT⟩:=hR.bound;have a6:¬(fun q:Nat=>T<=q) 0:=fun e=>by omega
 have c6:∀b,¬T<=O b:=fun b=>by have:=hT b;omega
 refine I2 func21 ntmps21 rfl rfl ?_;refine zg ?_
 refine au hR T zo (Jf _) rfl ?_;intro xb w1 O1 b8 f6 f8 g5;have b6:IQ (fun q=>T<=q) O w O1 w1:=f6.mono (fun _ h=>IT h.symm) a6;refine zg ?_
 refine zvG (bW IV rfl) ?_
 by_cases hl:4096<l.length
 ·have hM:gx l=.bad 0 3:=by unfold gx;rw[if_pos hl]
  rw[hM];refine zTG rfl ((decide_eq_true zo)) ?_;refine zv (aF GJ (Jf _) rfl (by first|rfl|(simp only[J7,Jg];rfl)) rfl rfl) ?_;refine zsa (us:=(#[nS,nS,nS]:Array I3)) b8 (J2 _) ?_;have a7:=b8.setRow (us:=(#[nS,nS,nS]:Array I3));have a4:IQ (fun k=>k=T) O1 w1 O1 (w1.setRow xb (#[nS,nS,nS]:Array I3)):=I4 zo b8.tag rfl;refine zg ?_;refine cf rfl rfl rfl rfl a7.cellsAdd (JI _) (J2 _) ⟨bF (b6.trans (a4.mono (fun _ h=>IT h.symm) a6)) c6,rfl,by decide⟩
 have f9:gx l=lB (l.length+1) [] st0 0 l:=by unfold gx;rw[if_neg hl]
 refine zFG rfl ((decide_eq_false zo)) ?_;refine zv (aF GU (zeroValue111 _) rfl (by first|rfl|(simp only[J7,Jg];rfl)) rfl rfl) ?_
 refine zv (Jo (vs:=[(0,.agg #[.string (bs l),nI 0,nI 0,nI 0,nI 0,nI 0])]) (cells:=(⟨l,0,0,0,0,0,nS,nS,nS,nS,false,false⟩:LS).cells) GT (zeroValue114 _) rfl zk) ?_;refine aG f8 (T+1) zo rfl rfl ?_
 intro rb w2 O2 d2 e5 f7 g4;have f5:K1 O2 w2 (T+1) rb ⟨l,0,0,0,0,0,nS,nS,nS,nS,false,false⟩:=d2;have e7:=b8.upd e5 zo zo;have d6:=b6.trans (e5.mono (fun _ h=>by rw[h];omega) a6);refine zg ?_;refine zlp (fun y:Nat×Nat×Kn×St×(Nat->Nat)×World×LS=>[(0,.string (bs l)),(2,nP xb),(5,nP rb),(6,nI (y.2.1:Nat))]) (fun y=>y.2.2.2.2.2.1) (fun y=>J5 y.2.2.2.2.1 y.2.2.2.2.2.1 T xb (#[nS,nS,nS]:Array I3) 56/\K1 y.2.2.2.2.1 y.2.2.2.2.2.1 (T+1) rb y.2.2.2.2.2.2/\y.2.2.2.2.2.2.l=l/\IQ (fun q=>T<=q) O w y.2.2.2.2.1 y.2.2.2.2.2.1/\JA B y.2.2.2.2.1 y.2.2.2.2.2.1/\y.2.1<=10000000/\LoopK l (gx l) y.2.2.2.2.1 y.2.2.2.2.2.1 (T+2) (T+3) (T+4) (T+5) y.1 y.2.1 y.2.2.1 y.2.2.2.1 y.2.2.2.2.2.2) (fun y=>y.1) (l.length+1,0,[],st0,O2,w2,⟨l,0,0,0,0,0,nS,nS,nS,nS,false,false⟩) (⟨e7,f5,rfl,d6,f7,by dsimp only;omega,.inl ⟨by dsimp only;omega,rfl,by dsimp only;omega,by rw[f9];rfl,⟨⟨[],Jv _ _ _ _ _ _,rfl,by simp,fun i hi=>absurd hi (by simp)⟩,Jv _ _ _ _ _ _,Jv _ _ _ _ _ _,rfl,rfl,fun _=>rfl,fun _=>rfl⟩,Mac.nil _ _ _,Ji _⟩⟩) ?_;rintro⟨n,fr,kn,st,O1,w3,s⟩ ⟨a2,a3,a5,a1,d8,f4,e6⟩;dsimp only at a2 a3 a5 a1 d8 f4 e6 ⊢
 rcases e6 with⟨c5,he,e1,b1,a0,b4,e3⟩|⟨c5,he,b1,a0⟩|⟨p,e,b9,d0,a',b1⟩
 ·obtain⟨n,rfl⟩:∃m,n=m+1:=⟨n-1,by omega⟩
  have g2:(cQ (l.drop fr)).length<=l.length-fr:=by
   have:=(J4 (l:=l.drop fr) (fun b=>!(b==10))).length_le;simpa[cQ]using this
  have q5:=a3.q5;rw[he]at q5;refine zg ?_;refine zvG (bW IV rfl) ?_;refine aw (d:=21) rfl (b':=true) ((decide_eq_true zo)) ?_;refine zg ?_;refine zvG (RV.ld q5 rfl) ?_;refine zTG rfl rfl ?_;refine zvG (bW IV rfl) ?_;refine zv (jg IV rfl rfl fr rfl c5) ?_;refine zc call44 (du (l.drop fr) 10 w3) ?_;rintro v w9 ⟨rfl,e0⟩;rw[e0];clear e0 w9
  cases hf:(l.drop fr).findIdx? (· == 10)with
  |none=>
   have hi:rj (l.drop fr) 10 = -1:=by unfold rj;rw[hf]
   have e2:=congrArg Kq (yj hf);rw[List.length_drop]at e2;rw[hi,show((l.length:Nat):Int)=((fr+(cQ (l.drop fr)).length:Nat):Int)from by omega];refine zg ?_;refine zFG rfl rfl ?_;refine zc call45 (rZ B O1 w3 (T+1) (T+2) (T+3) (T+4) (T+5) rb s fr (fr+(cQ (l.drop fr)).length) (cQ (l.drop fr)) st d8 zo zo zo zo zo zo zo zo zo zo zo zo zo zo zo zo zo (by rw[a5];omega) (by rw[a5];omega) he (by rw[a5];exact sE l fr) a0 b4 a3) ?_;rintro v w4 d9;obtain⟨O4,s4,n4,c8,c7,b7,d7,d1,g1,a9,d'⟩:=LoopK.next c5 e1 b1 e3 d9;have c9:=I9 a2 b7 zo zo;have b0:=a1.trans (b7.mono (fun _ h=>by rcases h with h|h|h|h|h<;>rw[h]<;>omega) a6);refine zg ?_;refine zvG (JG rfl rfl (Jn zo)) ?_;refine zx (n4,fr+(cQ (l.drop fr)).length+1,c8,c7,O4,w4,s4) (⟨c9,d1,g1.trans a5,b0,d7,by dsimp only;omega,d'⟩) (a9)
  |some k=>
   have hi:rj (l.drop fr) 10=(k:Nat):=by unfold rj;rw[hf]
   have e2:=yi hf;rw[hi];refine zg ?_;refine zTG rfl ((decide_eq_true zo)) ?_;refine zvG (JG rfl rfl (Jn zo)) ?_;rw[show(fr:Int)+((k:Nat):Int)=((fr+(cQ (l.drop fr)).length:Nat):Int)from by omega];refine zc call45 (rZ B O1 w3 (T+1) (T+2) (T+3) (T+4) (T+5) rb s fr (fr+(cQ (l.drop fr)).length) (cQ (l.drop fr)) st d8 zo zo zo zo zo zo zo zo zo zo zo zo zo zo zo zo zo (by rw[a5];omega) (by rw[a5];omega) he (by rw[a5];exact sE l fr) a0 b4 a3) ?_;rintro v w4 d9;obtain⟨O4,s4,n4,c8,c7,b7,d7,d1,g1,a9,d'⟩:=LoopK.next c5 e1 b1 e3 d9;have c9:=I9 a2 b7 zo zo;have b0:=a1.trans (b7.mono (fun _ h=>by rcases h with h|h|h|h|h<;>rw[h]<;>omega) a6);refine zg ?_;refine zvG (JG rfl rfl (Jn zo)) ?_;refine zx (n4,fr+(cQ (l.drop fr)).length+1,c8,c7,O4,w4,s4) (⟨c9,d1,g1.trans a5,b0,d7,by dsimp only;omega,d'⟩) (a9)
 ·have q5:=a3.q5;rw[he]at q5;refine zg ?_;refine zvG (bW IV rfl) ?_;refine aw (d:=21) rfl (b':=false) ((decide_eq_false zo)) ?_;rw[b1];have q6:=a3.q6;have q7:=a3.q7;have q8:=a3.q8;have f':=a0.tx;have f3:=a0.ig.one;have e':=a0.kp.one;obtain⟨xs,e8,_,_,_⟩:=a0.ru;have e9:=e8.one;refine zg ?_;refine zFG rfl rfl ?_;refine zvG (RV.ld q5 rfl) ?_;refine zFG rfl rfl ?_;refine zv (ah (us:=[s.ig,s.kp,s.ru]) (ze q6 q7 q8) (JI _) (J2 _) rfl) ?_;refine zsb (us:=#[s.ig,s.kp,s.ru]) a2 (J2 _) (by simp only[J7,f3,e',e9];rfl) ?_;have a7:=a2.setRow (us:=#[s.ig,s.kp,s.ru]);have a4:IQ (fun k=>k=T) O1 w3 O1 (w3.setRow xb #[s.ig,s.kp,s.ru]):=I4 zo a2.tag rfl;have d3:=a1.trans (a4.mono (fun _ h=>IT h.symm) a6);have b3:=a0.upd a4 zo zo zo zo zo zo;refine zg ?_;refine cf rfl rfl rfl rfl a7.cellsAdd (JI _) (J2 _) ⟨bF d3 c6,_,rfl,b3.tx⟩
 rw[b1];have q5:=a3.q5;rw[d0]at q5;have q4:=a3.q4;rw[a']at q4;have c':((e==0):Bool)=false:=by simpa using b9
 have b2:((e != 0):Bool)=true:=by simpa using b9
 cases e4:decide ((fr:Int)<=(l.length:Int))with
 |false=>
  refine zg ?_;refine zvG (bW IV rfl) ?_
  refine aw (d:=21) rfl (b':=false) (e4) ?_;refine zg ?_
  refine zFG rfl rfl ?_;refine zvG (RV.ld q5 rfl) ?_
  refine aS rfl (b2) ?_;have d4:w3.drew.cell? ⟨rb,4,none⟩=some (nI (p:Nat)):=q4;have d5:w3.drew.cell? ⟨rb,5,none⟩=some (nI e):=q5;refine zg ?_
  refine aI (fun W=>W.cell? ⟨rb,4,none⟩=some (nI (p:Nat))/\W.cell? ⟨rb,5,none⟩=some (nI e)) 14 rfl zk ?_;refine zin ⟨d4,d5⟩ fun zS=>?_
  refine zr 0 rfl zS (fun _=>aF GJ (Jf _) rfl (by first|rfl|(simp only[J7,Jg];rfl)) rfl rfl) ?_;refine zrm 1 rfl zS rfl ?_
  refine zr 2 rfl zS (fun _=>ao rfl) ?_;refine zrf 3 rfl zS rfl ?_
  refine zrf 4 rfl zS rfl ?_;refine zt 5 rfl zS (fun w1 a8=>RV.ld a8.1 rfl) ?_
  refine zrm 6 rfl zS rfl ?_;refine zr 7 rfl zS (fun _=>ao rfl) ?_
  refine zrf 8 rfl zS rfl ?_;refine zrf 9 rfl zS rfl ?_
  refine zt 10 rfl zS (fun w1 a8=>RV.ld a8.2 rfl) ?_;refine IJ 11 zk rfl ?_
  refine zsa (us:=#[nS,nS,nS]) a2.drew (J2 _) ?_;have a7:=Jd (us:=#[nS,nS,nS]) a2.drew;have a4:IQ (fun k=>k=T) O1 w3.drew O1 (w3.drew.setRow xb #[nS,nS,nS]):=I4 zo a2.tag rfl;have b5:=(Jj a3).upd a4 zo zo;have z5:=b5.q5;rw[d0]at z5;have z4:=b5.q4;rw[a']at z4;refine zg ?_
  refine zaf (⟨z4,z5⟩) fun zS=>?_
  refine zra 12 rfl zS rfl ?_;refine zra 13 rfl zS rfl ?_
  refine J0 zk ?_;refine zg ?_
  refine cf rfl rfl rfl rfl a7.cellsAdd (JI _) (J2 _) ⟨bF ((a1.drew).trans (a4.mono (fun _ h=>IT h.symm) a6)) c6,rfl,b9⟩
 |true=>
  refine zg ?_;refine zvG (bW IV rfl) ?_
  refine aw (d:=21) rfl (b':=true) (e4) ?_;refine zg ?_
  refine zvG (RV.ld q5 rfl) ?_;refine zFG rfl (c') ?_
  refine zvG (RV.ld q5 rfl) ?_;refine aS rfl (b2) ?_
  have d4:w3.drew.cell? ⟨rb,4,none⟩=some (nI (p:Nat)):=q4;have d5:w3.drew.cell? ⟨rb,5,none⟩=some (nI e):=q5;refine zg ?_;refine aI (fun W=>W.cell? ⟨rb,4,none⟩=some (nI (p:Nat))/\W.cell? ⟨rb,5,none⟩=some (nI e)) 14 rfl zk ?_;refine zin ⟨d4,d5⟩ fun zS=>?_
  refine zr 0 rfl zS (fun _=>aF GJ (Jf _) rfl (by first|rfl|(simp only[J7,Jg];rfl)) rfl rfl) ?_;refine zrm 1 rfl zS rfl ?_
  refine zr 2 rfl zS (fun _=>ao rfl) ?_;refine zrf 3 rfl zS rfl ?_
  refine zrf 4 rfl zS rfl ?_;refine zt 5 rfl zS (fun w1 a8=>RV.ld a8.1 rfl) ?_
  refine zrm 6 rfl zS rfl ?_;refine zr 7 rfl zS (fun _=>ao rfl) ?_
  refine zrf 8 rfl zS rfl ?_;refine zrf 9 rfl zS rfl ?_
  refine zt 10 rfl zS (fun w1 a8=>RV.ld a8.2 rfl) ?_;refine IJ 11 zk rfl ?_
  refine zsa (us:=#[nS,nS,nS]) a2.drew (J2 _) ?_;have a7:=Jd (us:=#[nS,nS,nS]) a2.drew;have a4:IQ (fun k=>k=T) O1 w3.drew O1 (w3.drew.setRow xb #[nS,nS,nS]):=I4 zo a2.tag rfl;have b5:=(Jj a3).upd a4 zo zo;have z5:=b5.q5;rw[d0]at z5;have z4:=b5.q4;rw[a']at z4;refine zg ?_
  refine zaf (⟨z4,z5⟩) fun zS=>?_
  refine zra 12 rfl zS rfl ?_;refine zra 13 rfl zS rfl ?_
  refine J0 zk ?_;refine zg ?_
  refine cf rfl rfl rfl rfl a7.cellsAdd (JI _) (J2 _) ⟨bF ((a1.drew).trans (a4.mono (fun _ h=>IT h.symm) a6)) c6,rfl,b9⟩
theorem PostC.shape{B:Nat}{w:ln}{v:I3}{li lk:List Int}{ts:List R3}(h:Ju B w v li lk ts):∃cs:List I3,∃e:Int,v=.tuple #[.agg cs.toArray,nI e]/\cs.length=17/\(cs.all IN=true):=by
 rcases h with⟨_,rfl⟩|⟨_,⟨a,b,a1,a0,u,_,_,_,_,_,_,rfl,hT,_⟩|⟨_,rfl⟩⟩
 ·exact⟨_,1,rfl,rfl,rfl⟩
 ·obtain⟨gv,lc,rc,rfl,h1,h2,h3⟩:=hT;obtain⟨ll,lo⟩:=h2.one;obtain⟨rl,ro⟩:=h3.one;refine⟨_,0,rfl,by simp[ll,rl],?_⟩;rw[List.all_eq_true];intro x hx;simp only[Kb,IM,Jp,or_false]at hx
  rcases hx with(hx|hx)|hx
  ·rcases hx with rfl|rfl|rfl|rfl|rfl
   ·rfl
   ·rfl
   ·rfl
   ·rfl
   exact h1.one
  ·exact lo x hx
  exact ro x hx
 exact⟨_,7,rfl,rfl,rfl⟩
theorem TabV.ext{w w':ln}{v:I3}{t:TabM}(h:Kf w v t)(e:K7 w w'):Kf w' v t:=by
 obtain⟨gv,lc,rc,rfl,h1,h2,h3⟩:=h;exact⟨gv,lc,rc,rfl,h1.ext e,h2.ext e,h3.ext e⟩
theorem TabN.mono{B B':Nat}{v:I3}(h:TabN B v)(hb:B'<=B):TabN B' v:=fun cs e x hx=>(h cs e x hx).mono hb
theorem PostC.ext{B B':Nat}{w w':ln}{v:I3}{li lk:List Int}{ts:List R3}(h:Ju B w v li lk ts)(e:K7 w w')(hb:B'<=B):Ju B' w' v li lk ts:=by
 rcases h with h|⟨h0,⟨a,b,a1,a0,u,h1,h2,h3,h4,h5,h6,h7,hT,hN⟩|h⟩
 ·exact .inl h
 ·exact .inr ⟨h0,.inl ⟨a,b,a1,a0,u,h1,h2,h3,h4,h5,h6,h7,hT.ext e,hN.mono hb⟩⟩
 exact .inr ⟨h0,.inr h⟩
theorem PostC.upd{B:Nat}{S:Nat->Prop}{O O':Nat->Nat}{w0 w w':ln}{v:I3}{li lk:List Int}{ts:List R3}(h:Ju w0.heap.size w v li lk ts)(r:JA B O w0)(u:IQ S O w O' w'):Ju w0.heap.size w' v li lk ts:=by
 rcases h with h|⟨h0,⟨a,b,a1,a0,x,h1,h2,h3,h4,h5,h6,h7,hT,hN⟩|h⟩
 ·exact .inl h
 ·refine .inr ⟨h0,.inl ⟨a,b,a1,a0,x,h1,h2,h3,h4,h5,h6,h7,?_,hN⟩⟩;obtain⟨gv,lc,rc,rfl,k1,k2,k3⟩:=hT;have hn:=hN _ rfl;have n1:NewV w0.heap.size gv:=hn gv (by simp);exact⟨gv,lc,rc,rfl,k1.upd (n1.free k1 (fun x _=>by simp) r) u,k2.upd (fun x hx=>hn x (by simp[hx])) r u,k3.upd (fun x hx=>hn x (by simp[hx])) r u⟩
 exact .inr ⟨h0,.inr h⟩
def Gs(B:Nat)(w:ln)(v:I3):TK->Prop
 |.bad p e=>v=.tuple #[.agg tab0,nI (p:Int),nI e]/\e≠0
 |.ok st=>∃(cs:List I3) (e:Int),v=.tuple #[.agg cs.toArray,nI 0,nI e]/\Ju B w (.tuple #[.agg cs.toArray,nI e]) st.li st.lk st.ts
theorem nV(l:List UInt8)(w:ln)(b9:l.length<=1000000000):Jl IR 28 [.string (bs l)] w fun v w'=>K7 w w'/\Gs w.heap.size w' v (gx l):=by
 refine I2 func28 ntmps28 rfl rfl ?_;refine zh ?_
 refine au (ax w) 1 zo (II _) rfl ?_;intro cb w1 O1 a8 b8 b5 d0;refine zh ?_
 refine zc call21 (uj l w.heap.size O1 w1 b5 b9) ?_;rintro v w2 ⟨a7,hP⟩;have d2:=b5.ext a7;have hz:¬(0=1):=zo
 cases hM:gx l with
 |bad p e=>
  rw[hM]at hP;obtain⟨rfl,he⟩:=hP;refine zh ?_;refine au (ax w2) 1 zo (Jf _) rfl ?_;intro tb w3 O3 a1 b4 c8 c';refine zsa (us:=#[rh,rh,rh]) a1 (J2 _) ?_;have a0:=(b4.trans (I4 (us:=#[rh,rh,rh]) zd a1.tag rfl)).ext;generalize w3.setRow tb #[rh,rh,rh]=w4 at *;have c5:=aa (S:=fun q=>q=1) hz O1 (a7.trans a0);have a4:=a8.upd (aa (S:=fun _=>False) (fun h=>h) O1 (a7.trans a0)) zd (fun h=>h);refine zh ?_;refine zTH rfl ((by simpa using he)) ?_;refine zvH (Jo (cells:=tab0) Cg (II _) rfl rfl) ?_;refine zsa (us:=tab0) a4 (I7 _) ?_;have b3:=a4.setRow (us:=tab0);have c7:IQ (fun j=>j=1) O1 w4 O1 (w4.setRow cb tab0):=I4 zd a4.tag rfl;refine zh ?_;refine cf rfl rfl rfl rfl (b3.cellsAdd) (J3 _) (I7 _) (⟨((b8.trans c5).trans c7).ext,rfl,he⟩)
 |ok st=>
  rw[hM]at hP;obtain⟨tv,rfl,hx⟩:=hP;obtain⟨ta,a5,tc,xs,rfl,x1,x2,x3,_⟩:=hx.ex;have o1:=x1.one;have o2:=x2.one;have o3:=x3.one;refine zh ?_;refine au (ax w2) 1 zo (Jf _) rfl ?_;intro tb w3 O3 a1 b4 c8 c';refine zsb (us:=#[ta,a5,tc]) a1 (J2 _) (by simp[o1,o2,o3]) ?_;have b1:=a1.setRow (us:=#[ta,a5,tc]);have a0:=(b4.trans (I4 (us:=#[ta,a5,tc]) zd a1.tag rfl)).ext;generalize w3.setRow tb #[ta,a5,tc]=w4 at *;refine zh ?_;refine zFH rfl rfl ?_;refine zv (ah (us:=[ta,a5,tc]) b1.cellsAdd (JI _) (J2 _) rfl) ?_;refine zc call55 (vg st.li st.lk st.ts (FS ta a5 tc) w4 (hx.ext a0)) ?_;rintro v w5 ⟨c9,hC⟩;obtain⟨cs,e,rfl,a6,b6⟩:=hC.shape;refine zh ?_;refine au (ax w5) 1 zo (II _) rfl ?_;intro xb w6 O6 a2 c6 d1 d3;refine bd (us:=cs.toArray) a2 (show cs.toArray.size=17 from by simpa using a6) (by rw[show cs.toArray.size=17 from by simpa using a6];exact I7 _) (by simpa using b6) rfl rfl rfl ?_;have b0:=a2.setRow (us:=cs.toArray);have a9:=(c6.trans (I4 (us:=cs.toArray) zd a2.tag rfl)).ext;generalize w6.setRow xb cs.toArray=w7 at *;have a':=((a7.trans a0).trans c9).trans a9;have b':=aa (S:=fun q=>q=1) hz O1 a';have a3:=a8.upd (aa (S:=fun _=>False) (fun h=>h) O1 a') zd (fun h=>h);refine zh ?_;refine zvH (ah (us:=cs) (by simpa using b0.cellsAdd) (J3 _) (by rw[a6];exact I7 _) rfl) ?_
  refine bd (us:=cs.toArray) a3 (show cs.toArray.size=17 from by simpa using a6) (by rw[show cs.toArray.size=17 from by simpa using a6];exact I7 _) (by simpa using b6) rfl rfl rfl ?_;have b2:=a3.setRow (us:=cs.toArray);have b7:IQ (fun j=>j=1) O1 w7 O1 (w7.setRow cb cs.toArray):=I4 zd a3.tag rfl;refine zh ?_
  refine cf rfl rfl rfl rfl (us:=cs) (by simpa using b2.cellsAdd) (J3 _) (by rw[a6];exact I7 _) ⟨((b8.trans b').trans b7).ext,cs,e,rfl,((hC.ext a9 (Jr _)).upd (b5.ext (a7.trans a0)) b7).ext (IP _) (((d0.trans a7).trans a0).size)⟩
theorem uV(l l':List Bool)(av bv:I3)(w:ln)(h:Sl th 1 w av l)(h':Sl th 1 w bv l'):Jl IR 12 [av,bv] w fun v w'=>v=.bool (decide (l=l'))/\K7 w w':=by
 have q1:=h.len_le;have q2:=h'.len_le;refine I2 func12 ntmps12 rfl rfl ?_;refine zh ?_;refine zvH (K2 h' JW rfl) ?_;refine zC ?_ ?_
 ·intro a4;have a1:¬l=l':=fun e=>by subst e;simp at a4
  refine zh ?_;refine ae rfl rfl (⟨by rw[decide_eq_false a1],IP w⟩)
 intro a7;have a9:l.length=l'.length:=by have:=of_decide_eq_true (p:=((l.length:Int)=(l'.length:Int))) (by simpa using a7);omega
 refine zh ?_;refine zlp (fun z:Nat×ln=>[(0,av),(1,bv),(5,nI (z.1:Nat))]) (fun z=>z.2) (fun z=>z.1<=l.length/\K7 w z.2/\∀i,i<z.1->nth l i=nth l' i) (fun z=>l.length-z.1) (0,w) (⟨Ji _,IP w,fun i hi=>absurd hi (Kc i)⟩) ?_
 rintro⟨k,w1⟩ ⟨hk,hE,a0⟩;dsimp only at hk hE a0 ⊢;have h1:=h.ext hE;have h2:=h'.ext hE;refine zh ?_;refine zC ?_ ?_
 ·intro a2;replace a2:k<l.length:=dT a2;have e1:w1.cell? (adr av 1 k)=some (.bool (nth l k)):=by have:=h1.cell (i:=k) (j:=0) a2 rfl;rw[ay]at this;exact this
  have e2:w1.cell? (adr bv 1 k)=some (.bool (nth l' k)):=by have:=h2.cell (i:=k) (j:=0) zo rfl;rw[ay]at this;exact this
  refine zh ?_;refine aI (fun W=>W.cell? (adr av 1 k)=some (.bool (nth l k))/\W.cell? (adr bv 1 k)=some (.bool (nth l' k))) 9 rfl zk ?_
  refine zin ⟨e1,e2⟩ fun zS=>?_
  refine zrm 0 rfl zS rfl ?_;refine zrm 1 rfl zS rfl ?_
  refine zr 2 rfl zS (fun _=>az h1.sh underlying39 (JY _) rfl rfl k rfl zo) ?_;refine zt 3 rfl zS (fun w1 a3=>RV.ld a3.1 rfl) ?_
  refine zrm 4 rfl zS rfl ?_;refine zrm 5 rfl zS rfl ?_
  refine zr 6 rfl zS (fun _=>az h2.sh JW (JY _) rfl rfl k rfl zo) ?_;refine zt 7 rfl zS (fun w1 a3=>RV.ld a3.2 rfl) ?_
  refine zr 8 rfl zS (fun _=>qX JD rfl rfl) ?_;refine J0 zk ?_
  refine zh ?_;refine zC ?_ ?_
  ·intro a4;have a1:¬l=l':=fun e=>by subst e;simp at a4
   refine zh ?_;refine ae rfl rfl (⟨by rw[decide_eq_false a1],hE.drew⟩)
  intro a7;have a6:nth l k=nth l' k:=by simpa using a7
  refine zh ?_;have a8:∀i,i<k+1->nth l i=nth l' i:=fun i hi=>(Nat.lt_succ_iff_lt_or_eq.1 hi).elim (a0 i) (fun e=>by rw[e];exact a6)
  refine zxd (k+1,w1.drew) (⟨a2,hE.drew,a8⟩)
 intro b0;have a':k=l.length:=dF b0;subst a';have a5:l=l':=List.ext_getElem a9 fun i i1 i2=>by have:=a0 i i1;rwa[aC i1,aC i2]at this
 refine zh ?_;refine ae rfl rfl (⟨by rw[decide_eq_true a5],hE⟩)
def CJ(x:Int):List Int->List Int
 |[]=>[x]
 |y::r=>if x<y then x::y::r else if x=y then y::r else y::CJ x r
def pF(l:List Int):List Int:=l.foldr CJ []
theorem qA(x z:Int):∀l:List Int,z∈CJ x l↔z=x\/z∈l
 |[]=>by simp[CJ]
 |y::r=>by
  unfold CJ
  split
  ·simp
  split
  ·rename_i h;subst h;simp
  rw[IM,qA x z r,IM]
  constructor
  ·rintro(h|h|h)
   ·exact .inr (.inl h)
   ·exact .inl h
   exact .inr (.inr h)
  rintro(h|h|h)
  ·exact .inr (.inl h)
  ·exact .inl h
  exact .inr (.inr h)
theorem AO(x:Int):∀l:List Int,l.Pairwise (· < ·)->(CJ x l).Pairwise (· < ·)
 |[],_=>by simp[CJ]
 |y::r,h=>by
  obtain⟨h1,h2⟩:=IY.1 h;unfold CJ
  split
  ·rename_i hxy;refine IY.2 ⟨fun z hz=>?_,h⟩
   rcases IM.1 hz with rfl|hz
   ·exact hxy
   have:=h1 z hz;omega
  split
  ·exact h
  refine IY.2 ⟨fun z hz=>?_,AO x r h2⟩
  rcases(qA x z r).1 hz with rfl|hz
  ·omega
  exact h1 z hz
theorem nz(l:List Int):(∀x,x∈pF l↔x∈l)/\(pF l).Pairwise (· < ·):=by
 induction l with
 |nil=>exact⟨fun x=>Iff.rfl,.nil⟩
 |cons a l ih=>
  refine⟨fun x=>?_,AO a _ ih.2⟩;show x∈CJ a (pF l)↔_;rw[qA,ih.1,IM]
theorem Dg:∀(a b:List Int),a.Pairwise (· < ·)->b.Pairwise (· < ·)->(∀x,x∈a↔x∈b)->a=b
 |[],[],_,_,_=>rfl
 |[],y::r,_,_,h=>absurd ((h y).2 (by simp)) (by simp)
 |x::a,[],_,_,h=>absurd ((h x).1 (by simp)) (by simp)
 |x::a,y::b,ha,hb,h=>by
  obtain⟨a1,a2⟩:=IY.1 ha;obtain⟨b1,b2⟩:=IY.1 hb;have a4:x=y:=by
   rcases IM.1 ((h x).1 (by simp))with e|e
   ·exact e
   rcases IM.1 ((h y).2 (by simp))with e'|e'
   ·exact e'.symm
   have:=a1 y e';have:=b1 x e;omega
  subst a4;congr 1;refine Dg a b a2 b2 fun z=>?_
  have hz:=h z;simp only[IM]at hz
  constructor
  ·intro a3
   rcases hz.1 (.inr a3)with e|e
   ·subst e;exact absurd (a1 z a3) zo
   exact e
  intro a0
  rcases hz.2 (.inr a0)with e|e
  ·subst e;exact absurd (b1 z a0) zo
  exact e
theorem xz(l:List Int):pD l=pF l:=Dg _ _ (xy l) (nz l).2 fun x=>by rw[tm,(nz l).1]
def FT(se:Bool)(g:Gr)(s:List Int)(m:Int):List Int:=pF (FW se g s m)
theorem step_eq(se:Bool)(g:Gr):cy se g=FT se g:=funext fun _=>funext fun _=>xz _
def stK(se:Bool)(ts:List Nd):Option (List (List Nat)×List Nat):=if dB ts=0 then CQ (FT se (jq ts)) (da (jq ts))else none
theorem stM_eq(se:Bool)(ts:List Nd):stM se ts=stK se ts:=by unfold stM stK;rw[step_eq]
theorem PostC.made{B:Nat}{w:ln}{v:I3}{li lk:List Int}{ts:List R3}(h:Ju B w v li lk ts):
  (∃e:Int,e≠0/\v=.tuple #[.agg tab0,nI e]/\((e=1/\ej li lk ts=false)\/(e=7/\ej li lk ts=true/\(stM true (lT ts)=none\/stM false (eO ts)=none))))\/
  ∃a b a1 a0 gv lc rc,Made li lk ts a b a1 a0/\v=.tuple #[.agg (eI (bM li lk ts a b a1 a0).ig (bM li lk ts a b a1 a0).kp (bM li lk ts a b a1 a0).br (bM li lk ts a b a1 a0).rules gv lc rc).toArray,nI 0]/\
   Ints w gv (bM li lk ts a b a1 a0).groups/\Ko w lc (bM li lk ts a b a1 a0).left (bM li lk ts a b a1 a0).lt/\Ko w rc (bM li lk ts a b a1 a0).right (bM li lk ts a b a1 a0).rt/\Fw B (gv::(lc++rc)):=by
 rcases h with⟨h0,rfl⟩|⟨h0,⟨a,b,a1,a0,u,h1,h2,h3,h4,h5,h6,rfl,hT,hN⟩|⟨h1,rfl⟩⟩
 ·exact .inl ⟨1,zd,rfl,.inl ⟨rfl,h0⟩⟩
 ·obtain⟨gv,lc,rc,rfl,k1,k2,k3⟩:=hT;have hn:=hN _ rfl;exact .inr ⟨a,b,a1,a0,gv,lc,rc,⟨h0,h1,h2,h3,h4,h5,h6⟩,rfl,k1,k2,k3,fun x hx=>hn x (by simp only[Kb,IM,Jp,or_false]at hx ⊢;rcases hx with hx|hx|hx<;>simp[hx])⟩
 exact .inl ⟨7,zd,rfl,.inr ⟨rfl,h0,h1⟩⟩
def F6:LM->LM
 |.bad p e=>.bad p e
 |.ok []=>.bad 0 4
 |.ok (a::l)=>.ok (pF (a::l))
def CA(r:List UInt8):LM:=F6 (eZ (r.length+1) [] r)
theorem Cz:cI=CA:=funext fun r=>by
 unfold cI CA
 cases eZ (r.length+1) [] r with
 |bad p e=>rfl
 |ok l=>cases l with
  |nil=>rfl
  |cons a l=>exact congrArg LM.ok (xz (a::l))
def vT(kn:Kn)(st:St)(seg:List UInt8):RK:=
 if(aP seg).length=0 then .go kn st
 else if((aP seg).takeWhile ai==[108,101,116])=true then Gk kn st (bj seg).length (ri kn ((aP seg).dropWhile ai))
 else if((aP seg).takeWhile ai==[105,103,110,111,114,101])=true then
  (if st.hi=true then .bad ((bj seg).length-(aP seg).length) 11 else kP kn (GC st (bj seg).length (CA ((aP seg).dropWhile ai))))
 else if((aP seg).takeWhile ai==[107,101,101,112])=true then
  (if st.hk=true then .bad ((bj seg).length-(aP seg).length) 11 else kP kn (GB st (bj seg).length (CA ((aP seg).dropWhile ai))))
 else kP kn (GA st ((bj seg).length-(aP seg).length) (if st.ts.length=40 then JQ 0 3 else gp kn (aP seg)))
theorem Ab:cu=vT:=funext fun kn=>funext fun st=>funext fun seg=>by unfold cu vT;rw[Cz]
def qu:Nat->Kn->St->Nat->List UInt8->TK
 |0,_,_,_,_=>.bad 0 3
 |n+1,kn,st,fr,r=>
  match vT kn st (cQ r)with
  |.bad p e=>.bad (fr+p) e
  |.go kn' st'=>if(cQ r).length=r.length then .ok st' else qu n kn' st' (fr+(cQ r).length+1) (r.drop ((cQ r).length+1))
theorem oR:∀(n:Nat) (kn:Kn) (st:St) (fr:Nat) (r:List UInt8),lB n kn st fr r=qu n kn st fr r
 |0,_,_,_,_=>rfl
 |n+1,kn,st,fr,r=>by
  unfold lB qu;rw[Ab]
  cases vT kn st (cQ r)with
  |bad p e=>rfl
  |go kn' st'=>dsimp only;rw[oR n]
def mR(l:List UInt8):TK:=if 4096<l.length then .bad 0 3 else qu (l.length+1) [] st0 0 l
theorem yc(l:List UInt8):gx l=mR l:=by unfold gx mR;rw[oR]
def okK(l:List UInt8):Bool:=match mR l with
 |.ok st=>ej st.li st.lk st.ts&&(stK true (lT st.ts)).isSome&&(stK false (eO st.ts)).isSome
 |.bad _ _=>false
def eh(l:List UInt8):St:=match mR l with
 |.ok st=>st
 |.bad _ _=>st0
theorem Dd{l:List UInt8}(h:okK l=true):gx l=.ok (eh l)/\ej (eh l).li (eh l).lk (eh l).ts=true/\(stM true (lT (eh l).ts)).isSome=true/\(stM false (eO (eh l).ts)).isSome=true:=by
 rw[yc,stM_eq,stM_eq];unfold okK at h;unfold eh
 cases hp:mR l with
 |bad p e=>rw[hp]at h;cases h
 |ok st=>
  rw[hp]at h;simp only[Bool.and_eq_true]at h;exact⟨rfl,h.1.1,h.1.2,h.2⟩
def Ca:List UInt8:=[67,82,32,33,32,76,70,10,67,82,124,76,70,124,78,101,119,108,105,110,101,124,67,111,110,116,114,111,108,124,71,97,112,32,47,10,47,32,67,82,124,76,70,124,78,101,119,108,105,110,101,124,67,111,110,116,114,111,108,124,71,97,112,10,76,32,33,32,76,124,86,124,76,86,124,76,86,84,10,76,86,124,86,32,33,32,86,124,84,10,76,86,84,124,84,32,33,32,84,10,33,32,69,120,116,101,110,100,124,90,87,74,124,83,112,97,99,105,110,103,124,70,111,114,109,97,116,10,80,114,101,112,101,110,100,32,33,10,80,105,99,116,32,69,120,116,101,110,100,42,32,90,87,74,32,33,32,80,105,99,116,10,94,32,40,82,101,103,105,111,110,97,108,32,82,101,103,105,111,110,97,108,41,42,32,82,101,103,105,111,110,97,108,32,33,32,82,101,103,105,111,110,97,108,10,126,82,101,103,105,111,110,97,108,32,40,82,101,103,105,111,110,97,108,32,82,101,103,105,111,110,97,108,41,42,32,82,101,103,105,111,110,97,108,32,33,32,82,101,103,105,111,110,97,108,10]
def B8:List UInt8:=[105,103,110,111,114,101,32,69,120,116,101,110,100,32,70,111,114,109,97,116,10,107,101,101,112,32,67,82,32,76,70,32,78,101,119,108,105,110,101,10,108,101,116,32,108,101,116,116,101,114,32,61,32,85,112,112,101,114,124,76,111,119,101,114,124,76,101,116,116,101,114,10,108,101,116,32,109,105,100,32,61,32,77,105,100,76,101,116,116,101,114,124,68,111,116,124,65,112,111,115,116,114,111,112,104,101,10,108,101,116,32,110,117,109,32,61,32,77,105,100,78,117,109,124,68,111,116,124,65,112,111,115,116,114,111,112,104,101,10,108,101,116,32,112,97,114,116,32,61,32,108,101,116,116,101,114,124,68,105,103,105,116,124,75,97,116,97,107,97,110,97,10,67,82,32,33,32,76,70,10,67,82,124,76,70,124,78,101,119,108,105,110,101,32,47,10,47,32,67,82,124,76,70,124,78,101,119,108,105,110,101,10,90,87,74,32,33,32,80,105,99,116,10,33,32,90,87,74,10,83,112,97,99,101,32,33,32,83,112,97,99,101,10,108,101,116,116,101,114,32,33,32,108,101,116,116,101,114,10,108,101,116,116,101,114,32,33,32,109,105,100,32,108,101,116,116,101,114,10,108,101,116,116,101,114,32,109,105,100,32,33,32,108,101,116,116,101,114,10,68,105,103,105,116,32,33,32,68,105,103,105,116,10,108,101,116,116,101,114,32,33,32,68,105,103,105,116,10,68,105,103,105,116,32,33,32,108,101,116,116,101,114,10,68,105,103,105,116,32,110,117,109,32,33,32,68,105,103,105,116,10,68,105,103,105,116,32,33,32,110,117,109,32,68,105,103,105,116,10,75,97,116,97,107,97,110,97,32,33,32,75,97,116,97,107,97,110,97,10,112,97,114,116,124,74,111,105,110,101,114,32,33,32,74,111,105,110,101,114,10,74,111,105,110,101,114,32,33,32,112,97,114,116,10,94,32,40,82,101,103,105,111,110,97,108,32,82,101,103,105,111,110,97,108,41,42,32,82,101,103,105,111,110,97,108,32,33,32,82,101,103,105,111,110,97,108,10,126,82,101,103,105,111,110,97,108,32,40,82,101,103,105,111,110,97,108,32,82,101,103,105,111,110,97,108,41,42,32,82,101,103,105,111,110,97,108,32,33,32,82,101,103,105,111,110,97,108,10]
def B6:List UInt8:=[105,103,110,111,114,101,32,69,120,116,101,110,100,32,90,87,74,32,70,111,114,109,97,116,10,107,101,101,112,32,67,82,32,76,70,32,78,101,119,108,105,110,101,10,108,101,116,32,99,108,111,115,101,32,61,32,67,108,111,115,101,124,81,117,111,116,101,124,65,112,111,115,116,114,111,112,104,101,10,108,101,116,32,101,110,100,32,61,32,84,101,114,109,124,68,111,116,10,108,101,116,32,112,97,114,32,61,32,67,82,124,76,70,124,78,101,119,108,105,110,101,10,67,82,32,33,32,76,70,10,112,97,114,32,47,10,68,111,116,32,33,32,68,105,103,105,116,10,40,85,112,112,101,114,124,76,111,119,101,114,41,32,68,111,116,32,33,32,85,112,112,101,114,10,68,111,116,32,99,108,111,115,101,42,32,83,112,97,99,101,42,32,33,32,76,111,119,101,114,10,101,110,100,32,99,108,111,115,101,42,32,83,112,97,99,101,42,32,33,32,77,105,100,78,117,109,124,77,105,100,76,101,116,116,101,114,124,72,121,112,104,101,110,124,101,110,100,10,101,110,100,32,99,108,111,115,101,42,32,33,32,99,108,111,115,101,124,83,112,97,99,101,124,112,97,114,10,101,110,100,32,99,108,111,115,101,42,32,83,112,97,99,101,42,32,33,32,83,112,97,99,101,124,112,97,114,10,101,110,100,32,99,108,111,115,101,42,32,83,112,97,99,101,42,32,47,10,33,10]
def ud:List UInt8:=[105,103,110,111,114,101,32,69,120,116,101,110,100,32,90,87,74,32,70,111,114,109,97,116,10,107,101,101,112,32,67,82,32,76,70,32,78,101,119,108,105,110,101,32,83,112,97,99,101,32,71,97,112,10,108,101,116,32,97,108,32,61,32,79,116,104,101,114,124,85,112,112,101,114,124,76,111,119,101,114,124,76,101,116,116,101,114,124,68,105,103,105,116,124,74,111,105,110,101,114,124,80,114,101,112,101,110,100,10,108,101,116,32,112,97,114,32,61,32,67,82,124,76,70,124,78,101,119,108,105,110,101,10,67,82,32,33,32,76,70,10,112,97,114,32,47,10,33,32,112,97,114,10,33,32,83,112,97,99,101,124,71,97,112,10,71,97,112,32,83,112,97,99,101,42,32,47,10,33,32,71,108,117,101,10,71,108,117,101,32,33,10,33,32,67,108,111,115,101,124,84,101,114,109,124,77,105,100,78,117,109,124,77,105,100,76,101,116,116,101,114,124,68,111,116,10,79,112,101,110,32,83,112,97,99,101,42,32,33,10,33,32,81,117,111,116,101,124,65,112,111,115,116,114,111,112,104,101,10,81,117,111,116,101,124,65,112,111,115,116,114,111,112,104,101,32,33,10,83,112,97,99,101,32,47,10,33,32,72,121,112,104,101,110,10,72,121,112,104,101,110,32,33,32,68,105,103,105,116,10,97,108,32,33,32,97,108,10,97,108,32,33,32,79,112,101,110,10,67,108,111,115,101,32,33,32,97,108,10,40,77,105,100,78,117,109,124,68,111,116,124,77,105,100,76,101,116,116,101,114,41,32,33,32,68,105,103,105,116,10,76,32,33,32,76,124,86,124,76,86,124,76,86,84,10,76,86,124,86,32,33,32,86,124,84,10,76,86,84,124,84,32,33,32,84,10,75,97,116,97,107,97,110,97,32,33,32,75,97,116,97,107,97,110,97,10,94,32,40,82,101,103,105,111,110,97,108,32,82,101,103,105,111,110,97,108,41,42,32,82,101,103,105,111,110,97,108,32,33,32,82,101,103,105,111,110,97,108,10,126,82,101,103,105,111,110,97,108,32,40,82,101,103,105,111,110,97,108,32,82,101,103,105,111,110,97,108,41,42,32,82,101,103,105,111,110,97,108,32,33,32,82,101,103,105,111,110,97,108,10,47,10]
def gn:Nat->List UInt8
 |0=>Ca
 |1=>B8
 |2=>B6
 |_=>ud
theorem B9:okK Ca=true:=by decide +kernel
theorem B7:okK B8=true:=by decide +kernel
theorem B5:okK B6=true:=by decide +kernel
theorem B4:okK ud=true:=by decide +kernel
theorem zI:∀m,okK (gn m)=true
 |0=>B9
 |1=>B7
 |2=>B5
 |_+3=>B4
theorem yL:qN (eh ud).li (eh ud).lk [18,29,18] (eh ud).ts=[true,false,true,true]:=by decide +kernel
theorem gO(q:Addr)(x:Int)(w:ln)(hc:w.cell? q=some (.int .u32 x)):Jl IR 53 [.pointer (some q)] w fun v w'=>v=.bool (!(decide (x=0)))/\w=w':=by
 refine I2 func53 ntmps53 rfl rfl ?_;refine zh ?_
 refine zvH (JF (vs:=[.pointer (some q)]) (run_call_load func85 zk zk zk .u32 zk hc) rfl) ?_;refine ae rfl rfl (⟨rfl,rfl⟩)
theorem Fh(w:ln):Jl IR 127 [.bool true] w fun v w'=>v=.int .u32 1/\w'=w:=by
 refine I2 func127 ntmps127 rfl rfl ?_;refine zh ?_
 refine zTH rfl rfl ?_;refine ae rfl rfl (⟨rfl,rfl⟩)
theorem qQ(O:Nat->Nat)(i b j:Nat)(cs:Array I3)(T:JK)(x:I3)(w:ln)(hb:J5 O w i b cs T)(hj:cs[j]? = some x):
  Jl IR 88 [.pointer (some ⟨b,j,none⟩),.bool true] w (fun _ w'=>w'=w.drew.setCell ⟨b,j,none⟩ (.int .u32 1))/\Ia IR 88 [.pointer (some ⟨b,j,none⟩),.bool true] w (fun _ w'=>w'=w.drew.setCell ⟨b,j,none⟩ (.int .u32 1)):=by
 have hc:=hb.drew.cell j hj;have hf:w.drew.frozen? ⟨b,j,none⟩=false:=by simp[Jz,hb.drew.blk]
 refine Kv func88 ntmps88 rfl rfl ?_;refine J8 5 rfl rfl zk zk ?_
 refine zh ?_;refine WS.call call127 rfl (Fh _) rfl ?_
 refine Jm ?_;refine KC (vs:=[.pointer (some ⟨b,j,none⟩),.int .u32 1]) (run_call_store func126 zk zk zk zk hc hf) rfl rfl ?_
 refine zh ?_;exact aD rfl rfl
theorem As:(prog.info? 71).map (fun i=>decide (i.size=0))=some false:=by kernel_rfl
theorem ym(O:Nat->Nat)(i b j:Nat)(cs:Array I3)(T:JK)(w:ln)(hb:J5 O w i b cs T)(hj:cs[j]? = some (.int .i32 0)):
  Jl IR 124 [.pointer (some ⟨b,j,none⟩)] w fun _ w'=>w'=w.setCell ⟨b,j,none⟩ (.int .i32 1):=by
 have hc:=hb.cell j hj;have hf:w.frozen? ⟨b,j,none⟩=false:=by simp[Jz,hb.blk]
 have a0:j<cs.size:=(Array.getElem?_eq_some_iff.1 hj).1;have a1:(w.setCell ⟨b,j,none⟩ (.int .i32 1)).cell? ⟨b,j,none⟩=some (.int .i32 1):=(hb.set j (.int .i32 1)).cell j (by simp[a0]);refine I2 func124 ntmps124 rfl rfl ?_;refine zh ?_;refine zvH (JF (vs:=[]) (run_call_mark0 func167 zk zk zk .disable zk _) rfl) ?_;refine KC (vs:=[.pointer (some ⟨b,j,none⟩),.int .i32 0,.int .i32 1]) (run_call_cas_hit func168 zk zk zk .i32 zk hc hf) rfl rfl ?_;refine zh ?_;refine zTH rfl rfl ?_;refine zTH rfl rfl ?_;refine zvH (JF (vs:=[]) (run_call_mark0 func169 zk zk zk .enable zk _) rfl) ?_;refine zv (xI (run_convert_to_unsafe KB KA As a1) rfl) ?_;refine zvH (JF (vs:=[.pointer (some ⟨b,j,none⟩)]) (run_call_marked func170 zk zk zk .acquire zk _ _) rfl) ?_;exact bR rfl rfl
theorem xS(O:Nat->Nat)(i b j:Nat)(cs:Array I3)(T:JK)(w:ln)(hb:J5 O w i b cs T)(hj:cs[j]? = some (.int .i32 0)):
  Jl IR 86 [.pointer (some ⟨b,j,none⟩)] w fun _ w'=>w'=w.setCell ⟨b,j,none⟩ (.int .i32 1):=by
 refine I2 func86 ntmps86 rfl rfl ?_;refine zh ?_
 refine zc call124 (ym O i b j cs T w hb hj) ?_;rintro v w' rfl;refine zh ?_
 exact aD rfl rfl
theorem sS(O:Nat->Nat)(i b j:Nat)(cs:Array I3)(T:JK)(w:ln)(hb:J5 O w i b cs T)(hj:cs[j]? = some (.int .i32 1)):
  Jl IR 125 [.pointer (some ⟨b,j,none⟩)] w fun _ w'=>w'=w.setCell ⟨b,j,none⟩ (.int .i32 0):=by
 have hc:=hb.cell j hj;have hf:w.frozen? ⟨b,j,none⟩=false:=by simp[Jz,hb.blk]
 refine I2 func125 ntmps125 rfl rfl ?_;refine zg ?_
 refine zTG rfl rfl ?_;refine zvG (RV.ld hc rfl) ?_
 refine zv (xI (run_convert_to_unsafe KB KA As hc) rfl) ?_;refine zvG (JF (vs:=[.pointer (some ⟨b,j,none⟩)]) (run_call_marked func172 zk zk zk .releaseMerge zk _ _) rfl) ?_
 refine zvG (JF (vs:=[]) (run_call_mark0 func167 zk zk zk .disable zk _) rfl) ?_;refine KC (vs:=[.pointer (some ⟨b,j,none⟩),.int .i32 (-1)]) (run_call_add func173 zk zk zk .i32 zk (s:=0) hc hf rfl) rfl rfl ?_
 refine zg ?_;refine zFG rfl rfl ?_
 refine zvG (JF (vs:=[]) (run_call_mark0 func169 zk zk zk .enable zk _) rfl) ?_;exact aD rfl rfl
theorem rM(O:Nat->Nat)(i b j:Nat)(cs:Array I3)(T:JK)(w:ln)(hb:J5 O w i b cs T)(hj:cs[j]? = some (.int .i32 1)):
  Jl IR 87 [.pointer (some ⟨b,j,none⟩)] w (fun _ w'=>w'=w.setCell ⟨b,j,none⟩ (.int .i32 0))/\Ia IR 87 [.pointer (some ⟨b,j,none⟩)] w (fun _ w'=>w'=w.setCell ⟨b,j,none⟩ (.int .i32 0)):=by
 refine Kv func87 ntmps87 rfl rfl ?_;refine zh ?_
 refine zc call125 (sS O i b j cs T w hb hj) ?_;rintro v w' rfl;refine zh ?_
 exact aD rfl rfl
theorem ve(O:Nat->Nat)(i b o:Nat)(cs:Array I3)(T:JK)(w:ln)(hi:i≠0)(hb:J5 O w i b cs T)(h0:cs[o]? = some (.int .u32 0))(h1:cs[o+1]? = some (.int .i32 0))(g:FuncId)(fs:List I3)(c0:Array I3) 
  (hg:∀(args:Array I3) (w:ln),(callFunc g args).run IR w=.ok (.enter g args) w) (K:(Nat->Nat)->ln->Array I3->Prop)
  (hf:∀W,J5 O W i b (cs.setIfInBounds (o+1) (.int .i32 1)) T->IQ (fun k=>k=i) O w O W->Jl IR g (fs++c0.toList) W fun _ W'=>∃O' cs',J5 O' W' i b cs' T/\o+1<cs'.size/\cs'[o+1]? = some (.int .i32 1)/\K O' W' cs') :
  Jl IR 54 [.pointer (some ⟨b,o,none⟩),.func (.func g) fs.toArray c0] w fun _ w'=>∃O' W' cs',J5 O' W' i b cs' T/\K O' W' cs'/\w'=(W'.drew.setCell ⟨b,o,none⟩ (.int .u32 1)).setCell ⟨b,o+1,none⟩ (.int .i32 0):=by
 have hz:¬(fun k=>k=i) 0:=fun e=>hi e.symm
 refine lx func54 ntmps54 rfl rfl ?_;refine Kl ?_
 refine Jq (by first|exact .inl rfl|exact .inr rfl) (fun _ _ h=>h) ?_;refine zh ?_
 refine zc call86 (xS O i b (o+1) cs T w hb h1) ?_;rintro v w1 rfl;have a2:=hb.set (o+1) (.int .i32 1);have a4:IQ (fun k=>k=i) O w O (w.setCell ⟨b,o+1,none⟩ (.int .i32 1)):=IL hz hb.tag rfl;have a7:(cs.setIfInBounds (o+1) (.int .i32 1))[o]? = some (.int .u32 0):=by rw[I8 zo];exact h0
 generalize w.setCell ⟨b,o+1,none⟩ (.int .i32 1)=w1 at *;refine zh ?_;refine KP ?_;refine aL ?_;refine Kl ?_;refine Jq (by first|exact .inl rfl|exact .inr rfl) (fun _ _ h=>h) ?_;refine zh ?_;refine lL rfl ?_;refine aL ?_;refine Kl ?_;refine Jq (by first|exact .inl rfl|exact .inr rfl) (fun _ _ h=>h) ?_;refine zh ?_;refine zc KS (gO ⟨b,o,none⟩ 0 w1 (a2.cell o a7)) ?_;rintro v _ ⟨rfl,rfl⟩;refine zh ?_;refine KP ?_;refine aL ?_;refine mz rfl (rfl) ?_;refine Kl ?_;refine Jq (by first|exact .inl rfl|exact .inr rfl) (fun _ _ h=>h) ?_;refine zh ?_;refine lL rfl ?_;refine aL ?_;refine Jq (by first|exact .inl rfl|exact .inr rfl) (fun _ _ h=>h) ?_;refine zh ?_;refine Bv (fs:=fs) (cs:=c0) rfl hg rfl (by simpa using hf w1 a2 a4) rfl ?_;rintro v w2 ⟨O2,a0,a1,a8,a5,hK⟩;refine zh ?_;refine KP ?_;have a6:a0[o]? = some (a0[o]'(zo)):=Array.getElem?_eq_getElem _;refine Fs (Kr call88 (qQ O2 i b o a0 T _ w2 a1 a6).2 ?_);rintro v w3 rfl;have a3:=a1.drew.set o (.int .u32 1);refine Kr call87 (rM O2 i b (o+1) _ T _ a3 (by rw[I8 zo];exact a5)).2 ?_;rintro v w4 rfl;exact jn rfl ⟨O2,w2,a0,a1,hK,rfl⟩
theorem uz(O:Nat->Nat)(i b o:Nat)(cs:Array I3)(T:JK)(w:ln)(hi:i≠0)(hb:J5 O w i b cs T)(h0:cs[o]? = some (.int .u32 0))(h1:cs[o+1]? = some (.int .i32 0))(g:FuncId)(fs:List I3)(c0:Array I3) 
  (hg:∀(args:Array I3) (w:ln),(callFunc g args).run IR w=.ok (.enter g args) w) (K:(Nat->Nat)->ln->Array I3->Prop)
  (hf:∀W,J5 O W i b (cs.setIfInBounds (o+1) (.int .i32 1)) T->IQ (fun k=>k=i) O w O W->Jl IR g (fs++c0.toList) W fun _ W'=>∃O' cs',J5 O' W' i b cs' T/\o+1<cs'.size/\cs'[o+1]? = some (.int .i32 1)/\K O' W' cs') :
  Jl IR 26 [.pointer (some ⟨b,o,none⟩),.func (.func g) fs.toArray c0] w fun _ w'=>∃O' W' cs',J5 O' W' i b cs' T/\K O' W' cs'/\w'=(W'.drew.setCell ⟨b,o,none⟩ (.int .u32 1)).setCell ⟨b,o+1,none⟩ (.int .i32 0):=by
 refine I2 func26 ntmps26 rfl rfl ?_;refine zh ?_
 refine zc KS (gO ⟨b,o,none⟩ 0 w (hb.cell o h0)) ?_;rintro v _ ⟨rfl,rfl⟩;refine zh ?_
 refine zTH rfl rfl ?_;refine zc call54 (ve O i b o cs T w hi hb h0 h1 g fs c0 hg K hf) ?_
 rintro v w' h;refine zh ?_;exact aD rfl h
theorem uA(b o:Nat)(w:ln)(hc:w.cell? ⟨b,o,none⟩=some (.int .u32 1))(f:I3):Jl IR 26 [.pointer (some ⟨b,o,none⟩),f] w fun _ w'=>w'=w:=by
 refine I2 func26 ntmps26 rfl rfl ?_;refine zh ?_
 refine zc KS (gO ⟨b,o,none⟩ 1 w hc) ?_;rintro v _ ⟨rfl,rfl⟩;refine zh ?_
 refine zFH rfl rfl ?_;exact aD rfl rfl
theorem sU(w:ln):Jl IR 38 [] w fun v w'=>v=.string (bs Ca)/\w'=w:=by
 refine I2 func38 ntmps38 rfl rfl ?_;refine zh ?_
 refine ae rfl rfl (⟨rfl,rfl⟩)
theorem yX(w:ln):Jl IR 39 [] w fun v w'=>v=.string (bs B8)/\w'=w:=by
 refine I2 func39 ntmps39 rfl rfl ?_;refine zh ?_
 refine ae rfl rfl (⟨rfl,rfl⟩)
theorem rR(w:ln):Jl IR 40 [] w fun v w'=>v=.string (bs B6)/\w'=w:=by
 refine I2 func40 ntmps40 rfl rfl ?_;refine zh ?_
 refine ae rfl rfl (⟨rfl,rfl⟩)
theorem Az(w:ln):Jl IR 41 [] w fun v w'=>v=.string (bs ud)/\w'=w:=by
 refine I2 func41 ntmps41 rfl rfl ?_;refine zh ?_
 refine ae rfl rfl (⟨rfl,rfl⟩)
theorem oG(m:Int)(w:ln):Jl IR 25 [nI m] w fun v w'=>v=.bool (decide (0<=m)&&decide (m<4))/\w'=w:=by
 refine I2 func25 ntmps25 rfl rfl ?_;refine zh ?_
 refine bH (fun w1=>_=w1) (decide (m<4)) 2 (rfl) rfl rfl rfl rfl rfl ?_ ?_
 ·intro a1;refine zh ?_;refine nE 5 3 (rfl) a1
 rintro _ rfl;refine zh ?_;refine ae rfl rfl (⟨rfl,rfl⟩)
def uc(m:Int):List UInt8:=if m=0 then Ca else if m=1 then B8 else if m=2 then B6 else if m=3 then ud else []
theorem zJ:∀ {m:Nat},m<4->uc m=gn m
 |0,_=>rfl
 |1,_=>rfl
 |2,_=>rfl
 |3,_=>rfl
theorem rO(m:Int)(w:ln):Jl IR 16 [nI m] w fun v w'=>v=.string (bs (uc m))/\w'=w:=by
 refine I2 func16 ntmps16 rfl rfl ?_;refine zh ?_
 by_cases h0:m=0
 ·refine zTH rfl ((by rw[h0];rfl)) ?_;refine zc call38 (sU w) ?_
  rintro v w9 ⟨rfl,a0⟩;rw[a0];clear a0 w9;refine zh ?_;refine ae rfl rfl (⟨by unfold uc;rw[if_pos h0],rfl⟩)
 refine zFH rfl ((beq_eq_false_iff_ne.2 h0)) ?_
 by_cases h1:m=1
 ·refine zTH rfl ((by rw[h1];rfl)) ?_;refine zc call39 (yX w) ?_
  rintro v w9 ⟨rfl,a0⟩;rw[a0];clear a0 w9;refine zh ?_;refine ae rfl rfl (⟨by unfold uc;rw[if_neg h0,if_pos h1],rfl⟩)
 refine zFH rfl ((beq_eq_false_iff_ne.2 h1)) ?_
 by_cases h2:m=2
 ·refine zTH rfl ((by rw[h2];rfl)) ?_;refine zc call40 (rR w) ?_
  rintro v w9 ⟨rfl,a0⟩;rw[a0];clear a0 w9;refine zh ?_;refine ae rfl rfl (⟨by unfold uc;rw[if_neg h0,if_neg h1,if_pos h2],rfl⟩)
 refine zFH rfl ((beq_eq_false_iff_ne.2 h2)) ?_
 by_cases h3:m=3
 ·refine zTH rfl ((by rw[h3];rfl)) ?_;refine zc call41 (Az w) ?_
  rintro v w9 ⟨rfl,a0⟩;rw[a0];clear a0 w9;refine zh ?_;refine ae rfl rfl (⟨by unfold uc;rw[if_neg h0,if_neg h1,if_neg h2,if_pos h3],rfl⟩)
 refine zFH rfl ((beq_eq_false_iff_ne.2 h3)) ?_;refine ae rfl rfl (⟨by unfold uc;rw[if_neg h0,if_neg h1,if_neg h2,if_neg h3];rfl,rfl⟩)
def Keeps(O:Nat->Nat)(w:ln)(P:ln->Prop):Prop:=∀(S:Nat->Prop) (O':Nat->Nat) (w':ln),IQ S O w O' w'->P w'
theorem Keeps.now{O:Nat->Nat}{w:ln}{P:ln->Prop}(h:Keeps O w P):P w:=h (fun _=>False) O w (Je (fun h=>h) O w)
theorem Keeps.upd{O O':Nat->Nat}{w w':ln}{P:ln->Prop}{S:Nat->Prop}(h:Keeps O w P)(u:IQ S O w O' w'):Keeps O' w' P:=fun S' O2 w2 v=>
 h (fun q=>S q\/S' q) O2 w2 ((u.mono (fun _ h=>.inl h) (fun e=>e.elim u.z v.z)).trans (v.mono (fun _ h=>.inr h) (fun e=>e.elim u.z v.z)))
def TabS(O:Nat->Nat)(w:ln)(m:Nat)(a0:List I3):Prop:=
 a0.length=17/\a0.all IN=true/\∃(e:Int) (B0:Nat),Keeps O w fun W=>Ju B0 W (.tuple #[.agg a0.toArray,nI e]) (eh (gn m)).li (eh (gn m)).lk (eh (gn m)).ts
theorem TabS.upd{O O':Nat->Nat}{w w':ln}{m:Nat}{a0:List I3}{S:Nat->Prop}(h:TabS O w m a0)(u:IQ S O w O' w'):TabS O' w' m a0:=by
 obtain⟨h1,h2,e,B0,h3⟩:=h;exact⟨h1,h2,e,B0,h3.upd u⟩
structure ShO(O:Nat->Nat)(w:ln)(i b:Nat)(cs:Array I3):Prop where
 blk:J5 O w i b cs 80
 size:cs.size=80
 place:∀m,m<4->(cs[m*20]? = some (.int .u32 0)/\cs[m*20+1]? = some (.int .i32 0))\/(cs[m*20]? = some (.int .u32 1)/\∃tcs,TabS O w m tcs/\∀j u,tcs[j]? = some u->cs[m*20+3+j]? = some u)
theorem ShO.upd{O O':Nat->Nat}{w w':ln}{i b:Nat}{cs:Array I3}{S:Nat->Prop}(h:ShO O w i b cs)(u:IQ S O w O' w')(hi:i≠0)(hS:¬S i):ShO O' w' i b cs:=
 ⟨h.blk.upd u hi hS,h.size,fun m hm=>(h.place m hm).imp id fun⟨h1,a0,h2,h3⟩=>⟨h1,a0,h2.upd u,h3⟩⟩
theorem xR{l us:List I3}{off j:Nat}(h:off+us.length<=l.length):(l.take off++us++l.drop (off+us.length))[j]? = if j<off then l[j]? else if j<off+us.length then us[j-off]? else l[j]?:=by
 have ht:(l.take off).length=off:=by rw[List.length_take];omega
 by_cases h1:j<off
 ·rw[if_pos h1,List.append_assoc,IX zo,List.getElem?_take,if_pos h1]
 rw[if_neg h1]
 by_cases h2:j<off+us.length
 ·rw[if_pos h2,IX (by rw[IZ];omega),Jw zo,ht]
 rw[if_neg h2,Jw (by rw[IZ];omega),IZ,ht,List.getElem?_drop];congr 1;omega
theorem IB:cC IR 80 #[(0,80)]:=⟨_,underlying80,fun w=>by kernel_rfl⟩
theorem eM(B:Nat)(O:Nat->Nat)(w:ln)(i:Nat)(hi:i≠0)(hR:JA B O w):Jl IR 8 [] w fun v w'=>∃b O' cs,v=nP b/\ShO O' w' i b cs/\IQ (fun q=>q=i) O w O' w'/\JA B O' w'/\K7 w w':=by
 refine I2 func8 ntmps8 rfl rfl ?_;refine zh ?_
 refine zv (aF IB (zeroValue80 _) rfl (by first|rfl|(simp only[J7,Jg];rfl)) rfl rfl) ?_;refine aG hR i zo rfl rfl ?_
 intro xb w1 O1 a0 a1 a2 a3;refine zh ?_;refine ae rfl rfl (⟨xb,O1,_,rfl,⟨a0,rfl,fun m hm=>.inl ?_⟩,a1,a2,a3⟩);obtain rfl|rfl|rfl|rfl:m=0\/m=1\/m=2\/m=3:=zo
 ·exact⟨rfl,rfl⟩
 ·exact⟨rfl,rfl⟩
 ·exact⟨rfl,rfl⟩
 exact⟨rfl,rfl⟩
theorem qT(b n k:Nat):(⟨b,n,none⟩:Addr).add k=⟨b,n+k,none⟩:=by
 unfold Kd
 split
 ·rename_i e;subst e;rfl
 rfl
def tK(cs:Array I3)(o:Nat)(a0:List I3):Array I3:=(cs.toList.take (o+3)++a0.toArray.toList++cs.toList.drop (o+3+a0.toArray.size)).toArray
theorem vU{cs:Array I3}{o:Nat}{a0:List I3}(h:o+3+a0.length<=cs.size)(j:Nat):(tK cs o a0)[j]? = if j<o+3 then cs[j]? else if j<o+3+a0.length then a0[j-(o+3)]? else cs[j]?:=by
 unfold tK;rw[List.getElem?_toArray];have:=xR (l:=cs.toList) (us:=a0) (off:=o+3) (j:=j) (by simpa using h);simpa using this
theorem sf{cs:Array I3}{o:Nat}{a0:List I3}(h:o+3+a0.length<=cs.size):(tK cs o a0).size=cs.size:=by
 unfold tK;simp;omega
theorem pZ(m:Int)(w:ln):Jl IR 9 [.pointer none,nI m] w fun v w'=>v=.tuple #[.agg tab0,.bool false]/\K7 w w':=by
 refine I2 func9 KR rfl rfl ?_;refine zh ?_
 refine aG (ax w) 1 zo rfl rfl ?_;intro mb w1 O1 a6 a4 a5 a9;refine au a5 2 zo (II _) rfl ?_
 intro rb w2 O2 a0 a3 a7 a8;refine zh ?_;refine zvH (cY JX rfl rfl) ?_;refine aw (d:=9) rfl (b':=true) (rfl) ?_;refine zh ?_;refine zTH rfl rfl ?_;refine zv (Jo (cells:=tab0) Cg (II _) rfl rfl) ?_;refine zsa (us:=tab0) a0 (I7 _) ?_;have a1:=a0.setRow (us:=tab0);have a2:IQ (fun q=>1<=q) (fun _=>0) w O2 (w2.setRow rb tab0):=((a4.mono (fun _ h=>zo) zd).trans (a3.mono (fun _ h=>zo) zd)).trans (I4 zd a0.tag zd);refine zh ?_;refine aW rfl rfl rfl (a1.cellsAdd) (J3 _) (I7 _) (⟨rfl,a2.ext⟩)
theorem tV(m:Nat)(hm:m<4)(B:Nat)(O O0:Nat->Nat)(w:ln)(i b pb mb ip im o:Nat)(ho:o=m*20)(cs:Array I3)(hR:JA B O w)(b6:JA B O0 w)(hi:i≠0)(a9:ip≠0/\ip≠i)(a':im≠0/\im≠i)(hb:J5 O w i b cs 80)(b9:cs.size=80) 
  (b4:J5 O w im mb #[nI (m:Nat)] 36) (b3:J5 O w ip pb #[.pointer (some ⟨b,o,none⟩)] 82) :
  Jl IR 27 [nP mb,nP pb] w fun _ w'=>∃a0 e W0,a0.length=17/\a0.all IN=true/\J5 O w' i b (tK cs o a0) 80/\IQ (fun q=>q=i) O w O w'/\JA B O W0/\JA B O0 W0/\Ju W0.heap.size w' (.tuple #[.agg a0.toArray,nI e]) (eh (gn m)).li (eh (gn m)).lk (eh (gn m)).ts:=by
 have hz:¬(fun q=>q=i) 0:=fun e=>hi e.symm
 have kE:∀W,IQ (fun q=>q=i) O w O W->W.cell? ⟨mb,0,none⟩=some (nI (m:Nat))/\W.cell? ⟨pb,0,none⟩=some (.pointer (some ⟨b,o,none⟩)):=fun W u=>⟨(b4.upd u a'.1 a'.2).cell 0 rfl,(b3.upd u a9.1 a9.2).cell 0 rfl⟩
 have a7:IQ (fun q=>q=i) O w O w.drew:=(Je hz O w).drew;have a2:∀m,m<4->(gn m).length<=1000000000:=fun m hm=>by
  obtain rfl|rfl|rfl|rfl:m=0\/m=1\/m=2\/m=3:=zo
  ·decide +kernel
  ·decide +kernel
  ·decide +kernel
  decide +kernel
 refine I2 func27 ntmps27 rfl rfl ?_;refine aI (fun W=>W.cell? ⟨mb,0,none⟩=some (nI (m:Nat))/\W.cell? ⟨pb,0,none⟩=some (.pointer (some ⟨b,o,none⟩))) 11 rfl zk ?_
 refine zin (kE _ a7) fun zS=>?_
 refine zt 0 rfl zS (fun w1 a1=>RV.ld (by first|exact a1.1|exact a1.2) rfl) ?_;refine zt 1 rfl zS (fun w1 a1=>RV.ld (by first|exact a1.1|exact a1.2) rfl) ?_
 refine IJ 2 zk rfl ?_;refine zc call16 (rO (m:Nat) w.drew) ?_
 rintro v w9 ⟨rfl,a8⟩;rw[a8,zJ hm];clear a8 w9;refine zh ?_;refine af ((kE _ a7)) ?_;refine IJ 3 zk rfl ?_;refine zc call28 (nV (gn m) w.drew (a2 m hm)) ?_;rintro v w2 ⟨b7,hP⟩;rw[(Dd (zI m)).1]at hP;obtain⟨a0,e,rfl,hC⟩:=hP;have b2:a0.length=17/\a0.all IN=true:=by
  obtain⟨b',e',h1,h2,h3⟩:=hC.shape;simp only[JE,JV,JP,JO,JN,and_true,true_and]at h1;rw[h1.1];exact⟨h2,h3⟩
 obtain⟨a3,b0⟩:=b2;have b1:IQ (fun _=>False) O w.drew O w2:=aa (fun h=>h) O b7;have a6:=a7.trans (b1.mono (fun _ h=>h.elim) hz);have a4:=hb.drew.upd b1 hi (fun h=>h);refine zh ?_;refine zaf ((kE _ a6)) fun zS=>?_
 refine zrm 4 rfl zS rfl ?_;refine zr 5 rfl zS (fun _=>I5 rfl rfl) ?_
 refine zr 6 rfl zS (fun _=>I5 rfl rfl) ?_;refine zr 7 rfl zS (fun _=>I5 rfl rfl) ?_
 refine zr 8 rfl zS (fun _=>ao rfl) ?_;refine zrf 9 rfl zS rfl ?_
 refine IJ 10 zk rfl ?_;refine dy (us:=a0.toArray) (o+3) (tK cs o a0) a4 rfl (by simp only[List.size_toArray,a3];omega) (by rw[show a0.toArray.size=17 from by simpa using a3];exact I7 _) (by simpa using b0) rfl rfl rfl ?_
 have b5:J5 O (w2.setRow b (tK cs o a0)) i b (tK cs o a0) 80:=a4.setRow;have a5:IQ (fun q=>q=i) O w2 O (w2.setRow b (tK cs o a0)):=I4 hz a4.tag rfl;have b8:=hC.upd hR.drew a5;refine zh ?_;refine af ((kE _ (a6.trans a5))) ?_;refine J0 zk ?_;exact aD rfl ⟨a0,e,w.drew,a3,b0,b5,a6.trans a5,hR.drew,b6.drew,b8⟩
set_option maxHeartbeats 1000000 in
theorem iG(m:Nat)(hm:m<4)(B:Nat)(O:Nat->Nat)(w:ln)(i b:Nat)(cs:Array I3)(hR:JA B O w)(hi:i≠0)(h:ShO O w i b cs):
  Jl IR 9 [nP b,nI (m:Nat)] w fun v w'=>∃a5 a0,v=.tuple #[.agg a0.toArray,.bool true]/\ShO O w' i b a5/\TabS O w' m a0/\IQ (fun q=>q=i) O w O w':=by
 obtain⟨T,h7,hT⟩:=hR.bound;have h6:i<T:=by rw[<-h.blk.tag];exact hT b
 have a6:¬(fun q:Nat=>q=i\/T<=q) 0:=fun e=>by rcases e with e|e<;>omega
 have b7:¬(fun q:Nat=>q=i) 0:=fun e=>hi e.symm
 refine I2 func9 KR rfl rfl ?_;refine zh ?_
 refine aG hR T zo rfl rfl ?_;intro mb w1 O1 f5 e7 h4 h';refine au h4 (T+1) zo (II _) rfl ?_
 intro rb w2 O2 f3 d7 h3 h9;have c9:=f5.upd d7 zo zo;have d3:IQ (fun q=>q=i\/T<=q) O w O2 w2:=(e7.mono (fun _ h=>.inr (by rw[h];exact Jr _)) a6).trans (d7.mono (fun _ h=>.inr (by rw[h];omega)) a6);have c0:w2.cell? ⟨mb,0,none⟩=some (nI (m:Nat)):=c9.cell 0 rfl;refine zh ?_;refine zvH (cY JX rfl rfl) ?_;refine aw (d:=9) rfl (b':=false) (rfl) ?_;refine zh ?_;refine zc call25 (oG (m:Nat) w2) ?_;rintro v w9 ⟨rfl,b3⟩;rw[b3,show(decide ((0:Int)<=(m:Nat))&&decide (((m:Nat):Int)<4))=true from by rw[decide_eq_true zo,decide_eq_true zo];rfl];clear b3 w9;refine zh ?_;refine aQ rfl rfl ?_;have kE:∀O3 W,IQ (fun q=>q=T+2) O2 w2 O3 W->W.cell? ⟨mb,0,none⟩=some (nI (m:Nat)):=fun O3 W u=>(c9.upd u zo zo).cell 0 rfl
 have e4:IQ (fun q=>q=T+2) O2 w2 O2 w2.drew:=(Je zo O2 w2).drew;refine zh ?_;refine aI (fun W=>W.cell? ⟨mb,0,none⟩=some (nI (m:Nat))) 7 rfl zk ?_;refine zin (kE _ _ e4) fun zS=>?_
 refine zrm 0 rfl zS rfl ?_;refine zt 1 rfl zS (fun w1 e9=>RV.ld e9 rfl) ?_
 refine zr 2 rfl zS (fun _=>ao rfl) ?_;refine zrf 3 rfl zS rfl ?_
 refine zr 4 rfl zS (fun _=>ky underlying78 (sizeOf77 _) rfl rfl m rfl hm) ?_;refine IJ 5 zk rfl ?_
 refine au h3.drew (T+2) zo (zeroValue82 _) rfl ?_;intro pb w4 O5 c7 f' g' h8;rw[show Kd (Kd ⟨b,0,none⟩ 0) (m*20)=⟨b,m*20,none⟩from by rw[qT,qT];simp];have b4:=e4.trans f';refine zh ?_
 refine af ((kE _ _ b4)) ?_;refine IJ 6 zk rfl ?_
 refine ak (j:=0) c7 rfl (sizeOf82 _) rfl rfl rfl rfl ?_;have b8:J5 O5 (w4.setCell ⟨pb,0,none⟩ (.pointer (some ⟨b,m*20,none⟩))) (T+2) pb #[.pointer (some ⟨b,m*20,none⟩)] 82:=c7.set 0 (.pointer (some ⟨b,m*20,none⟩));have e6:IQ (fun q=>q=T+2) O5 w4 O5 (w4.setCell ⟨pb,0,none⟩ (.pointer (some ⟨b,m*20,none⟩))):=IL zo c7.tag rfl;have a3:=b4.trans e6;have g9:=g'.upd e6;generalize w4.setCell ⟨pb,0,none⟩ (.pointer (some ⟨b,m*20,none⟩))=w5 at *;refine zh ?_
 refine af ((kE _ _ a3)) ?_;have f4:=c9.upd a3 zo zo;have d9:=f3.upd a3 zo zo;have a9:=d3.trans (a3.mono (fun _ h=>.inr (by rw[h];omega)) a6);have d5:IQ (fun q=>T<=q) O w O5 w5:=((e7.mono (fun _ h=>by rw[h];exact Jr _) zo).trans (d7.mono (fun _ h=>by rw[h];omega) zo)).trans (a3.mono (fun _ h=>by rw[h];omega) zo);have b9:=h.blk.upd d5 hi zo;have r2:w5.cell? ⟨pb,0,none⟩=some (.pointer (some ⟨b,m*20,none⟩)):=b8.cell 0 rfl;have a':=h.size;have e1:∀(W:ln) (d8:Array I3) (a0:List I3),J5 O5 W i b d8 80->(∀j u,a0[j]? = some u->d8[m*20+3+j]? = some u)->∀(j:Nat) (u:I3),a0[j]? = some u->W.cell? (((⟨b,m*20,none⟩:Addr).add 3).add j)=some u:=fun W d8 a0 hB hc j u hu=>by rw[qT,qT];exact hB.cell (m*20+3+j) (hc j u hu)
 refine J0 zk ?_;refine zh ?_
 refine zv (dA rfl rfl) ?_;have d0:∀W,J5 O5 W i b (cs.setIfInBounds (m*20+1) (.int .i32 1)) 80->IQ (fun q=>q=i) O5 w5 O5 W->Jl IR 27 ([]++(#[nP mb,nP pb]:Array I3).toList) W fun _ W'=>∃O' a5,J5 O' W' i b a5 80/\m*20+1<a5.size/\a5[m*20+1]? = some (.int .i32 1)/\O'=O5/\IQ (fun q=>q=i) O5 w5 O5 W'/\∃a0 e W0,a0.length=17/\a0.all IN=true/\a5=tK (cs.setIfInBounds (m*20+1) (.int .i32 1)) (m*20) a0/\JA B O5 W0/\JA B O W0/\Ju W0.heap.size W' (.tuple #[.agg a0.toArray,nI e]) (eh (gn m)).li (eh (gn m)).lk (eh (gn m)).ts:=fun W a8 a4=>by
  refine Kg (tV m hm B O5 O W i b pb mb (T+2) T (m*20) rfl (cs.setIfInBounds (m*20+1) (.int .i32 1)) (g9.upd a4) (hR.upd ((a9.trans (a4.mono (fun _ h=>.inl h) a6)).priv hT hi)) hi zo zo a8 (by simpa using a') (f4.upd a4 zo zo) (b8.upd a4 zo zo)) ?_;rintro v W' ⟨a0,e,W0,g1,g2,g3,g4,g5,g6,g7⟩;have hz:m*20+3+a0.length<=(cs.setIfInBounds (m*20+1) (.int .i32 1)).size:=by simp[a',g1];omega
  exact⟨O5,_,g3,by rw[sf hz];simp[a'];omega,by rw[vU hz,if_pos zo,Jh zo],rfl,a4.trans g4,a0,e,W0,g1,g2,rfl,g5,g6,g7⟩
 rcases h.place m hm with⟨h0,h1⟩|⟨h0,a0,g0,f6⟩
 ·refine zc call26 (uz O5 i b (m*20) cs 80 w5 hi b9 h0 h1 27 [] #[nP mb,nP pb] call27 (fun O' W' a5=>O'=O5/\IQ (fun q=>q=i) O5 w5 O5 W'/\∃a0 e W0,a0.length=17/\a0.all IN=true/\a5=tK (cs.setIfInBounds (m*20+1) (.int .i32 1)) (m*20) a0/\JA B O5 W0/\JA B O W0/\Ju W0.heap.size W' (.tuple #[.agg a0.toArray,nI e]) (eh (gn m)).li (eh (gn m)).lk (eh (gn m)).ts) (fun W a8 a4=>d0 W a8 a4)) ?_;rintro v w9 ⟨O',W',a5,a8,⟨hO,a4,a0,e0,W0,a1,b0,rfl,b5,b6,hC⟩,rfl⟩;obtain rfl:O5=O':=hO.symm;have e3:=(a8.drew.set (m*20) (.int .u32 1)).set (m*20+1) (.int .i32 0);have f9:IQ (fun q=>q=i) O5 W' O5 W'.drew:=(Je b7 O5 W').drew;have f8:IQ (fun q=>q=i) O5 W'.drew O5 (W'.drew.setCell ⟨b,m*20,none⟩ (.int .u32 1)):=IL b7 a8.tag rfl;have f7:IQ (fun q=>q=i) O5 (W'.drew.setCell ⟨b,m*20,none⟩ (.int .u32 1)) O5 ((W'.drew.setCell ⟨b,m*20,none⟩ (.int .u32 1)).setCell ⟨b,m*20+1,none⟩ (.int .i32 0)):=IL b7 a8.tag rfl;have e5:=(f9.trans f8).trans f7;have d6:=a4.trans e5;have h5:=hC.upd b5 e5;have d':(tK (cs.setIfInBounds (m*20+1) (.int .i32 1)) (m*20) a0).size=80:=by rw[sf (by simp[a',a1];omega)];simpa using a'
  have a2:∀x,x≠m*20->x≠m*20+1->(((tK (cs.setIfInBounds (m*20+1) (.int .i32 1)) (m*20) a0).setIfInBounds (m*20) (.int .u32 1)).setIfInBounds (m*20+1) (.int .i32 0))[x]? = if x<m*20+3 then cs[x]? else if x<m*20+3+a0.length then a0[x-(m*20+3)]? else cs[x]?:=fun x h1 h2=>by
   rw[I8 zo,I8 zo,vU (by simp[a',a1];omega),I8 zo]
  have c8:(((tK (cs.setIfInBounds (m*20+1) (.int .i32 1)) (m*20) a0).setIfInBounds (m*20) (.int .u32 1)).setIfInBounds (m*20+1) (.int .i32 0))[m*20]? = some (.int .u32 1):=by
   rw[I8 zo,Jh (by rw[d'];omega)]
  have e':(((tK (cs.setIfInBounds (m*20+1) (.int .i32 1)) (m*20) a0).setIfInBounds (m*20) (.int .u32 1)).setIfInBounds (m*20+1) (.int .i32 0)).size=80:=by rw[JC,JC,d']
  generalize (W'.drew.setCell ⟨b,m*20,none⟩ (.int .u32 1)).setCell ⟨b,m*20+1,none⟩ (.int .i32 0)=w6 at *;generalize ((tK (cs.setIfInBounds (m*20+1) (.int .i32 1)) (m*20) a0).setIfInBounds (m*20) (.int .u32 1)).setIfInBounds (m*20+1) (.int .i32 0)=cs6 at *;have e2:∀j u,a0[j]? = some u->cs6[m*20+3+j]? = some u:=fun j u hu=>by
   have hj:j<a0.length:=(IW.1 hu).1;rw[a2 _ zo zo,if_neg zo,if_pos zo,show m*20+3+j-(m*20+3)=j from by omega];exact hu
  have c5:=e1 w6 cs6 a0 e3 e2;have r3:w6.cell? ⟨pb,0,none⟩=some (.pointer (some ⟨b,m*20,none⟩)):=(b8.upd d6 zo zo).cell 0 rfl;have a7:=I9 d9 d6 zo zo;refine zh ?_;refine zv (ah (us:=a0) c5 (J3 _) (by rw[a1];exact I7 _) rfl) ?_;refine bd (us:=a0.toArray) a7 (show a0.toArray.size=17 from by simpa using a1) (by rw[show a0.toArray.size=17 from by simpa using a1];exact I7 _) (by simpa using b0) rfl rfl rfl ?_;have c6:=Jd (us:=a0.toArray) a7;have b2:IQ (fun q=>q=T+1) O5 w6 O5 (J9 w6 rb a0.toArray):=I4 zo a7.tag rfl;have d1:=I9 e3 b2 hi zo;have d2:=(a9.trans (KI d6 (fun _ h=>.inl h) a6)).trans (b2.mono (fun _ h=>.inr (by rw[h];omega)) a6);have b1:=d2.priv hT hi;have e8:=h5.upd b5 b2;refine zh ?_;refine aW (us:=a0) rfl rfl rfl (fun j u hu=>by simpa using c6.cellsAdd j u (by simpa using hu)) (J3 _) (by rw[a1];exact I7 _) ⟨cs6,a0,rfl,?_,?_,b1⟩
  ·have g8:TabS O (w6.setRow rb a0.toArray) m a0:=⟨a1,b0,e0,W0.heap.size,fun S O'' w'' u=>e8.upd b6 u⟩
   refine⟨d1.fgt h.blk.tag,e',fun m' c'=>?_⟩
   by_cases em:m'=m
   ·subst em;exact .inr ⟨c8,a0,g8,e2⟩
   rcases h.place m' c' with⟨p0,p1⟩|⟨p0,t',p1,p2⟩
   ·refine .inl ⟨?_,?_⟩
    ·rw[a2 _ zo zo]
     split
     ·exact p0
     rw[if_neg zo];exact p0
    rw[a2 _ zo zo]
    split
    ·exact p1
    rw[if_neg zo];exact p1
   refine .inr ⟨?_,t',p1.upd b1,fun j u hu=>?_⟩
   ·rw[a2 _ zo zo]
    split
    ·exact p0
    rw[if_neg zo];exact p0
   have hj:j<t'.length:=(IW.1 hu).1;have hl:=p1.1;rw[a2 _ zo zo]
   split
   ·exact p2 j u hu
   rw[if_neg zo];exact p2 j u hu
  exact⟨a1,b0,e0,W0.heap.size,fun S O'' w'' u=>e8.upd b6 u⟩
 refine zc call26 (uA b (m*20) w5 (b9.cell (m*20) h0) _) ?_;rintro v w9 b3;rw[b3];clear b3 w9;obtain⟨a1,b0,e0,B0,hK⟩:=g0;have c5:=e1 w5 cs a0 b9 f6;have d4:IQ (fun q=>q=i) O5 w5 O5 w5:=Je b7 O5 w5;have r3:w5.cell? ⟨pb,0,none⟩=some (.pointer (some ⟨b,m*20,none⟩)):=(b8.upd d4 zo zo).cell 0 rfl;have a7:=I9 d9 d4 zo zo;refine zh ?_
 refine zv (ah (us:=a0) c5 (J3 _) (by rw[a1];exact I7 _) rfl) ?_;refine bd (us:=a0.toArray) a7 (show a0.toArray.size=17 from by simpa using a1) (by rw[show a0.toArray.size=17 from by simpa using a1];exact I7 _) (by simpa using b0) rfl rfl rfl ?_
 have c6:=Jd (us:=a0.toArray) a7;have b2:IQ (fun q=>q=T+1) O5 w5 O5 (J9 w5 rb a0.toArray):=I4 zo a7.tag rfl;have d1:=I9 b9 b2 hi zo;have d2:=(a9.trans (KI d4 (fun _ h=>.inl h) a6)).trans (b2.mono (fun _ h=>.inr (by rw[h];omega)) a6);have b1:=d2.priv hT hi;refine zh ?_;refine aW (us:=a0) rfl rfl rfl (fun j u hu=>by simpa using c6.cellsAdd j u (by simpa using hu)) (J3 _) (by rw[a1];exact I7 _) ⟨cs,a0,rfl,⟨d1.fgt h.blk.tag,h.size,fun m' c'=>(h.place m' c').imp id (fun⟨p0,t',p1,p2⟩=>⟨p0,t',p1.upd b1,p2⟩)⟩,⟨a1,b0,e0,B0,hK.upd b1⟩,b1⟩
abbrev Ii(n:Nat):I3:=.int .u64 (n:Int)
theorem yv(la lb:List Nat)(av bv:I3)(w:ln)(ha:Sl (fun x:Nat => [Ii x]) 1 w av la)(hb:Sl (fun x:Nat => [Ii x]) 1 w bv lb):
    Jl IR 74 [av, bv] w fun v w' => v = .bool (la == lb) ∧ K7 w w' := by
  have hal := ha.len_le
  refine I2 func74 ntmps74 rfl rfl ?_
  refine zh ?_
  refine zC ?_ ?_
  · intro hne
    refine zh ?_
    refine ae rfl rfl (⟨?_, IP _⟩)
    have:la ≠ lb := fun e => by subst e; simp at hne
    simpa using this.symm ∘ Eq.symm
  · intro heq
    replace heq : la.length = lb.length := by have : (la.length : Int) = lb.length := by simpa using heq
                                              omega
    refine zh ?_
    refine zlp (fun x:Nat×ln => [(0, av), (1, bv), (12, .int .i64 la.length), (13, .int .i64 x.1)]) (fun x => x.2) (fun x => x.1 ≤ la.length ∧ K7 w x.2 ∧ la.take x.1 = lb.take x.1) (fun x => la.length - x.1) (0, w) (⟨Ji _, IP _, rfl⟩) ?_
    rintro⟨k, w1⟩ ⟨hk, hE, htk⟩
    dsimp only at hk hE htk ⊢
    have ha1 := ha.ext hE
    have hb1 := hb.ext hE
    refine zh ?_
    refine zC ?_ ?_
    · intro hlt
      replace hlt:k < la.length := by have := of_decide_eq_true hlt; omega
      refine zh ?_
      refine WC.still (by kernel_rfl) (by kernel_rfl) ?_
      refine zh ?_
      refine zwH (RV.ld (by first | exact ha1.ld (by omega) | exact hb1.ld (by omega)) rfl) ?_
      refine zwH (RV.ld (by first | exact ha1.ld (by omega) | exact hb1.ld (by omega)) rfl) ?_
      refine WS.nil ?_
      refine zh ?_
      refine zC ?_ ?_
      · intro hne
        refine zh ?_
        refine ae rfl rfl (⟨?_, hE.drew⟩)
        have:la ≠ lb := fun e => by subst e; simp at hne
        simpa using this
      · intro hee
        refine zh ?_
        refine zxd (k + 1, w1.drew) (⟨hlt, hE.drew, by rw[aJ hlt, aJ (by omega:k < lb.length), htk]; first | simpa using hee | (simp at hee; simp; omega)⟩)
    · intro hge
      replace hge:la.length ≤ k := by have := of_decide_eq_false hge; omega
      refine zh ?_
      refine ae rfl rfl (⟨?_, hE⟩)
      rw[JJ hge, JJ (by omega)]at htk
      simp[htk]
theorem lA(p:PSt)(tl:List Nat)(cs a3:List I3)(w:ln)(h:Ko w cs p tl)(h':Ko w a3 p tl):
  Jl IR 37 [.agg cs.toArray,.agg a3.toArray] w fun u w'=>u=.bool true/\K7 w w':=by
 obtain⟨u1,b1,k1,n1,t1,rfl,a6,b5,b3,a',a8⟩:=h;obtain⟨u2,b2,k2,n2,t2,rfl,a5,b4,b0,a9,a7⟩:=h';refine I2 func37 ntmps37 rfl rfl ?_;refine zh ?_;refine aG (ax w) 1 zo rfl rfl ?_;intro x1 w1 O1 a4 c6 b7 c5;refine aG b7 2 zo rfl rfl ?_;intro x2 w2 O2 a2 b6 c7 b9;have a0:=a4.upd b6 zd zd;have hE:=c5.trans b9
 have c1:∀j u,[nI p.width,u1,b1,k1,n1][j]? = some u->w2.cell? ((nA x1 0).add j)=some u:=fun j u hu=>a0.cellsAdd j u (by
  have hj:=(IW.1 hu).1;show([nI p.width,u1,b1,k1,n1]++[t1])[j]? = _
  rw[IX hj];exact hu)
 have c2:∀j u,[nI p.width,u2,b2,k2,n2][j]? = some u->w2.cell? ((nA x2 0).add j)=some u:=fun j u hu=>a2.cellsAdd j u (by
  have hj:=(IW.1 hu).1;show([nI p.width,u2,b2,k2,n2]++[t2])[j]? = _
  rw[IX hj];exact hu)
 refine zh ?_;refine zvH (ah (us:=[nI p.width,u1,b1,k1,n1]) c1 (isAgg26 _) (sizeOf26 _) rfl) ?_
 refine zv (ah (us:=[nI p.width,u2,b2,k2,n2]) c2 (isAgg26 _) (sizeOf26 _) rfl) ?_;refine zc call73 (Ae p p _ _ w2 ⟨u1,b1,k1,n1,rfl,a6.ext hE,b5.ext hE,b3.ext hE,a'.ext hE⟩ ⟨u2,b2,k2,n2,rfl,a5.ext hE,b4.ext hE,b0.ext hE,a9.ext hE⟩) ?_
 rintro _ w3 ⟨rfl,a1⟩;rw[qZ];have d1:w3.cell? (nA x1 5)=some t1:=a1.cell (a0.cell 5 rfl);have d2:w3.cell? (nA x2 5)=some t2:=a1.cell (a2.cell 5 rfl);refine zh ?_;refine aw (d:=10) rfl (b':=true) (rfl) ?_;refine zh ?_;refine zc call74 (yv tl tl t1 t2 w3 (a8.ext (hE.trans a1)) (a7.ext (hE.trans a1))) ?_;rintro _ w4 ⟨rfl,b8⟩;refine zh ?_;refine ae rfl rfl (⟨by simp,(hE.trans a1).trans b8⟩)
theorem mM(t:TabM)(v v':I3)(w:ln)(h:Kf w v t)(h':Kf w v' t):Jl IR 15 [v,v'] w fun u w'=>u=.bool true/\K7 w w':=by
 obtain⟨g1,l1,r1,rfl,b0,a7,a5⟩:=h;obtain⟨g2,l2,r2,rfl,a',a6,a4⟩:=h';refine I2 func15 ntmps15 rfl rfl ?_;refine zh ?_;refine aG (ax w) 1 zo rfl rfl ?_;intro x1 w1 O1 a9 b8 b4 b7;refine aG b4 2 zo rfl rfl ?_;intro x2 w2 O2 a8 b3 b9 b6;have hE:=b7.trans b6;have T1:=nN (t:=t) (a9.upd b3 zd zd) (b0.ext hE) (a7.ext hE) (a5.ext hE);have T2:=nN (t:=t) a8 (a'.ext hE) (a6.ext hE) (a4.ext hE);refine zh ?_;refine zvH (RV.ld (by first|exact T1.c0|exact T2.c0) rfl) ?_;refine zvH (RV.ld (by first|exact T1.c0|exact T2.c0) rfl) ?_;refine aw (d:=10) rfl (b':=true) ((by simp)) ?_;refine zh ?_;refine zvH (RV.ld (by first|exact T1.c1|exact T2.c1) rfl) ?_;refine zvH (RV.ld (by first|exact T1.c1|exact T2.c1) rfl) ?_;refine aw (d:=17) rfl (b':=true) ((by simp)) ?_;refine zh ?_;refine zvH (RV.ld (by first|exact T1.c2|exact T2.c2) rfl) ?_;refine zvH (RV.ld (by first|exact T1.c2|exact T2.c2) rfl) ?_;refine aw (d:=24) rfl (b':=true) ((by simp)) ?_;refine zh ?_;refine zvH (RV.ld (by first|exact T1.c3|exact T2.c3) rfl) ?_;refine zvH (RV.ld (by first|exact T1.c3|exact T2.c3) rfl) ?_;refine aw (d:=31) rfl (b':=true) ((by simp)) ?_;refine zh ?_;refine zvH (RV.ld (by first|exact T1.c4|exact T2.c4) rfl) ?_;refine zvH (RV.ld (by first|exact T1.c4|exact T2.c4) rfl) ?_;refine zc call36 (fw t.groups t.groups g1 g2 w2 T1.groups T2.groups) ?_;rintro _ w3 ⟨rfl,a3⟩;have T3:=T1.ext a3;have S3:=T2.ext a3;have a1:=T3.cl;have a2:=S3.cl
 refine zh ?_;refine aw (d:=38) rfl (b':=true) ((by simp)) ?_
 refine zh ?_;refine zvH (ah (us:=l1) a1 (Ki _) (by rw[a7.one.1];exact K8 _) rfl) ?_
 refine zvH (ah (us:=l2) a2 (Ki _) (by rw[a6.one.1];exact K8 _) rfl) ?_;refine zc call37 (lA t.left t.lt l1 l2 w3 T3.left S3.left) ?_
 rintro _ w4 ⟨rfl,a0⟩;have T4:=T3.ext a0;have S4:=S3.ext a0;have b1:=T4.cr;have b2:=S4.cr;refine zh ?_;refine aw (d:=45) rfl (b':=true) (rfl) ?_;refine zh ?_;refine zvH (ah (us:=r1) b1 (Ki _) (by rw[a5.one.1];exact K8 _) rfl) ?_;refine zvH (ah (us:=r2) b2 (Ki _) (by rw[a4.one.1];exact K8 _) rfl) ?_;refine zc call37 (lA t.right t.rt r1 r2 w4 T4.right S4.right) ?_;rintro _ w5 ⟨rfl,b5⟩;refine zh ?_;refine ae rfl rfl (⟨rfl,((hE.trans a3).trans a0).trans b5⟩)
abbrev stS(m:Nat):St:=eh (gn m)
abbrev Ij:TabM:=⟨0,0,0,0,[],⟨0,[],[],[],[]⟩,[],⟨0,[],[],[],[]⟩,[]⟩
theorem C7(w:ln):Kf w (.agg tab0) Ij:=
 have e:∀ {α:Type} (enc:α->List I3) (w:ln),Sl enc 1 w (nS) ([]:List α):=fun enc w=>⟨⟨none,0,rfl,Jr _,zd,fun h=>absurd rfl h⟩,fun i hi=>absurd hi (Kc i)⟩
 ⟨nS,dc,dc,rfl,e _ w,⟨_,_,_,_,_,rfl,e _ w,e _ w,e _ w,e _ w,e _ w⟩,⟨_,_,_,_,_,rfl,e _ w,e _ w,e _ w,e _ w,e _ w⟩⟩
theorem TabS.made{O:Nat->Nat}{w:ln}{m:Nat}{a3:List I3}(h:TabS O w m a3):∃a b a1 a0 gv lc rc,Made (stS m).li (stS m).lk (stS m).ts a b a1 a0/\a3=eI (bM (stS m).li (stS m).lk (stS m).ts a b a1 a0).ig (bM (stS m).li (stS m).lk (stS m).ts a b a1 a0).kp (bM (stS m).li (stS m).lk (stS m).ts a b a1 a0).br (bM (stS m).li (stS m).lk (stS m).ts a b a1 a0).rules gv lc rc/\Ints w gv (bM (stS m).li (stS m).lk (stS m).ts a b a1 a0).groups/\Ko w lc (bM (stS m).li (stS m).lk (stS m).ts a b a1 a0).left (bM (stS m).li (stS m).lk (stS m).ts a b a1 a0).lt/\Ko w rc (bM (stS m).li (stS m).lk (stS m).ts a b a1 a0).right (bM (stS m).li (stS m).lk (stS m).ts a b a1 a0).rt:=by
 obtain⟨h1,h2,e,B0,hK⟩:=h;obtain⟨_,hr,ha,hb⟩:=Dd (zI m)
 rcases hK.now.made with⟨e',a4,hv,a2⟩|⟨a,b,a1,a0,gv,lc,rc,hM,hv,k1,k2,k3,hn⟩
 ·exfalso
  rcases a2 with⟨_,h1⟩|⟨_,_,h1|h1⟩
  ·rw[hr]at h1;cases h1
  ·rw[h1]at ha;cases ha
  rw[h1]at hb;cases hb
 refine⟨a,b,a1,a0,gv,lc,rc,hM,?_,k1,k2,k3⟩;simp only[JE,JV,JP,JO,JN,and_true,true_and]at hv;exact hv.1
theorem TabS.same{O O':Nat->Nat}{w:ln}{m:Nat}{t1 t2:List I3}(h1:TabS O w m t1)(h2:TabS O' w m t2):∃t,Kf w (.agg t1.toArray) t/\Kf w (.agg t2.toArray) t:=by
 obtain⟨a,b,b0,a9,gv,lc,rc,hM,rfl,k1,k2,k3⟩:=h1.made;obtain⟨a',b',a8,a7,a6,a4,a3,a5,rfl,a2,a1,a0⟩:=h2.made;have e:=a5.one hM;rw[e]at a2 a1 a0 ⊢;exact⟨_,⟨gv,lc,rc,rfl,k1,k2,k3⟩,⟨a6,a4,a3,rfl,a2,a1,a0⟩⟩
theorem rP(m:Int)(hm:¬(0<=m/\m<4))(b:Nat)(w:ln):Jl IR 9 [nP b,nI m] w fun v w'=>v=.tuple #[.agg tab0,.bool false]/\K7 w w':=by
 refine I2 func9 KR rfl rfl ?_;refine zh ?_
 refine aG (ax w) 1 zo rfl rfl ?_;intro mb w1 O1 a5 a7 a8 b0;refine au a8 2 zo (II _) rfl ?_
 intro rb w2 O2 a0 a2 a9 a';have a4:=a5.upd a2 zd zd;have c0:w2.cell? ⟨mb,0,none⟩=some (nI m):=a4.cell 0 rfl;refine zh ?_;refine zvH (cY JX rfl rfl) ?_;refine aw (d:=9) rfl (b':=false) (rfl) ?_;refine zh ?_;refine zc call25 (oG m w2) ?_;rintro v w9 ⟨rfl,a1⟩
 rw[a1,show(decide (0<=m)&&decide (m<4))=false from by
  by_cases h:0<=m
  ·rw[decide_eq_true h,decide_eq_false (fun e=>hm ⟨h,e⟩)];rfl
  rw[decide_eq_false h];rfl]
 clear a1 w9;refine zh ?_;refine zTH rfl rfl ?_;refine zv (Jo (cells:=tab0) Cg (II _) rfl rfl) ?_;refine zsa (us:=tab0) a0 (I7 _) ?_;have a3:=a0.setRow (us:=tab0);have a6:IQ (fun q=>1<=q) (fun _=>0) w O2 (w2.setRow rb tab0):=((a7.mono (fun _ h=>zo) zd).trans (a2.mono (fun _ h=>zo) zd)).trans (I4 zd a0.tag zd);refine zh ?_;refine aW rfl rfl rfl (a3.cellsAdd) (J3 _) (I7 _) (⟨rfl,a6.ext⟩)
def fp(m:Int):Bool:=decide (0<=m)&&decide (m<4)
def AnsS(O:Nat->Nat)(w:ln)(m:Int)(a0:List I3):Prop:=a0.length=17/\a0.all IN=true/\((fp m=true/\TabS O w m.toNat a0)\/(fp m=false/\a0=tab0.toList))
theorem AnsS.upd{O O':Nat->Nat}{w w':ln}{m:Int}{a0:List I3}{S:Nat->Prop}(h:AnsS O w m a0)(u:IQ S O w O' w'):AnsS O' w' m a0:=⟨h.1,h.2.1,h.2.2.imp (fun h=>⟨h.1,h.2.upd u⟩) id⟩
theorem AnsS.same{O O':Nat->Nat}{w:ln}{m:Int}{t1 t2:List I3}(h1:AnsS O w m t1)(h2:AnsS O' w m t2):∃t,Kf w (.agg t1.toArray) t/\Kf w (.agg t2.toArray) t:=by
 rcases h1.2.2 with⟨a1,a2⟩|⟨a1,rfl⟩
 ·rcases h2.2.2 with⟨b1,b2⟩|⟨b1,_⟩
  ·exact a2.same b2
  rw[a1]at b1;cases b1
 rcases h2.2.2 with⟨b1,b2⟩|⟨b1,rfl⟩
 ·rw[a1]at b1;cases b1
 exact⟨Ij,C7 w,C7 w⟩
theorem dO(m:Int)(B:Nat)(O:Nat->Nat)(w:ln)(i b:Nat)(cs:Array I3)(hR:JA B O w)(hi:i≠0)(h:ShO O w i b cs):
  Jl IR 9 [nP b,nI m] w fun v w'=>∃a2 a1,v=.tuple #[.agg a1.toArray,.bool (fp m)]/\ShO O w' i b a2/\AnsS O w' m a1/\IQ (fun q=>q=i) O w O w':=by
 by_cases hm:0<=m/\m<4
 ·obtain⟨n,rfl⟩:∃n:Nat,m=(n:Int):=⟨m.toNat,zo⟩
  have a0:fp (n:Int)=true:=by unfold fp;rw[decide_eq_true hm.1,decide_eq_true hm.2];rfl
  refine Kg (iG n zo B O w i b cs hR hi h) ?_;rintro v w' ⟨a2,a1,rfl,h1,h2,h3⟩;exact⟨a2,a1,by rw[a0],h1,⟨h2.1,h2.2.1,.inl ⟨a0,h2⟩⟩,h3⟩
 have a0:fp m=false:=by
  unfold fp
  by_cases h:0<=m
  ·rw[decide_eq_true h,decide_eq_false (fun e=>hm ⟨h,e⟩)];rfl
  rw[decide_eq_false h];rfl
 refine Kg (rP m hm b w) ?_;rintro v w' ⟨rfl,hE⟩;have hU:IQ (fun q=>q=i) O w O w':=aa (fun e=>hi e.symm) O hE;exact⟨cs,tab0.toList,by rw[a0],h.upd (aa (S:=fun _=>False) (fun h=>h) O hE) hi (fun h=>h),⟨rfl,rfl,.inr ⟨a0,rfl⟩⟩,hU⟩
theorem nF(w:ln)(hT:ke w):Jl IR 7 [] w fun v w'=>v=.bool true/\K7 w w':=by
 refine I2 func7 ntmps7 rfl rfl ?_;refine zh ?_
 refine zc KN (eM w.heap.size (fun _=>0) w 1 zd (ax w)) ?_;rintro v w1 ⟨b,O1,cs,rfl,b9,b7,a',d2⟩;refine zc K9 (iG 3 zd w.heap.size O1 w1 1 b cs a' zd b9) ?_
 rintro v w2 ⟨d3,a0,rfl,c',a9,a8⟩;have c5:=a'.upd a8;obtain⟨a4,b5,_⟩:=id a9;refine zh ?_;refine au c5 2 zo (II _) rfl ?_;intro tb w3 O3 a3 b6 d0 d1;refine bd (us:=a0.toArray) a3 (show a0.toArray.size=17 from by simpa using a4) (by rw[show a0.toArray.size=17 from by simpa using a4];exact I7 _) (by simpa using b5) rfl rfl rfl ?_;have b2:=a3.setRow (us:=a0.toArray);have a7:IQ (fun q=>q=2) O1 w2 O3 (w3.setRow tb a0.toArray):=b6.trans (I4 zd a3.tag rfl);have a1:IQ (fun q=>1<=q) (fun _=>0) w O3 (w3.setRow tb a0.toArray):=((b7.mono (fun _ h=>zo) zd).trans (a8.mono (fun _ h=>zo) zd)).trans (a7.mono (fun _ h=>zo) zd);have b8:=a9.upd a7;generalize w3.setRow tb a0.toArray=w4 at *;obtain⟨a,bb,c9,c8,gv,lc,rc,hM,b1,k1,k2,k3⟩:=b8.made;have hi:=hM.inv;have a5:=hM.breaks [18,29,18] zd;rw[show qN (stS 3).li (stS 3).lk [18,29,18] (stS 3).ts=[true,false,true,true]from yL]at a5;generalize bM (stS 3).li (stS 3).lk (stS 3).ts a bb c9 c8=t at *;refine zh ?_;refine aw (d:=9) rfl (b':=true) (rfl) ?_;refine zh ?_;refine zvH (ah (us:=a0) (fun j u hu=>by simpa using b2.cellsAdd j u (by simpa using hu)) (J3 _) (by rw[a4];exact I7 _) rfl) ?_;refine ed IK (Ja _) (zeroValue3 _) encI [18,29,18] rfl rfl rfl rfl zk (by simp) rfl ?_;intro dv w5 b4 a2;rw[b1];refine zh ?_
 refine zc call11 (ox w5 t gv lc rc (k1.ext a2) (k2.ext a2) (k3.ext a2) hi.ok hi.right (lu hT (a1.ext.trans a2)) [18,29,18] dv b4 zd) ?_;rintro bv w6 ⟨a6,c7⟩;rw[a5]at a6;refine zh ?_
 refine ed JW (JY _) (zeroValue4 _) th [true,false,true,true] rfl rfl rfl rfl zk (by simp) rfl ?_;intro ev w7 b3 b0;refine zh ?_
 refine zc call12 (uV [true,false,true,true] [true,false,true,true] bv ev w7 (a6.ext b0) b3) ?_;rintro v w8 ⟨rfl,c6⟩;refine zh ?_
 refine ae rfl rfl (⟨rfl,(((a1.ext.trans a2).trans c7).trans b0).trans c6⟩)
set_option maxHeartbeats 1000000 in
theorem mH(ms:List Int)(dv:I3)(w:ln)(hd:Ints w dv ms)(hT:ke w): Jl IR 5 [dv] w fun v w' => v = .bool true ∧ K7 w w' := by
 have hlen := hd.len_le
 refine I2 func5 ntmps5 rfl rfl ?_
 refine IH ?_
 refine I6 ?_
 refine zv (IS rfl) ?_
 refine I0 ?_
 refine aj ?_
 refine IH ?_
 refine IH ?_
 refine I6 ?_
 refine zv (ix rfl) ?_
 refine zv (K2 (by first | exact hd) IK rfl) ?_
 refine zv (RV.gtr rfl rfl) ?_
 refine zv (ix rfl) ?_
 refine cT (K7 w) (!true) 2 (IP w) rfl rfl rfl rfl rfl ?_ ?_
 ·skip
  intro a1
  refine bY rfl ?_
  refine zc call7 (nF w hT) ?_
  rintro v w2 ⟨rfl, hE2⟩
  refine bY rfl ?_
  refine zv (Km rfl) ?_
  refine I0 ?_
  refine cM (tA := 17) 3 (hE2) rfl rfl rfl (fun v hv => (Kz hv).symm.trans (congrArg Value.bool a1)) rfl
 intro w2 hE2
 refine I0 ?_
 refine aj ?_
 refine zC ?_ ?_
 ·intro hc
  refine IH ?_
  refine I6 ?_
  refine zc call7 (nF w2 (lu hT hE2)) ?_
  rintro v w3 ⟨rfl, hE3⟩
  refine zv (IS rfl) ?_
  refine I0 ?_
  refine aj ?_
  refine JM ?_
  refine cZ ?_
  refine ae rfl rfl (⟨rfl, hE2.trans hE3⟩)
 intro hc
 have h6:ms.length ≤ 6 := by rw[Bool.not_true, Bool.or_false]at hc; have := of_decide_eq_false hc; omega
 clear hc
 refine Jk ?_
 refine aj ?_
 refine IH ?_
 refine I6 ?_
 refine zc KN (eM w2.heap.size (fun _ => 0) w2 1 (by decide) (ax w2)) ?_
 rintro v w3 ⟨b, O3, cs, rfl, hS3, hU3, hR3, hE3⟩
 have hB:w2.heap.size = w2.heap.size := rfl
 have hz:¬(fun q:Nat => 1 ≤ q) 0 := by decide
 refine zv (IS rfl) ?_
 refine I0 ?_
 refine aj ?_
 refine IH ?_
 refine I6 ?_
 refine zv (IS rfl) ?_
 refine I0 ?_
 refine aj ?_
 refine IH ?_
 refine IH ?_
 refine I6 ?_
 refine zv (IS rfl) ?_
 refine I0 ?_
 refine aj ?_
 refine KO ?_
 refine zlp (fun y:Nat×Array I3×(Nat → Nat)×World => [(0, dv), (3, nP b), (4, .pointer none), (5, nI (y.1:Nat))]) (fun y => y.2.2.2) (fun y => y.1 ≤ ms.length ∧ ShO y.2.2.1 y.2.2.2 1 b y.2.1 ∧ IQ (fun q => 1 ≤ q) (fun _ => 0) w2 y.2.2.1 y.2.2.2 ∧ JA w2.heap.size y.2.2.1 y.2.2.2) (fun y => ms.length - y.1) (0, cs, O3, w3) (⟨Ji _, hS3, hU3.mono (fun _ h => by omega) hz, hR3⟩) ?_
 clear hS3 hU3 hR3 hE3 O3 w3 cs
 rintro⟨k, cs, O3, w3⟩ ⟨hk, hS3, hU3, hR3⟩
 dsimp only at hk hS3 hU3 hR3 ⊢
 have hE03 := hE2.trans hU3.ext
 have hd3 := hd.ext hE03
 refine IH ?_
 refine IH ?_
 refine I6 ?_
 refine zv (ix rfl) ?_
 refine zv (ix rfl) ?_
 refine zv (K2 (by first | exact hd3) IK rfl) ?_
 refine zv (RV.lss rfl rfl) ?_
 refine I0 ?_
 refine aj ?_
 refine zC ?_ ?_
 ·intro hlt
  replace hlt:k < ms.length := by have := of_decide_eq_true hlt; omega
  have ld:∀W, K7 w W → W.cell? (adr dv 1 k) = some (nI (nth ms k)) := fun W e => (hd.ext e).ld hlt
  have m3 := ld w3 hE03
  refine Jk ?_
  refine aj ?_
  refine IH ?_
  refine KO ?_
  refine IH ?_
  refine I6 ?_
  refine zv (ix rfl) ?_
  refine zv (ix rfl) ?_
  refine zv (ix rfl) ?_
  refine zv (Jb (by first | exact hd3) IK (Ja _) rfl rfl _ rfl (by omega)) ?_
  refine zv (RV.ld m3 rfl) ?_
  refine zc K9 (dO (nth ms k) w2.heap.size O3 w3 1 b cs hR3 (by decide) hS3) ?_
  rintro v w4 ⟨cs4, t1, rfl, hS4, hA4, hU4⟩
  have hR4 := hR3.upd hU4
  refine zv (ix rfl) ?_
  refine zv (I5 rfl rfl) ?_
  refine zv (I5 rfl rfl) ?_
  refine au hR4 2 (by omega) (II _) rfl ?_
  intro ab wx Ox hx hUx hRx hEx
  refine bd (us := t1.toArray) hx (show t1.toArray.size = 17 from by simpa using(hA4).1) (by rw[show t1.toArray.size = 17 from by simpa using(hA4).1]; exact I7 _) (by simpa using(hA4).2.1) rfl rfl rfl ?_
  have ht5 := hx.setRow (us := t1.toArray)
  have hU5:IQ (fun q => q = 2) O3 w4 Ox (wx.setRow ab t1.toArray) := hUx.trans (I4 (by decide) hx.tag rfl)
  have hR5 := hRx.upd (I4 (S := fun q => q = 2) (us := t1.toArray) (by decide) hx.tag rfl)
  generalize wx.setRow ab t1.toArray = w5 at *
  obtain⟨O5, eO5⟩:∃O, O = Ox := ⟨_, rfl⟩
  rw[← eO5]at hU5 hR5 ht5
  clear hx hUx hRx hEx eO5 Ox wx
  have hS5 := hS4.upd hU5 (by decide) (by decide)
  have hU05 := (hU3.trans (hU4.mono (fun _ h => by omega) hz)).trans (hU5.mono (fun _ h => by omega) hz)
  have m5 := ld w5 (hE2.trans hU05.ext)
  have hd5 := hd.ext (hE2.trans hU05.ext)
  refine zv (IS rfl) ?_
  refine I0 ?_
  refine aj ?_
  refine IH ?_
  refine I6 ?_
  refine zv (ix rfl) ?_
  refine zv (ix rfl) ?_
  refine zv (ix rfl) ?_
  refine zv (Jb (by first | exact hd5) IK (Ja _) rfl rfl _ rfl (by omega)) ?_
  refine zv (RV.ld m5 rfl) ?_
  refine zc K9 (dO (nth ms k) w2.heap.size O5 w5 1 b cs4 hR5 (by decide) hS5) ?_
  rintro v w6 ⟨cs6, t2, rfl, hS6, hA6, hU6⟩
  have hR6 := hR5.upd hU6
  refine zv (ix rfl) ?_
  refine zv (I5 rfl rfl) ?_
  refine zv (I5 rfl rfl) ?_
  refine au hR6 3 (by omega) (II _) rfl ?_
  intro bb wx Ox hx hUx hRx hEx
  refine bd (us := t2.toArray) hx (show t2.toArray.size = 17 from by simpa using(hA6).1) (by rw[show t2.toArray.size = 17 from by simpa using(hA6).1]; exact I7 _) (by simpa using(hA6).2.1) rfl rfl rfl ?_
  have ht7 := hx.setRow (us := t2.toArray)
  have hU7:IQ (fun q => q = 3) O5 w6 Ox (wx.setRow bb t2.toArray) := hUx.trans (I4 (by decide) hx.tag rfl)
  have hR7 := hRx.upd (I4 (S := fun q => q = 3) (us := t2.toArray) (by decide) hx.tag rfl)
  generalize wx.setRow bb t2.toArray = w7 at *
  obtain⟨O7, eO7⟩:∃O, O = Ox := ⟨_, rfl⟩
  rw[← eO7]at hU7 hR7 ht7
  clear hx hUx hRx hEx eO7 Ox wx
  have hS7 := hS6.upd hU7 (by decide) (by decide)
  have hU07 := (hU05.trans (hU6.mono (fun _ h => by omega) hz)).trans (hU7.mono (fun _ h => by omega) hz)
  have m7 := ld w7 (hE2.trans hU07.ext)
  have hd7 := hd.ext (hE2.trans hU07.ext)
  refine zv (IS rfl) ?_
  refine I0 ?_
  refine aj ?_
  refine IH ?_
  refine I6 ?_
  refine zv (ix rfl) ?_
  refine zv (ix rfl) ?_
  refine zv (ix rfl) ?_
  refine zv (Jb (by first | exact hd7) IK (Ja _) rfl rfl _ rfl (by omega)) ?_
  refine zv (RV.ld m7 rfl) ?_
  refine zc K9 (pZ (nth ms k) w7) ?_
  rintro v w8 ⟨rfl, hE8⟩
  have hX8:IQ (fun _ => False) O7 w7 O7 w8 := aa (fun h => h) O7 hE8
  have hR8 := hR7.upd hX8
  refine zv (ix rfl) ?_
  refine zv (I5 rfl rfl) ?_
  refine zv (I5 rfl rfl) ?_
  refine au hR8 4 (by omega) (II _) rfl ?_
  intro nb w9 O9 hn9 hU9 hR9 hE9
  refine zsa (us := tab0) hn9 (I7 _) ?_
  have hU10:IQ (fun q => q = 4) O7 w7 O9 (w9.setRow nb tab0) := (hX8.mono (fun _ h => h.elim) (by decide)).trans (hU9.trans (I4 (by decide) hn9.tag rfl))
  have hR10 := hR9.upd (I4 (S := fun q => q = 4) (us := tab0) (by decide) hn9.tag rfl)
  generalize w9.setRow nb tab0 = w10 at *
  have hS10 := hS7.upd hU10 (by decide) (by decide)
  have hU010 := hU07.trans (hU10.mono (fun _ h => by omega) hz)
  have hU510:IQ (fun q => 1 ≤ q ∧ q ≠ 2) O5 w5 O9 w10 := ((hU6.mono (fun _ h => by omega) (by decide)).trans (hU7.mono (fun _ h => by omega) (by decide))).trans (hU10.mono (fun _ h => by omega) (by decide))
  have ht10 := ht5.upd hU510 (by decide) (by decide)
  have hb10 := ht7.upd hU10 (by decide) (by decide)
  have hA10 := (hA4.upd hU5).upd hU510
  have hA10' := (hA6.upd hU7).upd hU10
  have m10 := ld w10 (hE2.trans hU010.ext)
  have hd10 := hd.ext (hE2.trans hU010.ext)
  obtain⟨tt, hv1, hv2⟩ := hA10.same hA10'
  refine zv (IS rfl) ?_
  refine I0 ?_
  refine aj ?_
  refine IH ?_
  refine IH ?_
  refine kq (fun z:ln => [(0, dv), (3, nP b), (4, .pointer none), (5, nI (k:Nat)), (6, nP ab), (83, .bool false)]) (fun z:ln => z) (fun z:ln => K7 w10 z) ?_ ?_
  ·intro hN
   refine I6 ?_
   refine zv (ix rfl) ?_
   refine zv (ix rfl) ?_
   refine zv (qX JD rfl rfl) ?_
   refine zv (ix rfl) ?_
   refine aw (d := 59) rfl (b' := false) ((by cases fp (nth ms k) <;> rfl)) ?_
   refine bY rfl ?_
   refine zv (ah (us := t1) (fun j u hu => by simpa using ht10.cellsAdd j u (by simpa using hu)) (J3 _) (by rw[hA4.1]; exact I7 _) rfl) ?_
   refine bY rfl ?_
   refine zv (ah (us := t2) (fun j u hu => by simpa using hb10.cellsAdd j u (by simpa using hu)) (J3 _) (by rw[hA6.1]; exact I7 _) rfl) ?_
   refine bY rfl ?_
   refine zc call15 (mM tt _ _ w10 hv1 hv2) ?_
   rintro v w11 ⟨rfl, hE11⟩
   have m11 := ld w11 (hE2.trans (hU010.ext.trans hE11))
   have hd11 := hd10.ext hE11
   refine bY rfl ?_
   refine zv (Km rfl) ?_
   refine zv (bt rfl rfl) ?_
   refine zv (ix rfl) ?_
   refine aw (d := 65) rfl (b' := false) (rfl) ?_
   refine bY rfl ?_
   refine zv (ix rfl) ?_
   refine zv (bt rfl rfl) ?_
   refine zv (ix rfl) ?_
   refine aw (d := 68) rfl (b' := false) (rfl) ?_
   refine bY rfl ?_
   refine zv (ix rfl) ?_
   refine bY rfl ?_
   refine zv (ix rfl) ?_
   refine bY rfl ?_
   refine zv (ix rfl) ?_
   refine bY rfl ?_
   refine zv (Jb (by first | exact hd11) IK (Ja _) rfl rfl _ rfl (by omega)) ?_
   refine bY rfl ?_
   refine zv (RV.ld m11 rfl) ?_
   refine bY rfl ?_
   refine zv (RV.geq rfl rfl) ?_
   refine bY rfl ?_
   refine zv (ix rfl) ?_
   by_cases hm0:0 ≤ nth ms k
   ·skip
    refine aw (d := 75) rfl (b' := true) ((decide_eq_true hm0)) ?_
    have e82:(!(fp (nth ms k) == decide (nth ms k < 4))) = false := by unfold fp; rw[decide_eq_true hm0, Bool.true_and]; simp
    refine bY rfl ?_
    refine zv (ix rfl) ?_
    refine bY rfl ?_
    refine zv (ix rfl) ?_
    refine bY rfl ?_
    refine zv (Jb (by first | exact hd11) IK (Ja _) rfl rfl _ rfl (by omega)) ?_
    refine bY rfl ?_
    refine zv (RV.ld m11 rfl) ?_
    refine bY rfl ?_
    refine zv (RV.lss rfl rfl) ?_
    refine bY rfl ?_
    refine zv (bC rfl rfl) ?_
    refine bY rfl ?_
    refine zv (qX JD rfl rfl) ?_
    refine zv (bt rfl rfl) ?_
    refine I0 ?_
    rw[e82]
    exact gd (hN (w11) (hE11)) ⟨rfl, rfl, rfl, rfl, rfl, rfl, trivial⟩ rfl
   ·skip
    refine aw (d := 75) rfl (b' := false) ((decide_eq_false hm0)) ?_
    have e82:(!(fp (nth ms k) == false)) = false := by unfold fp; rw[decide_eq_false hm0, Bool.false_and]; rfl
    refine K0 rfl rfl rfl ?_
    refine K0 rfl rfl rfl ?_
    refine K0 rfl rfl rfl ?_
    refine K0 rfl rfl rfl ?_
    refine K0 rfl rfl rfl ?_
    refine bY rfl ?_
    refine zv (bt rfl rfl) ?_
    refine bY rfl ?_
    refine zv (qX JD rfl rfl) ?_
    refine zv (bt rfl rfl) ?_
    refine I0 ?_
    rw[e82]
    exact gd (hN (w11) (hE11)) ⟨rfl, rfl, rfl, rfl, rfl, rfl, trivial⟩ rfl
  intro w11 hE11
  refine aj ?_
  have hX11:IQ (fun _ => False) O9 w10 O9 w11 := aa (fun h => h) O9 hE11
  have hS11 := hS10.upd hX11 (by decide) (fun h => h)
  have hR11 := hR10.upd hX11
  have ht11 := ht10.upd hX11 (by decide) (fun h => h)
  have hA11 := hA10.upd hX11
  have hU011 := hU010.trans (hX11.mono (fun _ h => h.elim) hz)
  refine aQ rfl rfl ?_
  have kE:∀O W, IQ (fun q => 5 ≤ q) O9 w11 O W → K7 w W := fun O W u => hE2.trans (hU011.trans (u.mono (fun _ h => by omega) hz)).ext
  have hU:IQ (fun q => 5 ≤ q) O9 w11 O9 w11.drew := (Je (by decide) O9 w11).drew
  have hR := hR11.drew
  refine Jk ?_
  refine aj ?_
  refine IH ?_
  refine aI (fun W => K7 w W) 12 rfl (by kernel_rfl) ?_
  refine zin (kE _ _ hU) fun zS => ?_
  refine zrm 1 rfl zS rfl ?_
  refine zrm 2 rfl zS rfl ?_
  refine zt 3 rfl zS (fun w1 hw1 => Jb (by first | exact hd.ext hw1) IK (Ja _) rfl rfl _ rfl (by omega)) ?_
  refine zt 4 rfl zS (fun w1 hw1 => RV.ld (ld _ hw1) rfl) ?_
  refine tG (fun z:Nat×List I3×(Nat → Nat)×World => [(3, nP b), (4, .pointer none), (5, nI (k:Nat)), (6, nP ab), (12, .pointer (some ⟨z.1, 0, none⟩)), (0, dv), (91, .agg z.2.1.toArray), (92, .bool (fp (nth ms k)))]) (fun z => z.2.2.2) (fun z => AnsS z.2.2.1 z.2.2.2 (nth ms k) z.2.1 ∧ J5 z.2.2.1 z.2.2.2 5 z.1 tab0 31 ∧ IQ (fun q => 5 ≤ q) O9 w11 z.2.2.1 z.2.2.2 ∧ JA w2.heap.size z.2.2.1 z.2.2.2) #[true, true, true, true, true, true, true, true, true, true, false, false] 2 ?_ ?_
  ·intro hN
   refine bQ 0 9 (by kernel_rfl) rfl rfl ?_ ?_ 
   ·skip
    refine zc KN (eM w2.heap.size _ _ 6 (by decide) hR) ?_
    rintro v wa ⟨b2, Oa, cs2, rfl, fA, hXa, hRa, hEa⟩
    have hU := J1 hU (hXa.mono (fun _ h => by omega) (by decide))
    have hR := hRa
    try have fT := I9 fT hXa (by decide) (by decide)
    refine I0 ?_
    refine af (kE _ _ hU) ?_
    refine bQ 5 9 (by kernel_rfl) rfl rfl ?_ ?_ 
    ·skip
     refine zc K9 (dO (nth ms k) w2.heap.size _ _ 6 b2 cs2 hR (by decide) fA) ?_
     rintro v wb ⟨cs3, t3, rfl, _, fB, hXb⟩
     have hU := J1 hU (hXb.mono (fun _ h => by omega) (by decide))
     have hR := JL hR hXb
     try have fT := I9 fT hXb (by decide) (by decide)
     refine I0 ?_
     refine zaf (kE _ _ hU) fun zS => ?_
     refine zrm 6 rfl zS rfl ?_
     refine zr 7 rfl zS (fun _ => I5 rfl rfl) ?_
     refine zr 8 rfl zS (fun _ => I5 rfl rfl) ?_
     refine IJ 9 (by kernel_rfl) rfl ?_
     refine au hR 5 (by decide) (II _) rfl ?_
     intro tb wc Oc fT hXc hRc hEc
     have hU := J1 hU (hXc.mono (fun _ h => by omega) (by decide))
     have hR := hRc
     try have fA := ShO.upd fA hXc (by decide) (by decide)
     try have fB := AnsS.upd fB hXc
     refine I0 ?_
     refine af (kE _ _ hU) ?_
     exact Ku (hN (tb, t3, _, _) ⟨fB, fT, hU, hR⟩) (by kernel_rfl) ⟨rfl, rfl, rfl, rfl, rfl, rfl, rfl, rfl, trivial⟩ rfl
    ·skip
     refine au hR 5 (by decide) (II _) rfl ?_
     intro tb wc Oc fT hXc hRc hEc
     have hU := J1 hU (hXc.mono (fun _ h => by omega) (by decide))
     have hR := hRc
     try have fA := ShO.upd fA hXc (by decide) (by decide)
     try have fB := AnsS.upd fB hXc
     refine I0 ?_
     refine af (kE _ _ hU) ?_
     refine IJ 5 (by kernel_rfl) rfl ?_
     refine zc K9 (dO (nth ms k) w2.heap.size _ _ 6 b2 cs2 hR (by decide) fA) ?_
     rintro v wb ⟨cs3, t3, rfl, _, fB, hXb⟩
     have hU := J1 hU (hXb.mono (fun _ h => by omega) (by decide))
     have hR := JL hR hXb
     try have fT := I9 fT hXb (by decide) (by decide)
     refine I0 ?_
     refine zaf (kE _ _ hU) fun zS => ?_
     refine zrm 6 rfl zS rfl ?_
     refine zr 7 rfl zS (fun _ => I5 rfl rfl) ?_
     refine zr 8 rfl zS (fun _ => I5 rfl rfl) ?_
     exact Ku (hN (tb, t3, _, _) ⟨fB, fT, hU, hR⟩) (by kernel_rfl) ⟨rfl, rfl, rfl, rfl, rfl, rfl, rfl, rfl, trivial⟩ rfl
   ·skip
    refine au hR 5 (by decide) (II _) rfl ?_
    intro tb wc Oc fT hXc hRc hEc
    have hU := J1 hU (hXc.mono (fun _ h => by omega) (by decide))
    have hR := hRc
    try have fA := ShO.upd fA hXc (by decide) (by decide)
    try have fB := AnsS.upd fB hXc
    refine I0 ?_
    refine af (kE _ _ hU) ?_
    refine IJ 0 (by kernel_rfl) rfl ?_
    refine zc KN (eM w2.heap.size _ _ 6 (by decide) hR) ?_
    rintro v wa ⟨b2, Oa, cs2, rfl, fA, hXa, hRa, hEa⟩
    have hU := J1 hU (hXa.mono (fun _ h => by omega) (by decide))
    have hR := hRa
    try have fT := I9 fT hXa (by decide) (by decide)
    refine I0 ?_
    refine af (kE _ _ hU) ?_
    refine IJ 5 (by kernel_rfl) rfl ?_
    refine zc K9 (dO (nth ms k) w2.heap.size _ _ 6 b2 cs2 hR (by decide) fA) ?_
    rintro v wb ⟨cs3, t3, rfl, _, fB, hXb⟩
    have hU := J1 hU (hXb.mono (fun _ h => by omega) (by decide))
    have hR := JL hR hXb
    try have fT := I9 fT hXb (by decide) (by decide)
    refine I0 ?_
    refine zaf (kE _ _ hU) fun zS => ?_
    refine zrm 6 rfl zS rfl ?_
    refine zr 7 rfl zS (fun _ => I5 rfl rfl) ?_
    refine zr 8 rfl zS (fun _ => I5 rfl rfl) ?_
    exact Ku (hN (tb, t3, _, _) ⟨fB, fT, hU, hR⟩) (by kernel_rfl) ⟨rfl, rfl, rfl, rfl, rfl, rfl, rfl, rfl, trivial⟩ rfl
  rintro⟨tb, t3, O12, w12⟩ ⟨hA12, ht12, hU12, hR12⟩
  dsimp only at hA12 ht12 hU12 hR12 ⊢
  refine IJ 10 (by kernel_rfl) rfl ?_
  refine bd (us := t3.toArray) ht12 (show t3.toArray.size = 17 from by simpa using hA12.1) (by rw[show t3.toArray.size = 17 from by simpa using hA12.1]; exact I7 _) (by simpa using hA12.2.1) rfl rfl rfl ?_
  have ht13 := ht12.setRow (us := t3.toArray)
  have hU13:IQ (fun q => 5 ≤ q) O12 w12 O12 (w12.setRow tb t3.toArray) := I4 (by decide) ht12.tag (by decide)
  have hA13 := hA12.upd hU13
  have hR13 := hR12.upd hU13
  have hU113 := hU12.trans hU13
  generalize w12.setRow tb t3.toArray = w13 at *
  refine I0 ?_
  refine af (kE _ _ hU113) ?_
  have ht14 := ht11.upd hU113 (by decide) (by decide)
  have hA14 := hA11.upd hU113
  have hS14 := hS11.upd hU113 (by decide) (by decide)
  have hU014 := hU011.trans (hU113.mono (fun _ h => by omega) hz)
  obtain⟨tt2, hv3, hv4⟩ := hA14.same hA13
  refine zra 11 rfl (kE _ _ hU113) rfl ?_
  refine J0 (by kernel_rfl) ?_
  refine aj ?_
  refine IH ?_
  refine I6 ?_
  refine zv (ah (us := t1) (fun j u hu => by simpa using ht14.cellsAdd j u (by simpa using hu)) (J3 _) (by rw[hA4.1]; exact I7 _) rfl) ?_
  refine zv (ah (us := t3) (fun j u hu => by simpa using ht13.cellsAdd j u (by simpa using hu)) (J3 _) (by rw[hA12.1]; exact I7 _) rfl) ?_
  refine zc call15 (mM tt2 _ _ w13 hv3 hv4) ?_
  rintro v w14 ⟨rfl, hE14⟩
  have hX14:IQ (fun _ => False) O12 w13 O12 w14 := aa (fun h => h) O12 hE14
  refine zv (Km rfl) ?_
  refine I0 ?_
  refine aj ?_
  refine aQ rfl rfl ?_
  refine Jk ?_
  refine bL ?_
  refine aj ?_
  refine I6 ?_
  refine zv (ix rfl) ?_
  refine zv (JG rfl rfl (Jn (by omega))) ?_
  refine zv (IS rfl) ?_
  refine I0 ?_
  refine zxd (k + 1, cs6, O12, w14) (⟨hlt, hS14.upd hX14 (by decide) (fun h => h), hU014.trans (hX14.mono (fun _ h => h.elim) hz), hR13.upd hX14⟩)
 ·intro hge
  refine WC.exit ?_
  refine bD ?_
  refine bD ?_
  refine cV ?_
  refine aj ?_
  refine IH ?_
  refine I6 ?_
  refine zv (IS rfl) ?_
  refine I0 ?_
  refine aj ?_
  refine JM ?_
  refine ae rfl rfl (⟨rfl, hE03⟩)
end Go.Proofs.YteolbhblkgjbhaaGreatDoor
