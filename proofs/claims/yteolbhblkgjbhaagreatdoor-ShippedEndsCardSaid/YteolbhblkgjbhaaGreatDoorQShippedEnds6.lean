/- Texts that the proof of this statement needs, merged and shortened. -/
import Derived.Test.YteolbhblkgjbhaaGreatDoorQShippedEnds5
open List renaming dropWhile_suffix->ix,mem_cons->I7,length_append->IJ,pairwise_cons->IR,takeWhile_prefix->IX,all_cons->IZ,mem_singleton->J6,not_mem_nil->J9,all_nil->Jd,getElem?_append_right->Ju,getElem_append_right->Jy,getElem?_eq_some_iff->Jz,getElem?_append_left->JA,getElem_append_left->JF,append_assoc->JW,toArray_inj->K0,all_eq_true->K1,mem_append->K5,length->Kg
open Go renaming World->ln,Value->I1,TypeId->JI
open Go.VL.Ret renaming enter->I0
open Array renaming getElem?_setIfInBounds_ne->I2,getElem?_setIfInBounds_self_of_lt->Jf,size_setIfInBounds->JB
open Go.VL.WL renaming nil->I3,ext->Kp,push->KJ
open Go.VL.Upd renaming setRow->I4,set->I9,refl->Jh,lowT->JN,trans->Kq,mono->Ky,drew->Kz
open Go.Proofs.Tryz renaming underlying22->I5,sizeOf31->IF,underlying9->IN,prog->IP,sizeOf56->IU,call109->IY,sizeOf3->J4,underlying38->J7,zeroValue56->Jb,zeroValue31->Jc,isAgg31->Jg,sizeOf4->Jp,sizeOf22->Jq,call79->Jv,isAgg56->JH,sizeOf120->JQ,sizeOf112->JR,call76->JV,call77->K8,ntmps79->K9,call114->Ka,call113->Kb,func79->Kj,underlying270->Km,underlying266->Ko,zeroValue197->Kw,zeroValue120->Kx,call53->KI
open Go.VL.BlkO renaming upd->I6,setRow->J8,drew->Ji,tag->Ku,set->Kv,q7->KB,q6->KC
open Go.VL.RV renaming move->I8,indexAddr->IQ,extract->IT,add->Jl,len->JD,ext->JE,build->JS,assign->K6,sub->Ke,neq->Kr
open Go.VL.WH renaming one->IE,done->IW
open Go.Value renaming oneCell'->IG,bool->J5
open Option.some renaming inj->IH
open Go.VL.Ext renaming refl->II
open Go.VL renaming Upd->IK,BlkO->J0,Ret->Jm,Rng->JG,RowT->Kl,Ext->KH
open Nat renaming le_of_eq->IL,not_lt_zero->Je,add_sub_cancel->Jk,zero_le->Jo,le_refl->JO,lt_succ_self->K4
open Go.World renaming setCell->IM,setRow->J3,drew->Jr,frozen?->Jw
open Go.VL.WC renaming seq->IS,region->J1,tail->J2,skip->K2,ret->Kd
open Go.VL.Fit renaming i64->IV
open Bool renaming and_eq_true->Ja
open Go.VL.WS renaming go->Jj
open Go.VL.WI renaming region->Jn,seq->Kc
open Go.Proofs.YteolbhblkgjbhaaGreatDoor renaming PostC->Js,Rd6->JX,PartV->KF
open Go.VL.RowT renaming nil->Jt,drew->Kk
open Go.Value.tuple renaming injEq->JC
open Go.Value.int renaming injEq->JJ
open Go.Value.agg renaming injEq->JK
open List.cons renaming injEq->JL
open Go.Proofs.YteolbhblkgjbhaaGreatDoor.LR renaming bad->JM
open Go.Lib renaming compact->JP
open Go.Proofs.YteolbhblkgjbhaaGreatDoor.Nd renaming mk->JT
open Array.mk renaming injEq->JU
open Or renaming inr->JY,inl->JZ
open Go.Addr renaming add->K7
open Go.Proofs.YteolbhblkgjbhaaGreatDoor.RowsT renaming push->Kf
open Go.VL.Leave renaming call->Kh
open Go.VL.RetB renaming enter->Ki
open Go.VL.Rng renaming drew->KA,upd->KD
open Go.VL.QF renaming dn->KE
open Go.Proofs.YteolbhblkgjbhaaGreatDoor.Mac renaming upd->KG
set_option maxRecDepth 10000
open Go.VL Go.Proofs Go.Proofs.Tryz
namespace Go.Proofs.YteolbhblkgjbhaaGreatDoor
section
variable{kn:Kn}
theorem FT:cF IP 197 #[(0,1),(1,3)]:=⟨_,underlying197,fun w=>by kernel_rfl⟩
inductive ML where
 |ok (m:List UInt8×Nd)
 |bad (p:Nat) (e:Int)
def GT(nm r2:List UInt8):XR->ML
 |.ok t=>.ok (nm,t)
 |.bad p e=>.bad (r2.length-1-p) e
def qW(kn:Kn)(r:List UInt8):ML:=
 if(ar r).takeWhile ai=[]then .bad (ar r).length 4
 else if eM kn ((ar r).takeWhile ai)≠0 then .bad (ar r).length (eM kn ((ar r).takeWhile ai))
 else if(ar ((ar r).dropWhile ai)).headD 0=61 then GT ((ar r).takeWhile ai) (ar ((ar r).dropWhile ai)) (eV kn (ar ((ar r).dropWhile ai)).tail)
 else .bad (ar ((ar r).dropWhile ai)).length 4
def Ic(O:Nat->Nat)(w:ln)(jm:Nat)(m:Nat)(v:I1)(bad e:Int)(kn:Kn):ML->Prop
 |.ok x=>e=0/\Mac O w jm v (kn++[x])
 |.bad p e'=>e=e'/\e'≠0/\bad=(m:Int)-(p:Int)
def atX:XR->Int
 |.ok _=>0
 |.bad p _=>(p:Int)
def GW:XR->Int
 |.ok _=>0
 |.bad _ e=>e
theorem PostX.shape{O:Nat->Nat}{w:ln}{v:I1}{M:XR}(h:PostX O w v M):∃x:N3,v=.tuple #[nv x,nI (atX M),nI (GW M)]/\x.2.2.oneCell'=true/\∀t,M=.ok t->Nt O w t x:=by
 cases M with
 |ok t=>obtain⟨x,rfl,hn⟩:=h;exact⟨x,rfl,hn.one,fun t e=>by cases e;exact hn⟩
 |bad p e=>obtain⟨rfl,_⟩:=h;exact⟨(0,0,nS),rfl,rfl,fun t e=>by cases e⟩
theorem kd{m:M3}(h:m.2.2.2.oneCell'=true):∀c∈kF m,c.oneCell'=true:=fun c hc=>by
 simp only[kF,I7,J9,or_false]at hc
 rcases hc with rfl|rfl|rfl|rfl
 ·rfl
 ·rfl
 ·rfl
 exact h
theorem xE{O:Nat->Nat}{w:ln}{i:Nat}{v:I1}{ms:List M3}{nm:List UInt8}{x:N3}{t:Nd}(hr:Kl kF 197 4 O w i v (ms++[(nm,x)]))(hl:kn.length=ms.length)(hk:∀q,q<ms.length->(nth kn q).1=(nth ms q).1/\Nt O w (nth kn q).2 (nth ms q).2)(hn:Nt O w t x):Mac O w i v (kn++[(nm,t)]):=by
 refine⟨_,hr,by simp[hl],fun q hq=>?_⟩;simp only[IJ,List.length_singleton]at hq
 by_cases e:q<ms.length
 ·rw[aC (by simp;omega),aC (by simp;omega),JF zo,JF e,<-aC zo,<-aC e];exact hk q e
 obtain rfl:q=ms.length:=zo;rw[aC (by simp;omega),aC (by simp),Jy zo,Jy zo];simp[hl];exact hn
theorem Aw(B:Nat)(O:Nat → Nat)(w:ln)(j jm rb:Nat)(s:LS)(m:Nat)(r:List UInt8)(hR:JG B O w)(hj:j ≠ 0)(hjm:jm ≠ 0)(hne:j ≠ jm)(hm:m ≤ s.l.length)(hl:s.l.length ≤ 100000)(hto:s.to = (m:Int))(he:s.e = 0)
  (hr:r <:+ s.l.take m) (hp:s.pos = (m:Int) - (r.length:Int)) (hkl:kn.length ≤ 100000) (hmac:Mac O w jm s.mc kn) (h:JX O w j rb s) :
  Jm IP 78 [nP rb] w fun _ w' => ∃O' v pos bad e, IK (fun k => k = j ∨ k = jm) O w O' w' ∧ JG B O' w' ∧ JX O' w' j rb {s with pos := pos, bad := bad, e := e, mc := v} ∧ Ic O' w' jm m v bad e kn (qW kn r) := by
 obtain⟨T0, hT00, hT01⟩ := hR.bound
 obtain⟨T, hT0, hjmT, hT⟩:∃T, 0 < T ∧ jm < T ∧ ∀b, O b < T := ⟨T0 + jm + 1, by omega, by omega, fun b => by have := hT01 b; omega⟩
 clear hT00 hT01 T0
 have hjT:j < T := by rw[← h.tag]; exact hT rb
 have hz2:¬(fun q:Nat => q = j ∨ q = jm) 0 := fun e => by rcases e with e | e; exact hj e.symm; exact hjm e.symm
 have hz3:¬(fun q:Nat => q = j ∨ q = jm ∨ T ≤ q) 0 := fun e => by rcases e with e | e | e; exact hj e.symm; exact hjm e.symm; omega
 have hpv:∀ {O':Nat → Nat} {w':ln}, IK (fun q => q = j ∨ q = jm ∨ T ≤ q) O w O' w' → IK (fun q => q = j ∨ q = jm) O w O w' := fun hU => hU.fgt (S' := fun q => q = j ∨ q = jm) (fun b hb => by rcases hb with hb | hb | hb; exact JZ hb; exact JY hb; have := hT b; omega) hz2
 have hLl:(s.l.take m).length = m := by simp; omega
 refine I0 func78 ntmps78 rfl rfl ?_
 refine IS ?_
 refine J1 ?_
 refine zv (I8 rfl) ?_
 refine zv (ak rfl) ?_
 refine zv (RV.fa rfl) ?_
 refine zc JV (dG O w j rb s m r hj hm hl hto hr hp h) ?_
 rintro v w1 ⟨rfl, hb1, hU1⟩
 have hs1 := (aY r).trans hr
 have hm1 := hmac.upd hU1 hjm (fun e => hne e.symm)
 have hR1 := hR.upd hU1
 refine I3 ?_
 refine aq ?_
 refine IS ?_
 refine J1 ?_
 refine zv (I8 rfl) ?_
 refine zv (ak rfl) ?_
 refine zv (RV.fa rfl) ?_
 refine zv (RV.fa rfl) ?_
 refine zv (RV.ld hb1.q1 rfl) ?_
 refine zv (K6 rfl) ?_
 refine I3 ?_
 refine aq ?_
 refine IS ?_
 refine J1 ?_
 refine zv (I8 rfl) ?_
 refine zv (ak rfl) ?_
 refine zv (RV.fa rfl) ?_
 refine zc K8 (gm O w1 j rb ({s with pos := (m:Int) - ((ar r).length:Int)}:LS) m (ar r) hj hm hl hto hs1 rfl hb1) ?_
 rintro v w2 ⟨rfl, hb2, hU2⟩
 have hs2 := (ix ai).trans hs1
 have hm2 := hm1.upd hU2 hjm (fun e => hne e.symm)
 have hR2 := hR1.upd hU2
 have hUt2 := (hU1.trans hU2).mono (S' := fun q => q = j ∨ q = jm ∨ T ≤ q) (fun _ h => .inl h) hz3
 refine zv (K6 rfl) ?_
 refine I3 ?_
 refine aq ?_
 refine IS ?_
 refine IS ?_
 refine J1 ?_
 refine zv (I8 rfl) ?_
 refine zv (cI rfl rfl) ?_
 refine I3 ?_
 refine aq ?_
 by_cases hnm:(ar r).takeWhile ai = []
 ·have hM:qW kn r = .bad (ar r).length 4 := by unfold qW; rw[if_pos hnm]
  rw[hM]
  refine aS rfl ((by rw[hnm]; rfl)) ?_
  refine IS ?_
  refine J1 ?_
  refine zv (I8 rfl) ?_
  refine zv (ak rfl) ?_
  refine zv (RV.fa rfl) ?_
  refine zv (I8 rfl) ?_
  refine zc IY (bx O w2 j rb ({s with pos := (m:Int) - (((ar r).dropWhile ai).length:Int)}:LS) ((m:Int) - ((ar r).length:Int)) 4 hj he hb2) ?_
  rintro u w3 ⟨hb3, hU3⟩
  refine I3 ?_
  refine aq ?_
  refine Kd ?_
  refine dJ ?_
  exact bR rfl ⟨O, s.mc, _, _, _, hpv (hUt2.trans (hU3.mono (fun _ h => .inl h) hz3)), hR2.upd hU3, hb3, rfl, by decide, rfl⟩
 ·skip
  refine aT rfl ((by simpa using hnm)) ?_
  refine K2 ?_
  refine aq ?_
  refine IS ?_
  refine IS ?_
  refine J1 ?_
  refine zv (I8 rfl) ?_
  refine zv (I8 rfl) ?_
  refine zc call110 (zj O w2 j jm rb ({s with pos := (m:Int) - (((ar r).dropWhile ai).length:Int)}:LS) ((ar r).takeWhile ai) hm2 hb2) ?_
  rintro v w3 ⟨rfl, hE3⟩
  have hX3:IK (fun _ => False) O w2 O w3 := aa (fun h => h) O hE3
  have hb3 := hb2.upd hX3 hj (fun h => h)
  have hm3 := hm2.upd hX3 hjm (fun h => h)
  have hR3 := hR2.upd hX3
  have hUt3 := hUt2.trans (hX3.mono (fun _ h => h.elim) hz3)
  refine zv (K6 rfl) ?_
  refine I3 ?_
  refine aq ?_
  refine IS ?_
  refine J1 ?_
  refine zv (I8 rfl) ?_
  refine zv (Kr rfl rfl) ?_
  refine I3 ?_
  refine aq ?_
  by_cases htk:eM kn ((ar r).takeWhile ai) = 0
  ·skip
   refine aT rfl ((by rw[htk]; rfl)) ?_
   have hMK:qW kn r = if(ar ((ar r).dropWhile ai)).headD 0 = 61 then GT ((ar r).takeWhile ai) (ar ((ar r).dropWhile ai)) (eV kn (ar ((ar r).dropWhile ai)).tail)else .bad (ar ((ar r).dropWhile ai)).length 4 := by unfold qW; rw[if_neg hnm, if_neg (by rw[htk]; simp)]
   generalize (ar r).takeWhile ai = nm at *
   generalize (ar r).dropWhile ai = q at *
   have hs5 := (aY q).trans hs2
   have hbd := hb3.drew
   have hmd := hm3.upd (aa (S := fun _ => False) (fun h => h) O (II w3).drew) hjm (fun h => h)
   have hRd := hR3.drew
   have hUd := hUt3.drew
   refine K2 ?_
   refine aq ?_
   refine IS ?_
   refine IS ?_
   refine aK (fun V => V.cell? ⟨rb, 0, none⟩ = some (.string (bs s.l))) 19 rfl (by kernel_rfl) ?_
   refine zrm 0 rfl hbd.q0 rfl ?_
   refine zr 1 rfl hbd.q0 (fun _ => ak rfl) ?_
   refine zrf 2 rfl hbd.q0 rfl ?_
   refine IE 3 (by kernel_rfl) rfl ?_
   refine zc JV (dG O w3.drew j rb ({s with pos := (m:Int) - (q.length:Int)}:LS) m q hj hm hl hto hs2 rfl hbd) ?_
   rintro v w5 ⟨rfl, hb5, hU5⟩
   have hm5 := hmd.upd hU5 hjm (fun e => hne e.symm)
   have hR5 := hRd.upd hU5
   have hUt5 := hUd.trans (hU5.mono (fun _ h => .inl h) hz3)
   generalize ar q = r2 at *
   have hr2l := hs5.length_le
   rw[hLl]at hr2l
   have hb5':J0 O w5 j rb ({s with pos := (m:Int) - (r2.length:Int)}:LS).cells 114 := hb5
   clear hb5
   have hb5 := hb5'
   refine I3 ?_
   refine zaf (hb5.q0) fun zS => ?_
   refine zr 4 rfl zS (fun _ => RV.not rfl) ?_
   refine zrm 5 rfl zS rfl ?_
   by_cases hr0:r2.length = 0
   ·have hrn:r2 = [] := List.eq_nil_of_length_eq_zero hr0
    have hM:qW kn r = .bad r2.length 4 := by rw[hMK, if_neg (by rw[hrn]; decide)]
    rw[hM]
    refine lx (d := 44) rfl (b' := true) ((by rw[decide_eq_false (by omega)]; rfl)) ?_
    have hbe := hb5.drew
    refine zin (hb5.q0) fun zS => ?_
    refine zte 6 rfl rfl zS ?_
    refine zte 7 rfl rfl zS ?_
    refine zte 8 rfl rfl zS ?_
    refine zte 9 rfl rfl zS ?_
    refine zte 10 rfl rfl zS ?_
    refine zte 11 rfl rfl zS ?_
    refine zte 12 rfl rfl zS ?_
    refine zte 13 rfl rfl zS ?_
    refine zte 14 rfl rfl zS ?_
    refine zte 15 rfl rfl zS ?_
    refine zte 16 rfl rfl zS ?_
    refine zte 17 rfl rfl zS ?_
    refine zr 18 rfl zS (fun _ => bG rfl rfl) ?_
    refine IW (by kernel_rfl) ?_
    refine aq ?_
    refine aS rfl rfl ?_
    refine IS ?_
    refine J2 8 rfl rfl (by kernel_rfl) (by kernel_rfl) ?_
    refine zw (I8 rfl) ?_
    refine zw (ak rfl) ?_
    refine zw (RV.fa rfl) ?_
    refine zw (I8 rfl) ?_
    refine zw (ak rfl) ?_
    refine zw (RV.fa rfl) ?_
    refine zw (RV.fa rfl) ?_
    refine zw (RV.ld hbe.q1 rfl) ?_
    refine Jj ?_
    refine zc IY (bx O w5.drew j rb ({s with pos := (m:Int) - (r2.length:Int)}:LS) ((m:Int) - (r2.length:Int)) 4 hj he hbe) ?_
    rintro u w6 ⟨hb6, hU6⟩
    refine I3 ?_
    refine aq ?_
    refine Kd ?_
    refine dJ ?_
    exact bR rfl ⟨O, s.mc, _, _, _, hpv ((hUt5.drew).trans (hU6.mono (fun _ h => .inl h) hz3)), hR5.drew.upd hU6, hb6, rfl, by decide, rfl⟩
   ·have hrn:r2 ≠ [] := fun e => hr0 (by rw[e]; rfl)
    have hgh := mm (xf hs5 hrn)
    rw[hLl]at hgh
    refine lx (d := 44) rfl (b' := false) ((by rw[decide_eq_true (by omega)]; rfl)) ?_
    refine zin (hb5.q0) fun zS => ?_
    refine zro 6 rfl zS (fun _ => I8 rfl) ?_
    refine zro 7 rfl zS (fun _ => ak rfl) ?_
    refine zro 8 rfl zS (fun _ => RV.fa rfl) ?_
    refine zro 9 rfl zS (fun _ => RV.fa rfl) ?_
    refine zto 10 rfl zS (fun w1 hw1 => RV.ld hw1 rfl) ?_
    refine zro 11 rfl zS (fun _ => I8 rfl) ?_
    refine zro 12 rfl zS (fun _ => ak rfl) ?_
    refine zro 13 rfl zS (fun _ => RV.fa rfl) ?_
    refine zro 14 rfl zS (fun _ => RV.fa rfl) ?_
    refine IE 15 (by kernel_rfl) rfl ?_
    refine gR rfl ?_
    refine zv (RV.ld hb5.q1 rfl) ?_
    refine I3 ?_
    refine zaf (hb5.q0) fun zS => ?_
    refine zro 16 rfl zS (fun _ => bd (c := r2.headD 0) IN rfl rfl (m - r2.length) (by dsimp only; omega) hgh) ?_
    refine zro 17 rfl zS (fun _ => Kr rfl rfl) ?_
    refine zr 18 rfl zS (fun _ => bL rfl rfl) ?_
    refine IW (by kernel_rfl) ?_
    refine aq ?_
    by_cases hc:r2.headD 0 = 61
    ·have hMX:qW kn r = GT nm r2 (eV kn r2.tail) := by rw[hMK, if_pos hc]
     obtain⟨k1, k2⟩ := bT (r := r2) (by rw[hc]; decide)
     have hts := k1.trans hs5
     refine aT rfl ((by rw[hc]; rfl)) ?_
     have hbe := hb5.drew
     have hme := hm5.upd (aa (S := fun _ => False) (fun h => h) O (II w5).drew) hjm (fun h => h)
     have hRe := hR5.drew
     have hUe := hUt5.drew
     have hseg:(s.l.take m).drop (m - r2.tail.length) = r2.tail := by have := C1 hts; rwa[hLl]at this
     have hgX := xj (kn := kn) r2.tail
     generalize hMd:eV kn r2.tail = M at *
     refine K2 ?_
     refine aq ?_
     refine IS ?_
     refine lP (fun z:(Nat → Nat)×World×Nat×N3 => [(0, nP rb), (3, .string (bs nm)), (5, .pointer (some ⟨z.2.2.1, 0, none⟩)), (6, nI (atX M)), (7, nI (GW M))]) (fun z:(Nat → Nat)×World×Nat×N3 => z.2.1) (fun z:(Nat → Nat)×World×Nat×N3 => J0 z.1 z.2.1 T z.2.2.1 #[nI z.2.2.2.1, nI z.2.2.2.2.1, z.2.2.2.2.2] 120 ∧ JX z.1 z.2.1 j rb {s with pos := (m:Int) - (r2.length:Int)} ∧ Mac z.1 z.2.1 jm s.mc kn ∧ IK (fun q => q = j ∨ q = jm ∨ T ≤ q) O w z.1 z.2.1 ∧ JG B z.1 z.2.1 ∧ z.2.2.2.2.2.oneCell' = true ∧ ∀t, M = .ok t → Nt z.1 z.2.1 t z.2.2.2) ?_ ?_
     ·intro hN
      refine aK (fun V => V.cell? ⟨rb, 0, none⟩ = some (.string (bs s.l)) ∧ V.cell? ⟨rb, 1, none⟩ = some (nI ((m:Int) - (r2.length:Int))) ∧ V.cell? ⟨rb, 2, none⟩ = some (nI s.to) ∧ V.cell? ⟨rb, 9, none⟩ = some s.mc) 30 rfl (by kernel_rfl) ?_
      refine zin ⟨hbe.q0, hbe.q1, hbe.q2, hbe.q9⟩ fun zS => ?_
      refine zrm 0 rfl zS rfl ?_
      refine zr 1 rfl zS (fun _ => ak rfl) ?_
      refine zrf 2 rfl zS rfl ?_
      refine zrf 3 rfl zS rfl ?_
      refine zt 4 rfl zS (fun w1 hw1 => RV.ld hw1.1 rfl) ?_
      refine zrm 5 rfl zS rfl ?_
      refine zr 6 rfl zS (fun _ => ak rfl) ?_
      refine zrf 7 rfl zS rfl ?_
      refine zrf 8 rfl zS rfl ?_
      refine zt 9 rfl zS (fun w1 hw1 => RV.ld hw1.2.1 rfl) ?_
      refine zr 10 rfl zS (fun _ => Jl rfl rfl (IV (by omega))) ?_
      refine zrm 11 rfl zS rfl ?_
      refine zr 12 rfl zS (fun _ => ak rfl) ?_
      refine zrf 13 rfl zS rfl ?_
      refine zrf 14 rfl zS rfl ?_
      refine zt 15 rfl zS (fun w1 hw1 => RV.ld hw1.2.2.1 rfl) ?_
      refine zr 16 rfl zS (fun _ => cM IN rfl rfl rfl (m - r2.tail.length) m (by omega) hto (by omega) hm) ?_
      refine zrm 17 rfl zS rfl ?_
      refine zr 18 rfl zS (fun _ => ak rfl) ?_
      refine zrf 19 rfl zS rfl ?_
      refine zt 20 rfl zS (fun w1 hw1 => RV.ld hw1.2.2.2 rfl) ?_
      rw[hseg]
      refine bZ 21 26 (by kernel_rfl) rfl rfl ?_ ?_
      ·skip
       refine zc call111 (kL s.mc r2.tail B O (forget jm O) w5.drew hRe hRe.forget (hme.known hjm hRe)) ?_
       rintro v w6 ⟨hE6, hP6⟩
       rw[hMd]at hP6
       obtain⟨x, rfl, hxo, hxn⟩ := hP6.shape
       have hX6:IK (fun _ => False) O w5.drew O w6 := aa (fun h => h) O hE6
       have hb6 := hbe.upd hX6 hj (fun h => h)
       have hm6 := hme.upd hX6 hjm (fun h => h)
       have hR6 := hRe.upd hX6
       have hU6 := hUe.trans (hX6.mono (fun _ h => h.elim) hz3)
       refine I3 ?_
       refine zaf (⟨hb6.q0, hb6.q1, hb6.q2, hb6.q9⟩) fun zS => ?_
       refine zrm 22 rfl zS rfl ?_
       refine zr 23 rfl zS (fun _ => IT rfl rfl) ?_
       refine zr 24 rfl zS (fun _ => IT rfl rfl) ?_
       refine zr 25 rfl zS (fun _ => IT rfl rfl) ?_
       refine IE 26 (by kernel_rfl) rfl ?_
       refine au hR6 T (by omega) (Kx _) rfl ?_
       intro nb w7 O7 hn7 hX7 hR7 hE7
       have hb7 := hb6.upd hX7 hj (by omega)
       have hm7 := hm6.upd hX7 hjm (by omega)
       have hU7 := hU6.trans (hX7.mono (fun _ h => .inr (.inr (IL h.symm))) hz3)
       refine I3 ?_
       refine af (⟨hb7.q0, hb7.q1, hb7.q2, hb7.q9⟩) ?_
       refine IE 27 (by kernel_rfl) rfl ?_
       refine zsb (us := #[nI x.1, nI x.2.1, x.2.2]) hn7 (JQ _) (bX hxo) ?_
       have hnz := J8 (us := #[nI x.1, nI x.2.1, x.2.2]) hn7
       have hXz:IK (fun q => q = T) O7 w7 O7 (J3 w7 nb #[nI x.1, nI x.2.1, x.2.2]) := I4 (by omega) (Ku hn7) rfl
       have hbz := I6 hb7 hXz hj (by omega)
       refine I3 ?_
       refine zaf (⟨hbz.q0, hbz.q1, hbz.q2, hbz.q9⟩) fun zS => ?_
       refine zra 28 rfl zS rfl ?_
       refine zra 29 rfl zS rfl ?_
       refine IW (by kernel_rfl) ?_
       exact gV (hN ((O7, J3 w7 nb #[nI x.1, nI x.2.1, x.2.2], nb, x)) (⟨hnz, hbz, KG hm7 hXz hjm (by omega), Kq hU7 (hXz.mono (fun _ h => .inr (.inr (IL h.symm))) hz3), KD hR7 hXz, hxo, fun t e => Nt.upd ((fun t e => (hxn t e).upd hX7) t e) hXz⟩)) ⟨rfl, rfl, rfl, rfl, rfl, trivial⟩ rfl
      ·skip
       refine au hRe T (by omega) (Kx _) rfl ?_
       intro nb w6 O6 hn6 hX6 hR6 hE6
       have hb6 := hbe.upd hX6 hj (by omega)
       have hm6 := hme.upd hX6 hjm (by omega)
       have hU6 := hUe.trans (hX6.mono (fun _ h => .inr (.inr (IL h.symm))) hz3)
       refine I3 ?_
       refine af (⟨hb6.q0, hb6.q1, hb6.q2, hb6.q9⟩) ?_
       refine IE 21 (by kernel_rfl) rfl ?_
       refine zc call111 (kL s.mc r2.tail B O6 (forget jm O6) w6 hR6 hR6.forget (hm6.known hjm hR6)) ?_
       rintro v w7 ⟨hE7, hP7⟩
       rw[hMd]at hP7
       obtain⟨x, rfl, hxo, hxn⟩ := hP7.shape
       have hX7:IK (fun _ => False) O6 w6 O6 w7 := aa (fun h => h) O6 hE7
       have hn7 := hn6.upd hX7 (by omega) (fun h => h)
       have hb7 := hb6.upd hX7 hj (fun h => h)
       have hm7 := hm6.upd hX7 hjm (fun h => h)
       have hR7 := hR6.upd hX7
       have hU7 := hU6.trans (hX7.mono (fun _ h => h.elim) hz3)
       refine I3 ?_
       refine zaf (⟨hb7.q0, hb7.q1, hb7.q2, hb7.q9⟩) fun zS => ?_
       refine zrm 22 rfl zS rfl ?_
       refine zr 23 rfl zS (fun _ => IT rfl rfl) ?_
       refine zr 24 rfl zS (fun _ => IT rfl rfl) ?_
       refine zr 25 rfl zS (fun _ => IT rfl rfl) ?_
       refine IE 27 (by kernel_rfl) rfl ?_
       refine zsb (us := #[nI x.1, nI x.2.1, x.2.2]) hn7 (JQ _) (bX hxo) ?_
       have hnz := J8 (us := #[nI x.1, nI x.2.1, x.2.2]) hn7
       have hXz:IK (fun q => q = T) O6 w7 O6 (J3 w7 nb #[nI x.1, nI x.2.1, x.2.2]) := I4 (by omega) (Ku hn7) rfl
       have hbz := I6 hb7 hXz hj (by omega)
       refine I3 ?_
       refine zaf (⟨hbz.q0, hbz.q1, hbz.q2, hbz.q9⟩) fun zS => ?_
       refine zra 28 rfl zS rfl ?_
       refine zra 29 rfl zS rfl ?_
       refine IW (by kernel_rfl) ?_
       exact gV (hN ((O6, J3 w7 nb #[nI x.1, nI x.2.1, x.2.2], nb, x)) (⟨hnz, hbz, KG hm7 hXz hjm (by omega), Kq hU7 (hXz.mono (fun _ h => .inr (.inr (IL h.symm))) hz3), KD hR7 hXz, hxo, fun t e => Nt.upd (hxn t e) hXz⟩)) ⟨rfl, rfl, rfl, rfl, rfl, trivial⟩ rfl
     ·rintro⟨O8, w8, nb, x⟩ ⟨hn8, hb8, hm8, hU8, hR8, hxo, hxn⟩
      dsimp only at hn8 hb8 hm8 hU8 hR8 hxo hxn ⊢
      refine aq ?_
      refine IS ?_
      refine IS ?_
      refine J1 ?_
      refine zv (I8 rfl) ?_
      refine zv (Kr rfl rfl) ?_
      refine I3 ?_
      refine aq ?_
      cases M with
      |ok t =>
       rw[hMX]
       refine aT rfl rfl ?_
       have hnt := hxn t rfl
       obtain⟨ms, hrow, hkl2, hke⟩ := hm8
       have hrowD := Kk hrow
       have hRD := KA hR8
       have hbD := Ji hb8
       have hnD := Ji hn8
       have hUD := Kz hU8
       refine K2 ?_
       refine aq ?_
       refine aK (fun V => ∀(q:Nat) (u:I1), (bt x)[q]? = some u → V.cell? (nA nb q) = some u) 13 rfl (by kernel_rfl) ?_
       refine zin hnD.cellsAdd fun zS => ?_
       refine zrm 0 rfl zS rfl ?_
       refine zrm 1 rfl zS rfl ?_
       refine zr 2 rfl zS (fun _ => ak rfl) ?_
       refine zrf 3 rfl zS rfl ?_
       refine zrm 5 rfl zS rfl ?_
       refine zt 6 rfl zS (fun w1 hw1 => ah (us := bt x) hw1 (isAgg120 _) (JQ _) rfl) ?_
       refine zr 7 rfl zS (fun _ => JS (vs := [(0, .string (bs nm)), (1, nv x)]) (cells := (kF (nm, x)).toArray) FT (Kw _) rfl (by kernel_rfl)) ?_
       refine bZ 4 8 (by kernel_rfl) rfl rfl ?_ ?_
       ·skip
        refine zv (RV.ld hbD.q9 rfl) ?_
        refine I3 ?_
        refine af hnD.cellsAdd ?_
        refine IE 8 (by kernel_rfl) rfl ?_
        refine aV elM (enc := kF) (nm, x) rfl rfl rfl (by decide) rfl ?_
        intro w9 h9 hE9
        have hX9:IK (fun _ => False) O8 (Jr w8) O8 w9 := aa (fun h => h) O8 hE9
        have hb9 := hbD.upd hX9 hj (fun h => h)
        have hn9 := hnD.upd hX9 (by omega) (fun h => h)
        have hrow9 := hrowD.upd hX9 hjm (fun h => h)
        have hR9 := hRD.upd hX9
        have hU9 := hUD.trans (hX9.mono (fun _ h => h.elim) hz3)
        refine I3 ?_
        refine af hn9.cellsAdd ?_
        have hone9:∀u ∈ [((nm, x):M3)], ∀c ∈ kF u, c.oneCell' = true := fun u hu => by
         rw[J6.1 hu]; exact kd hxo
        refine IE 9 (by kernel_rfl) rfl ?_
        refine aB elM hrow9 hR9 h9 (by simp) rfl rfl (fun _ _ => rfl) hone9 (by simp; omega) (by simp; omega) (by omega) rfl ?_
        intro lv10 w10 O10 hrow10 hX10 hR10
        have hb10 := I6 hb9 hX10 hj (by omega)
        have hn10 := I6 hn9 hX10 (by omega) (by omega)
        have hl10 := hrow10.one
        have hU10 := hU9.trans (hX10.mono (fun _ h => .inr (.inl h)) hz3)
        refine I3 ?_
        refine zaf (hn10.cellsAdd) fun zS => ?_
        refine zr 10 rfl zS (fun _ => ak rfl) ?_
        refine zrf 11 rfl zS rfl ?_
        refine IE 12 (by kernel_rfl) rfl ?_
        refine aj (j := 9) hb10 rfl (JR _) hl10 rfl rfl rfl ?_
        have hX11:IK (fun q => q = j) O10 w10 O10 (IM w10 ⟨rb, 9, none⟩ lv10) := I9 (fun e => hj e.symm) hb10.tag rfl
        have hb11:J0 O10 (IM w10 ⟨rb, 9, none⟩ lv10) j rb ({({s with pos := (m:Int) - (r2.length:Int)}:LS)with mc := lv10}:LS).cells 114 := hb10.set 9 lv10
        have hn11 := hn10.upd hX11 (by omega) (by omega)
        have hrow11 := hrow10.upd hX11 hjm (fun e => hne e.symm)
        have hU11 := hU10.trans (hX11.mono (fun _ h => .inl h) hz3)
        have hR11 := hR10.upd hX11
        refine I3 ?_
        refine af (hn11.cellsAdd) ?_
        refine IW (by kernel_rfl) ?_
        have hUz := JN hU11 hT (S' := fun q => q = j ∨ q = jm) (fun b hb => by rcases hb with hb | hb | hb; exact JZ hb; exact JY hb; have := hT b; omega) hz2
        exact aD rfl ⟨lowT O10 T, lv10, _, _, _, hUz, hR11.lowT T, hb11.lowT hjT, he, xE (hrow11.lowT hjmT) hkl2 (fun q hq => ⟨(hke q hq).1, (((((hke q hq).2.drew).upd hX9).upd hX10).upd hX11).weak (fun b hb => jO hb)⟩) (((((hnt.drew).upd hX9).upd hX10).upd hX11).weak (fun b hb => jO hb))⟩
       ·skip
        refine aV elM (enc := kF) (nm, x) rfl rfl rfl (by decide) rfl ?_
        intro w9 h9 hE9
        have hX9:IK (fun _ => False) O8 (Jr w8) O8 w9 := aa (fun h => h) O8 hE9
        have hb9 := hbD.upd hX9 hj (fun h => h)
        have hn9 := hnD.upd hX9 (by omega) (fun h => h)
        have hrow9 := hrowD.upd hX9 hjm (fun h => h)
        have hR9 := hRD.upd hX9
        have hU9 := hUD.trans (hX9.mono (fun _ h => h.elim) hz3)
        refine I3 ?_
        refine af hn9.cellsAdd ?_
        refine IE 4 (by kernel_rfl) rfl ?_
        refine zv (RV.ld hb9.q9 rfl) ?_
        refine I3 ?_
        refine af hn9.cellsAdd ?_
        have hone9:∀u ∈ [((nm, x):M3)], ∀c ∈ kF u, c.oneCell' = true := fun u hu => by
         rw[J6.1 hu]; exact kd hxo
        refine IE 9 (by kernel_rfl) rfl ?_
        refine aB elM hrow9 hR9 h9 (by simp) rfl rfl (fun _ _ => rfl) hone9 (by simp; omega) (by simp; omega) (by omega) rfl ?_
        intro lv10 w10 O10 hrow10 hX10 hR10
        have hb10 := I6 hb9 hX10 hj (by omega)
        have hn10 := I6 hn9 hX10 (by omega) (by omega)
        have hl10 := hrow10.one
        have hU10 := hU9.trans (hX10.mono (fun _ h => .inr (.inl h)) hz3)
        refine I3 ?_
        refine zaf (hn10.cellsAdd) fun zS => ?_
        refine zr 10 rfl zS (fun _ => ak rfl) ?_
        refine zrf 11 rfl zS rfl ?_
        refine IE 12 (by kernel_rfl) rfl ?_
        refine aj (j := 9) hb10 rfl (JR _) hl10 rfl rfl rfl ?_
        have hX11:IK (fun q => q = j) O10 w10 O10 (IM w10 ⟨rb, 9, none⟩ lv10) := I9 (fun e => hj e.symm) hb10.tag rfl
        have hb11:J0 O10 (IM w10 ⟨rb, 9, none⟩ lv10) j rb ({({s with pos := (m:Int) - (r2.length:Int)}:LS)with mc := lv10}:LS).cells 114 := hb10.set 9 lv10
        have hn11 := hn10.upd hX11 (by omega) (by omega)
        have hrow11 := hrow10.upd hX11 hjm (fun e => hne e.symm)
        have hU11 := hU10.trans (hX11.mono (fun _ h => .inl h) hz3)
        have hR11 := hR10.upd hX11
        refine I3 ?_
        refine af (hn11.cellsAdd) ?_
        refine IW (by kernel_rfl) ?_
        have hUz := JN hU11 hT (S' := fun q => q = j ∨ q = jm) (fun b hb => by rcases hb with hb | hb | hb; exact JZ hb; exact JY hb; have := hT b; omega) hz2
        exact aD rfl ⟨lowT O10 T, lv10, _, _, _, hUz, hR11.lowT T, hb11.lowT hjT, he, xE (hrow11.lowT hjmT) hkl2 (fun q hq => ⟨(hke q hq).1, (((((hke q hq).2.drew).upd hX9).upd hX10).upd hX11).weak (fun b hb => jO hb)⟩) (((((hnt.drew).upd hX9).upd hX10).upd hX11).weak (fun b hb => jO hb))⟩
      |bad p e =>
       have hne7 := (hgX p e rfl).1
       have hple := (hgX p e rfl).2
       rw[hMX]
       refine aS rfl ((by simpa[GW]using hne7)) ?_
       have hb8d := hb8.drew
       have hn8d := hn8.drew
       have hm8d := hm8.upd (aa (S := fun _ => False) (fun h => h) O8 (II w8).drew) hjm (fun h => h)
       refine J2 12 rfl rfl (by kernel_rfl) (by kernel_rfl) ?_
       refine zw (I8 rfl) ?_
       refine zw (ak rfl) ?_
       refine zw (RV.fa rfl) ?_
       refine zw (I8 rfl) ?_
       refine zw (ak rfl) ?_
       refine zw (RV.fa rfl) ?_
       refine zw (RV.fa rfl) ?_
       refine zw (RV.ld hb8d.q1 rfl) ?_
       refine zw (Jl rfl rfl (IV (by dsimp only; omega))) ?_
       refine zw (I8 rfl) ?_
       refine zw (Jl rfl rfl (IV (by dsimp only[atX]; omega))) ?_
       refine zw (I8 rfl) ?_
       refine Jj ?_
       refine zc IY (bx O8 w8.drew j rb ({s with pos := (m:Int) - (r2.length:Int)}:LS) (((m:Int) - (r2.length:Int)) + 1 + (p:Int)) e hj he hb8d) ?_
       rintro u wf ⟨hbf, hUf⟩
       have hnf' := hn8d.upd hUf (by omega) (by omega)
       have hmf' := hm8d.upd hUf hjm (fun e => hne e.symm)
       have hRf' := hR8.drew.upd hUf
       have hUf' := (hU8.drew).trans (hUf.mono (S' := fun q => q = j ∨ q = jm ∨ T ≤ q) (fun _ h => .inl h) hz3)
       have hbf':J0 O8 wf j rb ({s with pos := (m:Int) - (r2.length:Int), bad := ((m:Int) - (r2.length:Int)) + 1 + (p:Int), e := e}:LS).cells 114 := hbf
       clear hbf
       obtain⟨ms, hrow, hkl2, hke⟩ := hmf'
       have hrowD := Kk hrow
       have hRD := KA hRf'
       have hbD := Ji hbf'
       have hnD := Ji hnf'
       have hUD := Kz hUf'
       refine I3 ?_
       refine aq ?_
       refine aK (fun V => ∀(q:Nat) (u:I1), (bt x)[q]? = some u → V.cell? (nA nb q) = some u) 13 rfl (by kernel_rfl) ?_
       refine zin hnD.cellsAdd fun zS => ?_
       refine zrm 0 rfl zS rfl ?_
       refine zrm 1 rfl zS rfl ?_
       refine zr 2 rfl zS (fun _ => ak rfl) ?_
       refine zrf 3 rfl zS rfl ?_
       refine zrm 5 rfl zS rfl ?_
       refine zt 6 rfl zS (fun w1 hw1 => ah (us := bt x) hw1 (isAgg120 _) (JQ _) rfl) ?_
       refine zr 7 rfl zS (fun _ => JS (vs := [(0, .string (bs nm)), (1, nv x)]) (cells := (kF (nm, x)).toArray) FT (Kw _) rfl (by kernel_rfl)) ?_
       refine bZ 4 8 (by kernel_rfl) rfl rfl ?_ ?_
       ·skip
        refine zv (RV.ld hbD.q9 rfl) ?_
        refine I3 ?_
        refine af hnD.cellsAdd ?_
        refine IE 8 (by kernel_rfl) rfl ?_
        refine aV elM (enc := kF) (nm, x) rfl rfl rfl (by decide) rfl ?_
        intro w9 h9 hE9
        have hX9:IK (fun _ => False) O8 (Jr wf) O8 w9 := aa (fun h => h) O8 hE9
        have hb9 := hbD.upd hX9 hj (fun h => h)
        have hn9 := hnD.upd hX9 (by omega) (fun h => h)
        have hrow9 := hrowD.upd hX9 hjm (fun h => h)
        have hR9 := hRD.upd hX9
        have hU9 := hUD.trans (hX9.mono (fun _ h => h.elim) hz3)
        refine I3 ?_
        refine af hn9.cellsAdd ?_
        have hone9:∀u ∈ [((nm, x):M3)], ∀c ∈ kF u, c.oneCell' = true := fun u hu => by
         rw[J6.1 hu]; exact kd hxo
        refine IE 9 (by kernel_rfl) rfl ?_
        refine aB elM hrow9 hR9 h9 (by simp) rfl rfl (fun _ _ => rfl) hone9 (by simp; omega) (by simp; omega) (by omega) rfl ?_
        intro lv10 w10 O10 hrow10 hX10 hR10
        have hb10 := I6 hb9 hX10 hj (by omega)
        have hn10 := I6 hn9 hX10 (by omega) (by omega)
        have hl10 := hrow10.one
        have hU10 := hU9.trans (hX10.mono (fun _ h => .inr (.inl h)) hz3)
        refine I3 ?_
        refine zaf (hn10.cellsAdd) fun zS => ?_
        refine zr 10 rfl zS (fun _ => ak rfl) ?_
        refine zrf 11 rfl zS rfl ?_
        refine IE 12 (by kernel_rfl) rfl ?_
        refine aj (j := 9) hb10 rfl (JR _) hl10 rfl rfl rfl ?_
        have hX11:IK (fun q => q = j) O10 w10 O10 (IM w10 ⟨rb, 9, none⟩ lv10) := I9 (fun e => hj e.symm) hb10.tag rfl
        have hb11:J0 O10 (IM w10 ⟨rb, 9, none⟩ lv10) j rb ({({s with pos := (m:Int) - (r2.length:Int), bad := ((m:Int) - (r2.length:Int)) + 1 + (p:Int), e := e}:LS)with mc := lv10}:LS).cells 114 := hb10.set 9 lv10
        have hn11 := hn10.upd hX11 (by omega) (by omega)
        have hrow11 := hrow10.upd hX11 hjm (fun e => hne e.symm)
        have hU11 := hU10.trans (hX11.mono (fun _ h => .inl h) hz3)
        have hR11 := hR10.upd hX11
        refine I3 ?_
        refine af (hn11.cellsAdd) ?_
        refine IW (by kernel_rfl) ?_
        have hUz := JN hU11 hT (S' := fun q => q = j ∨ q = jm) (fun b hb => by rcases hb with hb | hb | hb; exact JZ hb; exact JY hb; have := hT b; omega) hz2
        exact aD rfl ⟨lowT O10 T, lv10, _, _, _, hUz, hR11.lowT T, hb11.lowT hjT, rfl, hne7, by dsimp only; omega⟩
       ·skip
        refine aV elM (enc := kF) (nm, x) rfl rfl rfl (by decide) rfl ?_
        intro w9 h9 hE9
        have hX9:IK (fun _ => False) O8 (Jr wf) O8 w9 := aa (fun h => h) O8 hE9
        have hb9 := hbD.upd hX9 hj (fun h => h)
        have hn9 := hnD.upd hX9 (by omega) (fun h => h)
        have hrow9 := hrowD.upd hX9 hjm (fun h => h)
        have hR9 := hRD.upd hX9
        have hU9 := hUD.trans (hX9.mono (fun _ h => h.elim) hz3)
        refine I3 ?_
        refine af hn9.cellsAdd ?_
        refine IE 4 (by kernel_rfl) rfl ?_
        refine zv (RV.ld hb9.q9 rfl) ?_
        refine I3 ?_
        refine af hn9.cellsAdd ?_
        have hone9:∀u ∈ [((nm, x):M3)], ∀c ∈ kF u, c.oneCell' = true := fun u hu => by
         rw[J6.1 hu]; exact kd hxo
        refine IE 9 (by kernel_rfl) rfl ?_
        refine aB elM hrow9 hR9 h9 (by simp) rfl rfl (fun _ _ => rfl) hone9 (by simp; omega) (by simp; omega) (by omega) rfl ?_
        intro lv10 w10 O10 hrow10 hX10 hR10
        have hb10 := I6 hb9 hX10 hj (by omega)
        have hn10 := I6 hn9 hX10 (by omega) (by omega)
        have hl10 := hrow10.one
        have hU10 := hU9.trans (hX10.mono (fun _ h => .inr (.inl h)) hz3)
        refine I3 ?_
        refine zaf (hn10.cellsAdd) fun zS => ?_
        refine zr 10 rfl zS (fun _ => ak rfl) ?_
        refine zrf 11 rfl zS rfl ?_
        refine IE 12 (by kernel_rfl) rfl ?_
        refine aj (j := 9) hb10 rfl (JR _) hl10 rfl rfl rfl ?_
        have hX11:IK (fun q => q = j) O10 w10 O10 (IM w10 ⟨rb, 9, none⟩ lv10) := I9 (fun e => hj e.symm) hb10.tag rfl
        have hb11:J0 O10 (IM w10 ⟨rb, 9, none⟩ lv10) j rb ({({s with pos := (m:Int) - (r2.length:Int), bad := ((m:Int) - (r2.length:Int)) + 1 + (p:Int), e := e}:LS)with mc := lv10}:LS).cells 114 := hb10.set 9 lv10
        have hn11 := hn10.upd hX11 (by omega) (by omega)
        have hrow11 := hrow10.upd hX11 hjm (fun e => hne e.symm)
        have hU11 := hU10.trans (hX11.mono (fun _ h => .inl h) hz3)
        have hR11 := hR10.upd hX11
        refine I3 ?_
        refine af (hn11.cellsAdd) ?_
        refine IW (by kernel_rfl) ?_
        have hUz := JN hU11 hT (S' := fun q => q = j ∨ q = jm) (fun b hb => by rcases hb with hb | hb | hb; exact JZ hb; exact JY hb; have := hT b; omega) hz2
        exact aD rfl ⟨lowT O10 T, lv10, _, _, _, hUz, hR11.lowT T, hb11.lowT hjT, rfl, hne7, by dsimp only; omega⟩
    ·have hM:qW kn r = .bad r2.length 4 := by rw[hMK, if_neg hc]
     rw[hM]
     refine aS rfl ((uU _ 61 (by decide) hc)) ?_
     have hbe := hb5.drew
     refine IS ?_
     refine J2 8 rfl rfl (by kernel_rfl) (by kernel_rfl) ?_
     refine zw (I8 rfl) ?_
     refine zw (ak rfl) ?_
     refine zw (RV.fa rfl) ?_
     refine zw (I8 rfl) ?_
     refine zw (ak rfl) ?_
     refine zw (RV.fa rfl) ?_
     refine zw (RV.fa rfl) ?_
     refine zw (RV.ld hbe.q1 rfl) ?_
     refine Jj ?_
     refine zc IY (bx O w5.drew j rb ({s with pos := (m:Int) - (r2.length:Int)}:LS) ((m:Int) - (r2.length:Int)) 4 hj he hbe) ?_
     rintro u w6 ⟨hb6, hU6⟩
     refine I3 ?_
     refine aq ?_
     refine Kd ?_
     refine dJ ?_
     exact bR rfl ⟨O, s.mc, _, _, _, hpv ((hUt5.drew).trans (hU6.mono (fun _ h => .inl h) hz3)), hR5.drew.upd hU6, hb6, rfl, by decide, rfl⟩
  ·have hM:qW kn r = .bad (ar r).length (eM kn ((ar r).takeWhile ai)) := by unfold qW; rw[if_neg hnm, if_pos htk]
   rw[hM]
   refine aS rfl ((by simpa using htk)) ?_
   refine IS ?_
   refine J1 ?_
   refine zv (I8 rfl) ?_
   refine zv (ak rfl) ?_
   refine zv (RV.fa rfl) ?_
   refine zv (I8 rfl) ?_
   refine zv (I8 rfl) ?_
   refine zc IY (bx O w3 j rb ({s with pos := (m:Int) - (((ar r).dropWhile ai).length:Int)}:LS) ((m:Int) - ((ar r).length:Int)) (eM kn ((ar r).takeWhile ai)) hj he hb3) ?_
   rintro u w4 ⟨hb4, hU4⟩
   refine I3 ?_
   refine aq ?_
   refine Kd ?_
   refine dJ ?_
   exact bR rfl ⟨O, s.mc, _, _, _, hpv (hUt3.trans (hU4.mono (fun _ h => .inl h) hz3)), hR3.upd hU4, hb4, rfl, htk, rfl⟩
end
theorem Ik:Elem IP 22 3 1 8:=⟨I5,by kernel_rfl,zd⟩
inductive LM where
 |ok (l:List Int)
 |bad (p:Nat) (e:Int)
def eZ:Nat->List Int->List UInt8->LM
 |0,acc,_=>.ok acc
 |n+1,acc,r=>
  if(ar r).length=0 then .ok acc
  else if(ar r).takeWhile ai=[]then .bad (ar r).length 4
  else match Af ((ar r).takeWhile ai)with
   |none=>.bad (ar r).length 5
   |some c=>eZ n (acc++[(c:Int)]) ((ar r).dropWhile ai)
def GS:LM->LM
 |.bad p e=>.bad p e
 |.ok []=>.bad 0 4
 |.ok (a::l)=>.ok (JP (gj (a::l)))
def cK(r:List UInt8):LM:=GS (eZ (r.length+1) [] r)
theorem ri{x:List UInt8}(h:x.takeWhile ai≠[]):(x.dropWhile ai).length<x.length:=by
 have:=congrArg Kg (List.takeWhile_append_dropWhile (p:=ai) (l:=x));rw[IJ]at this;have:=List.length_pos_iff.2 h;omega
def Gm(m:Nat)(w':ln)(O':Nat->Nat)(ji:Nat)(lv:I1)(bad e:Int):LM->Prop
 |.ok l=>e=0/\Kl encI 3 1 O' w' ji lv l
 |.bad p e'=>e=e'/\e'≠0/\bad=(m:Int)-(p:Int)
theorem oR(O:Nat->Nat)(w:ln)(j rb:Nat)(s:LS)(hj:j≠0)(he:s.e=0)(a0:s.i=true)(h:JX O w j rb s):
  Jm IP 79 [nP rb,.pointer (some ⟨rb,6,none⟩),.pointer (some ⟨rb,10,none⟩)] w fun _ w'=>JX O w' j rb {s with bad:=s.bg,e:=11}/\IK (fun k=>k=j) O w O w':=by
 have q0:=h.q10;rw[a0]at q0;have q3:=h.q3;have hd:=h.drew;have a3:IK (fun k=>k=j) O w O w.drew:=(Jh (fun e=>hj e.symm) O w).drew;refine I0 Kj K9 rfl rfl ?_;refine zg ?_;refine zvG (RV.ld q0 rfl) ?_;refine zTG rfl rfl ?_;refine J2 8 rfl rfl zk zk ?_;refine zg ?_;refine zw (RV.ld q3 rfl) ?_;refine Jj ?_;refine zc IY (bx O w.drew j rb s s.bg 11 hj he hd) ?_;rintro u w1 ⟨a1,a2⟩;refine zg ?_;exact bR rfl ⟨a1,a3.trans a2⟩
theorem oQ(O:Nat->Nat)(w:ln)(j rb:Nat)(s:LS)(hj:j≠0)(he:s.e=0)(a0:s.k=true)(h:JX O w j rb s):
  Jm IP 79 [nP rb,.pointer (some ⟨rb,7,none⟩),.pointer (some ⟨rb,11,none⟩)] w fun _ w'=>JX O w' j rb {s with bad:=s.bg,e:=11}/\IK (fun k=>k=j) O w O w':=by
 have q0:=h.q11;rw[a0]at q0;have q3:=h.q3;have hd:=h.drew;have a3:IK (fun k=>k=j) O w O w.drew:=(Jh (fun e=>hj e.symm) O w).drew;refine I0 Kj K9 rfl rfl ?_;refine zg ?_;refine zvG (RV.ld q0 rfl) ?_;refine zTG rfl rfl ?_;refine J2 8 rfl rfl zk zk ?_;refine zg ?_;refine zw (RV.ld q3 rfl) ?_;refine Jj ?_;refine zc IY (bx O w.drew j rb s s.bg 11 hj he hd) ?_;rintro u w1 ⟨a1,a2⟩;refine zg ?_;exact bR rfl ⟨a1,a3.trans a2⟩
theorem rh:∀(n:Nat) (a0:List Int) (r:List UInt8) (p:Nat) (e:Int),eZ n a0 r=.bad p e->p<=r.length
 |0,_,_,_,_,h=>by cases h
 |n+1,a0,r,p,e,h=>by
  have hs:=da r;unfold eZ at h
  split at h
  ·cases h
  split at h
  ·cases h;exact hs
  split at h
  ·cases h;exact hs
  have h1:=rh n _ _ p e h;have h2:=(ix (l:=ar r) ai).length_le;omega
theorem mu{r:List UInt8}{p:Nat}{e:Int}(h:cK r=.bad p e):p<=r.length:=by
 unfold cK at h
 cases hw:eZ (r.length+1) [] r with
 |bad q f=>rw[hw]at h;cases h;exact rh _ _ _ _ _ hw
 |ok l=>
  rw[hw]at h
  cases l with
  |nil=>cases h;exact Jo _
  |cons a l=>cases h
theorem sn(B:Nat)(O:Nat->Nat)(w:ln)(j ji rb:Nat)(s:LS)(m:Nat)(r0:List UInt8)(hR:JG B O w)(hj:j≠0)(a8:ji≠0)(a9:j≠ji)(hm:m<=s.l.length)(hl:s.l.length<=100000)(d6:s.to=(m:Int))(he:s.e=0)(g1:s.i=false)(g2:s.ig=qV)
  (hr:r0 <:+ s.l.take m) (hp:s.pos=(m:Int)-(r0.length:Int)) (h:JX O w j rb s) :
  Jm IP 79 [nP rb,.pointer (some ⟨rb,6,none⟩),.pointer (some ⟨rb,10,none⟩)] w fun _ w'=>∃O' lv pos bad e,IK (fun k=>k=j\/k=ji) O w O' w'/\JG B O' w'/\JX O' w' j rb {s with pos:=pos,bad:=bad,e:=e,ig:=lv,i:=true}/\Gm m w' O' ji lv bad e (cK r0):=by
 have a0:¬(fun q:Nat=>q=j\/q=ji) 0:=fun e=>by rcases e with e|e;exact hj e.symm;exact a8 e.symm
 have h1:r0.length<=m:=by have:=hr.length_le;simp at this;omega
 have q0:=h.q10;rw[g1]at q0;refine I0 Kj K9 rfl rfl ?_;refine zg ?_;refine zvG (RV.ld q0 rfl) ?_;refine zFG rfl rfl ?_;refine aj (j:=10) h rfl (Jp _) rfl rfl rfl rfl ?_;have g4:JX O (w.setCell ⟨rb,10,none⟩ (.bool true)) j rb {s with i:=true}:=Kv h 10 _;have f6:IK (fun k=>k=j) O w O (w.setCell ⟨rb,10,none⟩ (.bool true)):=I9 (fun e=>hj e.symm) h.tag rfl;have g7:=hR.upd f6;generalize w.setCell ⟨rb,10,none⟩ (.bool true)=w1 at *;obtain⟨M,d1⟩:∃M,M=eZ (r0.length+1) [] r0:=⟨_,rfl⟩
 refine zg ?_;refine zlp (fun y:Nat×List Int×List UInt8×(Nat->Nat)×World×I1=>[(0,nP rb),(1,.pointer (some ⟨rb,6,none⟩))]) (fun y=>y.2.2.2.2.1) (fun y=>JX y.2.2.2.1 y.2.2.2.2.1 j rb {s with pos:=(m:Int)-(y.2.2.1.length:Int),ig:=y.2.2.2.2.2,i:=true}/\Kl encI 3 1 y.2.2.2.1 y.2.2.2.2.1 ji y.2.2.2.2.2 y.2.1/\y.2.2.1 <:+ s.l.take m/\eZ y.1 y.2.1 y.2.2.1=M/\y.2.2.1.length<y.1/\y.2.1.length+y.2.2.1.length<=r0.length/\IK (fun k=>k=j\/k=ji) O w y.2.2.2.1 y.2.2.2.2.1/\JG B y.2.2.2.1 y.2.2.2.2.1) (fun y=>y.1) (r0.length+1,[],r0,O,w1,qV) (⟨by dsimp only;rw[<-hp,<-g2];exact g4,Jt _ _ _ _ _ _,hr,d1.symm,K4 _,by simp,f6.mono (fun _ h=>.inl h) a0,g7⟩) ?_
 rintro⟨n,d5,r,O1,w2,lv⟩ ⟨f4,b1,b2,a4,hn,g5,f5,f7⟩;dsimp only at f4 b1 b2 a4 hn g5 f5 f7 ⊢;obtain⟨n,rfl⟩:∃q,n=q+1:=⟨n-1,by omega⟩
 have g':=da r;unfold eZ at a4;refine zg ?_;refine zc JV (dG O1 w2 j rb ({s with pos:=(m:Int)-((r).length:Int),ig:=lv,i:=true}:LS) m r hj hm hl d6 b2 rfl f4) ?_;rintro v w3 ⟨rfl,b6,e6⟩;have a3:=b1.upd e6 a8 (fun e=>a9 e.symm);have f3:=f7.upd e6;have b9:=f5.trans (e6.mono (fun _ h=>.inl h) a0);refine zg ?_
 by_cases h0:(ar r).length=0
 ·rw[if_pos h0]at a4;refine aT rfl ((decide_eq_false zo)) ?_;have f9:=b6.q6;have d7:=a3.sl;refine zg ?_;refine zv (RV.ld f9 rfl) ?_;refine zvG (JD (by first|exact d7) I5 rfl) ?_
  rcases d5 with _|⟨a,d5⟩
  ·have hM:cK r0=.bad 0 4:=by unfold cK;rw[<-d1,<-a4];rfl
   rw[hM];refine aS rfl rfl ?_;have d':=b6.q2;dsimp only at d';rw[d6]at d';have hb3d:=b6.drew;have hrow3d:=a3.drew;have hR3d:=f3.drew;have hUt3d:=b9.drew;refine J2 8 rfl rfl zk zk ?_;refine zg ?_;refine zw (RV.ld d' rfl) ?_;refine Jj ?_;refine zc IY (bx O1 w3.drew j rb ({s with pos:=(m:Int)-((ar r).length:Int),ig:=lv,i:=true}:LS) (m:Int) 4 hj he hb3d) ?_;rintro u w7 ⟨b',c5⟩;have a2:=hrow3d.upd c5 a8 (fun e=>a9 e.symm);have e9:=hR3d.upd c5;have e3:=hUt3d.trans (c5.mono (fun _ h=>.inl h) a0);have d9:=KC b';refine zg ?_;refine zv (RV.ld d9 rfl) ?_;refine zc Kb (jz e9 a2 a8 zo) ?_;rintro u w8 ⟨a6,a',e8⟩;have b5:=I6 b' a' hj a9;have d8:=b5.q6;refine zg ?_;refine zv (RV.ld d8 rfl) ?_;refine zc Ka (eE e8 a6 a8 (by rw[dM];omega)) ?_;rintro u w9 ⟨a1,c',e7⟩;have b4:=b5.upd c' hj a9;have a7:=a1.one;refine zg ?_;refine aj (j:=6) b4 rfl (Jq _) a7 rfl rfl rfl ?_;have b7:=b4.set 6 u;have a5:IK (fun k=>k=j) O1 w9 O1 (w9.setCell ⟨rb,6,none⟩ u):=I9 (fun e=>hj e.symm) b4.tag rfl;have e1:=((e3.trans (a'.mono (fun _ h=>.inr h) a0)).trans (c'.mono (fun _ h=>.inr h) a0)).trans (a5.mono (fun _ h=>.inl h) a0);refine zg ?_;exact aD rfl ⟨O1,u,_,(m:Int),4,e1,e7.upd a5,b7,⟨rfl,by decide,by simp⟩⟩
  have hM:cK r0=.ok (JP (gj (a::d5))):=by unfold cK;rw[<-d1,<-a4];rfl
  rw[hM];refine aT rfl ((beq_eq_false_iff_ne.2 (by simp;omega))) ?_;have d9:=KC b6;refine zg ?_;refine zv (RV.ld d9 rfl) ?_;refine zc Kb (jz f3 a3 a8 zo) ?_;rintro u w8 ⟨a6,a',e8⟩;have b5:=I6 b6 a' hj a9;have d8:=b5.q6;refine zg ?_;refine zv (RV.ld d8 rfl) ?_;refine zc Ka (eE e8 a6 a8 (by rw[dM];omega)) ?_;rintro u w9 ⟨a1,c',e7⟩;have b4:=b5.upd c' hj a9;have a7:=a1.one;refine zg ?_;refine aj (j:=6) b4 rfl (Jq _) a7 rfl rfl rfl ?_;have b7:=b4.set 6 u;have a5:IK (fun k=>k=j) O1 w9 O1 (w9.setCell ⟨rb,6,none⟩ u):=I9 (fun e=>hj e.symm) b4.tag rfl;have e1:=((b9.trans (a'.mono (fun _ h=>.inr h) a0)).trans (c'.mono (fun _ h=>.inr h) a0)).trans (a5.mono (fun _ h=>.inl h) a0);refine zg ?_;exact aD rfl ⟨O1,u,_,_,_,e1,e7.upd a5,b7,⟨he,a1.upd a5 a8 (fun e=>a9 e.symm)⟩⟩
 rw[if_neg h0]at a4;refine aS rfl ((decide_eq_true zo)) ?_;have f':=b6.q1;have b0:=(aY r).trans b2;refine zg ?_;refine zvG (RV.ld f' rfl) ?_;refine zc K8 (gm O1 w3 j rb ({s with pos:=(m:Int)-((ar r).length:Int),ig:=lv,i:=true}:LS) m (ar r) hj hm hl d6 b0 rfl b6) ?_;rintro v w4 ⟨rfl,g3,e5⟩;have c7:=a3.upd e5 a8 (fun e=>a9 e.symm);have g6:=f3.upd e5;have e4:=b9.trans (e5.mono (fun _ h=>.inl h) a0);refine zg ?_;refine zc call112 (ie ((ar r).takeWhile ai) w4) ?_;rintro v w5 ⟨rfl,g8⟩;have d4:IK (fun _=>False) O1 w4 O1 w5:=aa (fun h=>h) O1 g8;have d3:=g3.upd d4 hj (fun h=>h);have c6:=c7.upd d4 a8 (fun h=>h);have e':=g6.upd d4;have b8:=e4.trans (d4.mono (fun _ h=>h.elim) a0);refine zg ?_;refine zvG (cI rfl rfl) ?_
 by_cases c9:(ar r).takeWhile ai=[]
 ·rw[if_pos c9]at a4;have hM:cK r0=.bad (ar r).length 4:=by unfold cK;rw[<-d1,<-a4];rfl
  rw[hM];refine zTG rfl ((by simpa using c9)) ?_;refine zc IY (bx O1 w5 j rb ({s with pos:=(m:Int)-(((ar r).dropWhile ai).length:Int),ig:=lv,i:=true}:LS) ((m:Int)-((ar r).length:Int)) 4 hj he d3) ?_;rintro u w6 ⟨e0,d0⟩;refine zg ?_;exact bR rfl ⟨O1,lv,_,_,_,b8.trans (d0.mono (fun _ h=>.inl h) a0),e'.upd d0,e0,rfl,by decide,rfl⟩
 rw[if_neg c9]at a4;have g9:=ri c9;refine zFG rfl ((by simpa using c9)) ?_
 cases b3:Af ((ar r).takeWhile ai)with
 |none=>
  rw[b3]at a4;have hM:cK r0=.bad (ar r).length 5:=by unfold cK;rw[<-d1,<-a4];rfl
  rw[hM];refine zTG rfl rfl ?_;refine zc IY (bx O1 w5 j rb ({s with pos:=(m:Int)-(((ar r).dropWhile ai).length:Int),ig:=lv,i:=true}:LS) ((m:Int)-((ar r).length:Int)) 5 hj he d3) ?_;rintro u w6 ⟨e0,d0⟩;refine zg ?_;exact bR rfl ⟨O1,lv,_,_,_,b8.trans (d0.mono (fun _ h=>.inl h) a0),e'.upd d0,e0,rfl,by decide,rfl⟩
 |some c=>
  rw[b3]at a4;dsimp only at a4;have g0:C8 ((ar r).takeWhile ai)=(c:Int):=by unfold C8;rw[b3]
  rw[g0];refine aT rfl rfl ?_;have f8:=d3.q6;refine zg ?_;refine zvG (RV.ld f8 rfl) ?_;refine KJ Ik c6 e' ((c:Int)) (fun _=>rfl) rfl rfl rfl (by simp[IG,encI]) zo zo zo zd rfl rfl ?_;intro d2 w7 O7 a2 c5 e9;have c8:=a2.one;have b':=d3.upd c5 hj a9;refine zg ?_;refine aj (j:=6) b' rfl (Jq _) c8 rfl rfl rfl ?_;have b5:=b'.set 6 d2;have a':IK (fun k=>k=j) O7 w7 O7 (w7.setCell ⟨rb,6,none⟩ d2):=I9 (fun e=>hj e.symm) b'.tag rfl;have e2:=(b8.trans (c5.mono (fun _ h=>.inr h) a0)).trans (a'.mono (fun _ h=>.inl h) a0);refine zg ?_;refine zxd (n,d5++[(c:Int)],(ar r).dropWhile ai,O7,(w7.setCell ⟨rb,6,none⟩ d2),d2) (⟨b5,a2.upd a' a8 (fun e=>a9 e.symm),(ix _).trans b0,a4,by dsimp only;omega,by simp;omega,e2,e9.upd a'⟩)
theorem sm(B:Nat)(O:Nat->Nat)(w:ln)(j ji rb:Nat)(s:LS)(m:Nat)(r0:List UInt8)(hR:JG B O w)(hj:j≠0)(a8:ji≠0)(a9:j≠ji)(hm:m<=s.l.length)(hl:s.l.length<=100000)(d6:s.to=(m:Int))(he:s.e=0)(g1:s.k=false)(g2:s.kp=qV)
  (hr:r0 <:+ s.l.take m) (hp:s.pos=(m:Int)-(r0.length:Int)) (h:JX O w j rb s) :
  Jm IP 79 [nP rb,.pointer (some ⟨rb,7,none⟩),.pointer (some ⟨rb,11,none⟩)] w fun _ w'=>∃O' lv pos bad e,IK (fun k=>k=j\/k=ji) O w O' w'/\JG B O' w'/\JX O' w' j rb {s with pos:=pos,bad:=bad,e:=e,kp:=lv,k:=true}/\Gm m w' O' ji lv bad e (cK r0):=by
 have a0:¬(fun q:Nat=>q=j\/q=ji) 0:=fun e=>by rcases e with e|e;exact hj e.symm;exact a8 e.symm
 have h1:r0.length<=m:=by have:=hr.length_le;simp at this;omega
 have q0:=h.q11;rw[g1]at q0;refine I0 Kj K9 rfl rfl ?_;refine zg ?_;refine zvG (RV.ld q0 rfl) ?_;refine zFG rfl rfl ?_;refine aj (j:=11) h rfl (Jp _) rfl rfl rfl rfl ?_;have g4:JX O (w.setCell ⟨rb,11,none⟩ (.bool true)) j rb {s with k:=true}:=Kv h 11 _;have f6:IK (fun k=>k=j) O w O (w.setCell ⟨rb,11,none⟩ (.bool true)):=I9 (fun e=>hj e.symm) h.tag rfl;have g7:=hR.upd f6;generalize w.setCell ⟨rb,11,none⟩ (.bool true)=w1 at *;obtain⟨M,d1⟩:∃M,M=eZ (r0.length+1) [] r0:=⟨_,rfl⟩
 refine zg ?_;refine zlp (fun y:Nat×List Int×List UInt8×(Nat->Nat)×World×I1=>[(0,nP rb),(1,.pointer (some ⟨rb,7,none⟩))]) (fun y=>y.2.2.2.2.1) (fun y=>JX y.2.2.2.1 y.2.2.2.2.1 j rb {s with pos:=(m:Int)-(y.2.2.1.length:Int),kp:=y.2.2.2.2.2,k:=true}/\Kl encI 3 1 y.2.2.2.1 y.2.2.2.2.1 ji y.2.2.2.2.2 y.2.1/\y.2.2.1 <:+ s.l.take m/\eZ y.1 y.2.1 y.2.2.1=M/\y.2.2.1.length<y.1/\y.2.1.length+y.2.2.1.length<=r0.length/\IK (fun k=>k=j\/k=ji) O w y.2.2.2.1 y.2.2.2.2.1/\JG B y.2.2.2.1 y.2.2.2.2.1) (fun y=>y.1) (r0.length+1,[],r0,O,w1,qV) (⟨by dsimp only;rw[<-hp,<-g2];exact g4,Jt _ _ _ _ _ _,hr,d1.symm,K4 _,by simp,f6.mono (fun _ h=>.inl h) a0,g7⟩) ?_
 rintro⟨n,d5,r,O1,w2,lv⟩ ⟨f4,b1,b2,a4,hn,g5,f5,f7⟩;dsimp only at f4 b1 b2 a4 hn g5 f5 f7 ⊢;obtain⟨n,rfl⟩:∃q,n=q+1:=⟨n-1,by omega⟩
 have g':=da r;unfold eZ at a4;refine zg ?_;refine zc JV (dG O1 w2 j rb ({s with pos:=(m:Int)-((r).length:Int),kp:=lv,k:=true}:LS) m r hj hm hl d6 b2 rfl f4) ?_;rintro v w3 ⟨rfl,b6,e6⟩;have a3:=b1.upd e6 a8 (fun e=>a9 e.symm);have f3:=f7.upd e6;have b9:=f5.trans (e6.mono (fun _ h=>.inl h) a0);refine zg ?_
 by_cases h0:(ar r).length=0
 ·rw[if_pos h0]at a4;refine aT rfl ((decide_eq_false zo)) ?_;have f9:=b6.q7;have d7:=a3.sl;refine zg ?_;refine zv (RV.ld f9 rfl) ?_;refine zvG (JD (by first|exact d7) I5 rfl) ?_
  rcases d5 with _|⟨a,d5⟩
  ·have hM:cK r0=.bad 0 4:=by unfold cK;rw[<-d1,<-a4];rfl
   rw[hM];refine aS rfl rfl ?_;have d':=b6.q2;dsimp only at d';rw[d6]at d';have hb3d:=b6.drew;have hrow3d:=a3.drew;have hR3d:=f3.drew;have hUt3d:=b9.drew;refine J2 8 rfl rfl zk zk ?_;refine zg ?_;refine zw (RV.ld d' rfl) ?_;refine Jj ?_;refine zc IY (bx O1 w3.drew j rb ({s with pos:=(m:Int)-((ar r).length:Int),kp:=lv,k:=true}:LS) (m:Int) 4 hj he hb3d) ?_;rintro u w7 ⟨b',c5⟩;have a2:=hrow3d.upd c5 a8 (fun e=>a9 e.symm);have e9:=hR3d.upd c5;have e3:=hUt3d.trans (c5.mono (fun _ h=>.inl h) a0);have d9:=KB b';refine zg ?_;refine zv (RV.ld d9 rfl) ?_;refine zc Kb (jz e9 a2 a8 zo) ?_;rintro u w8 ⟨a6,a',e8⟩;have b5:=I6 b' a' hj a9;have d8:=b5.q7;refine zg ?_;refine zv (RV.ld d8 rfl) ?_;refine zc Ka (eE e8 a6 a8 (by rw[dM];omega)) ?_;rintro u w9 ⟨a1,c',e7⟩;have b4:=b5.upd c' hj a9;have a7:=a1.one;refine zg ?_;refine aj (j:=7) b4 rfl (Jq _) a7 rfl rfl rfl ?_;have b7:=b4.set 7 u;have a5:IK (fun k=>k=j) O1 w9 O1 (w9.setCell ⟨rb,7,none⟩ u):=I9 (fun e=>hj e.symm) b4.tag rfl;have e1:=((e3.trans (a'.mono (fun _ h=>.inr h) a0)).trans (c'.mono (fun _ h=>.inr h) a0)).trans (a5.mono (fun _ h=>.inl h) a0);refine zg ?_;exact aD rfl ⟨O1,u,_,(m:Int),4,e1,e7.upd a5,b7,⟨rfl,by decide,by simp⟩⟩
  have hM:cK r0=.ok (JP (gj (a::d5))):=by unfold cK;rw[<-d1,<-a4];rfl
  rw[hM];refine aT rfl ((beq_eq_false_iff_ne.2 (by simp;omega))) ?_;have d9:=KB b6;refine zg ?_;refine zv (RV.ld d9 rfl) ?_;refine zc Kb (jz f3 a3 a8 zo) ?_;rintro u w8 ⟨a6,a',e8⟩;have b5:=I6 b6 a' hj a9;have d8:=b5.q7;refine zg ?_;refine zv (RV.ld d8 rfl) ?_;refine zc Ka (eE e8 a6 a8 (by rw[dM];omega)) ?_;rintro u w9 ⟨a1,c',e7⟩;have b4:=b5.upd c' hj a9;have a7:=a1.one;refine zg ?_;refine aj (j:=7) b4 rfl (Jq _) a7 rfl rfl rfl ?_;have b7:=b4.set 7 u;have a5:IK (fun k=>k=j) O1 w9 O1 (w9.setCell ⟨rb,7,none⟩ u):=I9 (fun e=>hj e.symm) b4.tag rfl;have e1:=((b9.trans (a'.mono (fun _ h=>.inr h) a0)).trans (c'.mono (fun _ h=>.inr h) a0)).trans (a5.mono (fun _ h=>.inl h) a0);refine zg ?_;exact aD rfl ⟨O1,u,_,_,_,e1,e7.upd a5,b7,⟨he,a1.upd a5 a8 (fun e=>a9 e.symm)⟩⟩
 rw[if_neg h0]at a4;refine aS rfl ((decide_eq_true zo)) ?_;have f':=b6.q1;have b0:=(aY r).trans b2;refine zg ?_;refine zvG (RV.ld f' rfl) ?_;refine zc K8 (gm O1 w3 j rb ({s with pos:=(m:Int)-((ar r).length:Int),kp:=lv,k:=true}:LS) m (ar r) hj hm hl d6 b0 rfl b6) ?_;rintro v w4 ⟨rfl,g3,e5⟩;have c7:=a3.upd e5 a8 (fun e=>a9 e.symm);have g6:=f3.upd e5;have e4:=b9.trans (e5.mono (fun _ h=>.inl h) a0);refine zg ?_;refine zc call112 (ie ((ar r).takeWhile ai) w4) ?_;rintro v w5 ⟨rfl,g8⟩;have d4:IK (fun _=>False) O1 w4 O1 w5:=aa (fun h=>h) O1 g8;have d3:=g3.upd d4 hj (fun h=>h);have c6:=c7.upd d4 a8 (fun h=>h);have e':=g6.upd d4;have b8:=e4.trans (d4.mono (fun _ h=>h.elim) a0);refine zg ?_;refine zvG (cI rfl rfl) ?_
 by_cases c9:(ar r).takeWhile ai=[]
 ·rw[if_pos c9]at a4;have hM:cK r0=.bad (ar r).length 4:=by unfold cK;rw[<-d1,<-a4];rfl
  rw[hM];refine zTG rfl ((by simpa using c9)) ?_;refine zc IY (bx O1 w5 j rb ({s with pos:=(m:Int)-(((ar r).dropWhile ai).length:Int),kp:=lv,k:=true}:LS) ((m:Int)-((ar r).length:Int)) 4 hj he d3) ?_;rintro u w6 ⟨e0,d0⟩;refine zg ?_;exact bR rfl ⟨O1,lv,_,_,_,b8.trans (d0.mono (fun _ h=>.inl h) a0),e'.upd d0,e0,rfl,by decide,rfl⟩
 rw[if_neg c9]at a4;have g9:=ri c9;refine zFG rfl ((by simpa using c9)) ?_
 cases b3:Af ((ar r).takeWhile ai)with
 |none=>
  rw[b3]at a4;have hM:cK r0=.bad (ar r).length 5:=by unfold cK;rw[<-d1,<-a4];rfl
  rw[hM];refine zTG rfl rfl ?_;refine zc IY (bx O1 w5 j rb ({s with pos:=(m:Int)-(((ar r).dropWhile ai).length:Int),kp:=lv,k:=true}:LS) ((m:Int)-((ar r).length:Int)) 5 hj he d3) ?_;rintro u w6 ⟨e0,d0⟩;refine zg ?_;exact bR rfl ⟨O1,lv,_,_,_,b8.trans (d0.mono (fun _ h=>.inl h) a0),e'.upd d0,e0,rfl,by decide,rfl⟩
 |some c=>
  rw[b3]at a4;dsimp only at a4;have g0:C8 ((ar r).takeWhile ai)=(c:Int):=by unfold C8;rw[b3]
  rw[g0];refine aT rfl rfl ?_;have f8:=d3.q7;refine zg ?_;refine zvG (RV.ld f8 rfl) ?_;refine KJ Ik c6 e' ((c:Int)) (fun _=>rfl) rfl rfl rfl (by simp[IG,encI]) zo zo zo zd rfl rfl ?_;intro d2 w7 O7 a2 c5 e9;have c8:=a2.one;have b':=d3.upd c5 hj a9;refine zg ?_;refine aj (j:=7) b' rfl (Jq _) c8 rfl rfl rfl ?_;have b5:=b'.set 7 d2;have a':IK (fun k=>k=j) O7 w7 O7 (w7.setCell ⟨rb,7,none⟩ d2):=I9 (fun e=>hj e.symm) b'.tag rfl;have e2:=(b8.trans (c5.mono (fun _ h=>.inr h) a0)).trans (a'.mono (fun _ h=>.inl h) a0);refine zg ?_;refine zxd (n,d5++[(c:Int)],(ar r).dropWhile ai,O7,(w7.setCell ⟨rb,7,none⟩ d2),d2) (⟨b5,a2.upd a' a8 (fun e=>a9 e.symm),(ix _).trans b0,a4,by dsimp only;omega,by simp;omega,e2,e9.upd a'⟩)
structure St where
 ts:List R3
 li:List Int
 lk:List Int
 hi:Bool
 hk:Bool
inductive RS where
 |go (s:St)
 |bad (p:Nat) (e:Int)
 |other
def Gw(st:St)(d:Nat):LM->RS
 |.ok l=>.go {st with li:=l,hi:=true}
 |.bad p e=>.bad (d-p) e
def Gv(st:St)(d:Nat):LM->RS
 |.ok l=>.go {st with lk:=l,hk:=true}
 |.bad p e=>.bad (d-p) e
def Gu(st:St)(d:Nat):LR->RS
 |.ok t=>.go {st with ts:=st.ts++[t]}
 |.bad p e=>.bad (d+p) e
structure Mem(O:Nat->Nat)(w:ln)(jr ji jk:Nat)(s:LS)(st:St):Prop where
 ru:∃xs,Kl cO 122 7 O w jr s.ru xs/\st.ts.length=xs.length/\xs.length<=40/\∀i,i<xs.length->Rt O w (nth st.ts i) (nth xs i)
 ig:Kl encI 3 1 O w ji s.ig st.li
 kp:Kl encI 3 1 O w jk s.kp st.lk
 fi:s.i=st.hi
 fk:s.k=st.hk
 ni:st.hi=false->s.ig=qV
 nk:st.hk=false->s.kp=qV
theorem Mem.upd{S:Nat->Prop}{O O':Nat->Nat}{w w':ln}{jr ji jk:Nat}{s:LS}{st:St}(h:Mem O w jr ji jk s st)(u:IK S O w O' w')(h1:jr≠0)(h2:ji≠0)(h3:jk≠0)(g1:¬S jr)(g2:¬S ji)(g3:¬S jk):Mem O' w' jr ji jk s st:=by
 obtain⟨⟨xs,a1,a2,a3,a4⟩,b,c,d,e,f,g⟩:=h;exact⟨⟨xs,a1.upd u h1 g1,a2,a3,fun i hi=>(a4 i hi).upd u⟩,b.upd u h2 g2,c.upd u h3 g3,d,e,f,g⟩
theorem Mem.with{O:Nat->Nat}{w:ln}{jr ji jk:Nat}{s s':LS}{st:St}(h:Mem O w jr ji jk s st)(e1:s'.ru=s.ru)(e2:s'.ig=s.ig)(e3:s'.kp=s.kp)(e4:s'.i=s.i)(e5:s'.k=s.k):Mem O w jr ji jk s' st:=by
 obtain⟨a,b,c,d,e,f,g⟩:=h;exact⟨by rw[e1];exact a,by rw[e2];exact b,by rw[e3];exact c,by rw[e4];exact d,by rw[e5];exact e,by rw[e2];exact f,by rw[e3];exact g⟩
section
variable{kn:Kn}
inductive RK where
 |go (kn:Kn) (st:St)
 |bad (p:Nat) (e:Int)
def kT(kn:Kn):RS->RK
 |.go st=>.go kn st
 |.bad p e=>.bad p e
 |.other=>.bad 0 0
def Ge(kn:Kn)(st:St)(d:Nat):ML->RK
 |.ok x=>.go (kn++[x]) st
 |.bad p e=>.bad (d-p) e
def cy(kn:Kn)(st:St)(seg:List UInt8):RK:=
 if(aQ seg).length=0 then .go kn st
 else if((aQ seg).takeWhile ai==[108,101,116])=true then Ge kn st (bh seg).length (qW kn ((aQ seg).dropWhile ai))
 else if((aQ seg).takeWhile ai==[105,103,110,111,114,101])=true then
  (if st.hi=true then .bad ((bh seg).length-(aQ seg).length) 11 else kT kn (Gw st (bh seg).length (cK ((aQ seg).dropWhile ai))))
 else if((aQ seg).takeWhile ai==[107,101,101,112])=true then
  (if st.hk=true then .bad ((bh seg).length-(aQ seg).length) 11 else kT kn (Gv st (bh seg).length (cK ((aQ seg).dropWhile ai))))
 else kT kn (Gu st ((bh seg).length-(aQ seg).length) (if st.ts.length=40 then JM 0 3 else gk kn (aQ seg)))
def Gl(B:Nat)(O:Nat->Nat)(w w':ln)(j jr ji jk jm rb:Nat)(s:LS)(fr:Nat)(M:RK):Prop:=
 ∃O' s',IK (fun k=>k=j\/k=jr\/k=ji\/k=jk\/k=jm) O w O' w'/\JG B O' w'/\JX O' w' j rb s'/\s'.l=s.l/\
  match M with
  |.go kn' st'=>s'.e=0/\Mem O' w' jr ji jk s' st'/\Mac O' w' jm s'.mc kn'
  |.bad p e=>e≠0/\s'.e=e/\s'.bad=(fr:Int)+(p:Int)
theorem Ax{r:List UInt8}{p:Nat}{e:Int}(h:qW kn r=.bad p e):p<=r.length:=by
 have h1:=da r;have h2:=(ix (l:=ar r) ai).length_le;have h3:=da ((ar r).dropWhile ai);unfold qW at h
 split at h
 ·cases h;omega
 split at h
 ·cases h;omega
 split at h
 ·cases hx:eV kn (ar ((ar r).dropWhile ai)).tail with
  |ok t=>rw[hx]at h;cases h
  |bad q f=>rw[hx]at h;cases h;omega
 cases h;omega
theorem rT(B:Nat)(O:Nat->Nat)(w:ln)(j jr ji jk jm rb:Nat)(s:LS)(fr to:Nat)(seg:List UInt8)(st:St)(hR:JG B O w)(hj:j≠0)(b7:jr≠0)(b9:ji≠0)(b8:jk≠0)(d0:j≠jr)(c':j≠ji)(c9:j≠jk)(h5:jr≠ji)(h4:jr≠jk)(h3:ji≠jk)(b3:jm≠0)(c6:j≠jm)(g3:jr≠jm)(g':ji≠jm)(e7:jk≠jm)(g5:kn.length<=100000)(j0:fr<=to)(i9:to<=s.l.length)(d4:s.l.length<=100000)(he:s.e=0) 
  (f9:(s.l.take to).drop fr=seg) (h':Mem O w jr ji jk s st) (i1:Mac O w jm s.mc kn) (h:JX O w j rb s) :
  Jm IP 45 [nP rb,nI fr,nI to] w fun _ w'=>Gl B O w w' j jr ji jk jm rb s fr (cy kn st seg):=by
 have b':¬(fun q:Nat=>q=j\/q=jr\/q=ji\/q=jk\/q=jm) 0:=fun e=>by rcases e with e|e|e|e|e;exact hj e.symm;exact b7 e.symm;exact b9 e.symm;exact b8 e.symm;exact b3 e.symm
 have h7:¬(fun q:Nat=>q=j) 0:=fun e=>hj e.symm
 have i':seg.length=to-fr:=by rw[<-f9];simp;omega
 have j8:(aQ seg).length<=(bh seg).length:=da _;have j9:(bh seg).length<=seg.length:=(IX (l:=seg) _).length_le;obtain⟨m,i0⟩:∃m,m=fr+(bh seg).length:=⟨_,rfl⟩
 have d3:m<=s.l.length:=zo;have g7:(s.l.take m).drop fr=bh seg:=by
  have h1:bh seg=seg.take (bh seg).length:=List.prefix_iff_eq_take.1 (IX _);have h2:(seg.take (bh seg).length)=(s.l.take m).drop fr:=by
   conv=>lhs;arg 2;rw[<-f9]
   rw[List.take_drop,List.take_take,Nat.min_eq_left zo,i0]
  rw[<-h2,<-h1]
 have d5:bh seg <:+ s.l.take m:=by rw[<-g7];exact List.drop_suffix _ _
 have b1:aQ seg <:+ s.l.take m:=(aY _).trans d5;have f6:(fr:Int)=(m:Int)-((bh seg).length:Int):=zo;have g6:(m:Int)-((ar (bh seg)).length:Int)=((m-(aQ seg).length:Nat):Int):=by
  have:(ar (bh seg)).length=(aQ seg).length:=rfl;omega
 refine I0 func45 ntmps45 rfl rfl ?_;refine zh ?_
 refine aj (j:=1) h rfl (J4 _) rfl rfl rfl rfl ?_;have i4:=h.s_pos (fr:Int);have j4:IK (fun k=>k=j) O w O (w.setCell ⟨rb,1,none⟩ (nI (fr:Int))):=I9 h7 h.tag rfl;refine zh ?_
 refine aj (j:=2) i4 rfl (J4 _) rfl rfl rfl rfl ?_;have g8:=i4.s_to (to:Int);have j3:IK (fun k=>k=j) O (w.setCell ⟨rb,1,none⟩ (nI (fr:Int))) O ((w.setCell ⟨rb,1,none⟩ (nI (fr:Int))).setCell ⟨rb,2,none⟩ (nI (to:Int))):=I9 h7 i4.tag rfl;have e6:=j4.trans j3;have f7:=h'.upd e6 b7 b9 b8 (fun e=>d0 e.symm) (fun e=>c' e.symm) (fun e=>c9 e.symm);have f8:=i1.upd e6 b3 (fun e=>c6 e.symm);have i8:=hR.upd e6;generalize (w.setCell ⟨rb,1,none⟩ (nI (fr:Int))).setCell ⟨rb,2,none⟩ (nI (to:Int))=w2 at *;refine zh ?_
 refine zvH (RV.ld g8.q0 rfl) ?_;refine zv (cM IN rfl rfl rfl fr to rfl rfl j0 i9) ?_
 rw[show({s with pos:=(fr:Int),to:=(to:Int)}:LS).l=s.l from rfl,f9];refine zc call44 (dp seg 35 w2) ?_;rintro v w9 ⟨rfl,i7⟩;rw[i7];clear i7 w9
 cases hf:seg.findIdx? (· == 35)with
 |none=>
  have hi:qX seg 35 = -1:=by unfold qX;rw[hf]
  have i2:=yF hf;rw[hi];obtain rfl:m=to:=by rw[i0,i2,i'];omega
  refine zh ?_;refine aT rfl rfl ?_
  have d':=f7;have e2:=f8;have i6:=i8;have g1:=e6.mono (S':=fun k=>k=j\/k=jr\/k=ji\/k=jk\/k=jm) (fun _ h=>.inl h) b';refine zh ?_;refine zc JV (dG O w2 j rb ({s with pos:=(fr:Int),to:=(m:Int)}:LS) m (bh seg) hj d3 d4 rfl d5 f6 g8) ?_;rintro v w4 ⟨rfl,e4,f4⟩;have c7:=d'.upd f4 b7 b9 b8 (fun e=>d0 e.symm) (fun e=>c' e.symm) (fun e=>c9 e.symm);have c8:=e2.upd f4 b3 (fun e=>c6 e.symm);have g9:=i6.upd f4;have e5:=g1.trans (f4.mono (fun _ h=>.inl h) b');refine zh ?_
  by_cases h0:(aQ seg).length=0
  ·have hM:cy kn st seg=.go kn st:=by unfold cy;rw[if_pos h0]
   rw[hM];refine zTH rfl ((by have d2:(ar (bh seg)).length=0:=h0;simp[d2])) ?_;exact bR rfl ⟨O,_,e5,g9,e4,rfl,he,c7.with rfl rfl rfl rfl rfl,c8⟩
  have d2:(ar (bh seg)).length=(aQ seg).length:=rfl;refine zFH rfl ((by rw[d2,decide_eq_true zo];rfl)) ?_;refine zvH (RV.ld e4.q1 rfl) ?_;refine aj (j:=3) e4 rfl (J4 _) rfl rfl rfl rfl ?_;have i3:=e4.s_bg ((m:Int)-((ar (bh seg)).length:Int));have f3:IK (fun k=>k=j) O w4 O (w4.setCell ⟨rb,3,none⟩ (nI ((m:Int)-((ar (bh seg)).length:Int)))):=I9 (fun e=>hj e.symm) e4.tag rfl;have d9:=c7.upd f3 b7 b9 b8 (fun e=>d0 e.symm) (fun e=>c' e.symm) (fun e=>c9 e.symm);have e1:=c8.upd f3 b3 (fun e=>c6 e.symm);have i5:=g9.upd f3;have g0:=e5.trans (f3.mono (fun _ h=>.inl h) b');generalize w4.setCell ⟨rb,3,none⟩ (nI ((m:Int)-((ar (bh seg)).length:Int)))=w5 at *;refine zh ?_;refine zc K8 (gm O w5 j rb ({s with pos:=((m:Int)-((ar (bh seg)).length:Int)),to:=(m:Int),bg:=((m:Int)-((ar (bh seg)).length:Int))}:LS) m (aQ seg) hj d3 d4 rfl b1 rfl i3) ?_;rintro v w6 ⟨rfl,e8,e9⟩;have a8:=d9.upd e9 b7 b9 b8 (fun e=>d0 e.symm) (fun e=>c' e.symm) (fun e=>c9 e.symm);have a9:=e1.upd e9 b3 (fun e=>c6 e.symm);have f5:=i5.upd e9;have c5:=g0.trans (e9.mono (fun _ h=>.inl h) b');have j1:=(ix (l:=aQ seg) ai).length_le;refine zh ?_;refine zvH (cI rfl rfl) ?_
  cases d1:((aQ seg).takeWhile ai==[108,101,116])with
  |true=>
   have hM:cy kn st seg=Ge kn st (bh seg).length (qW kn ((aQ seg).dropWhile ai)):=by unfold cy;rw[if_neg h0,if_pos d1]
   rw[hM];refine zTH rfl rfl ?_;refine zc call78 (Aw B O w6 j jm rb ({s with pos:=(m:Int)-(((aQ seg).dropWhile ai).length:Int),to:=(m:Int),bg:=((m:Int)-((ar (bh seg)).length:Int))}:LS) m ((aQ seg).dropWhile ai) f5 hj b3 c6 d3 d4 rfl he ((ix _).trans b1) rfl g5 a9 e8) ?_;rintro u w7 ⟨O7,v7,pos,bad,e,a0,b6,b0,a6⟩;have a5:=c5.trans (a0.mono (S':=fun k=>k=j\/k=jr\/k=ji\/k=jk\/k=jm) (fun _ h=>by rcases h with h|h;exact .inl h;exact .inr (.inr (.inr (.inr h)))) b');have d8:=a8.upd a0 b7 b9 b8 (fun h=>by rcases h with h|h;exact d0 h.symm;exact g3 h) (fun h=>by rcases h with h|h;exact c' h.symm;exact g' h) (fun h=>by rcases h with h|h;exact c9 h.symm;exact e7 h);refine zh ?_
   cases hq:qW kn ((aQ seg).dropWhile ai)with
   |ok x=>
    rw[hq]at a6;obtain⟨b5,e0⟩:=a6;exact aD rfl ⟨O7,_,a5,b6,b0,rfl,b5,d8.with rfl rfl rfl rfl rfl,e0⟩
   |bad p e'=>
    rw[hq]at a6;obtain⟨b5,b2,a'⟩:=a6;have d7:=Ax hq;exact aD rfl ⟨O7,_,a5,b6,b0,rfl,b2,b5,by dsimp only;rw[a'];omega⟩
  |false=>
  refine zFH rfl rfl ?_;refine zvH (cI rfl rfl) ?_
  cases e3:((aQ seg).takeWhile ai==[105,103,110,111,114,101])with
  |true=>
   refine aS rfl rfl ?_;have hb6d:=e8.drew;have hmem6d:=a8.upd (aa (S:=fun _=>False) (fun h=>h) O (II w6).drew) b7 b9 b8 (fun h=>h) (fun h=>h) (fun h=>h);have hmac6d:=a9.upd (aa (S:=fun _=>False) (fun h=>h) O (II w6).drew) b3 (fun h=>h);have hR6d:=f5.drew;have hUt6d:=c5.drew;refine J2 8 rfl rfl zk zk ?_
   refine zh ?_;refine Jj ?_
   cases b4:st.hi with
   |true=>
    have hM:cy kn st seg=.bad ((bh seg).length-(aQ seg).length) 11:=by unfold cy;rw[if_neg h0,if_neg (by rw[d1];decide),if_pos e3,if_pos b4]
    rw[hM];refine zc Jv (oR O w6.drew j rb ({s with pos:=(m:Int)-(((aQ seg).dropWhile ai).length:Int),to:=(m:Int),bg:=((m:Int)-((ar (bh seg)).length:Int))}:LS) hj he (hmem6d.fi.trans b4) hb6d) ?_;rintro u w7 ⟨b0,a0⟩;refine zh ?_;exact aD rfl ⟨O,_,hUt6d.trans (a0.mono (fun _ h=>.inl h) b'),hR6d.upd a0,b0,rfl,zd,rfl,by dsimp only;rw[d2];omega⟩
   |false=>
    have hM:cy kn st seg=kT kn (Gw st (bh seg).length (cK ((aQ seg).dropWhile ai))):=by unfold cy;rw[if_neg h0,if_neg (by rw[d1];decide),if_pos e3,if_neg (by rw[b4];decide)]
    rw[hM];refine zc Jv (sn B O w6.drew j ji rb ({s with pos:=(m:Int)-(((aQ seg).dropWhile ai).length:Int),to:=(m:Int),bg:=((m:Int)-((ar (bh seg)).length:Int))}:LS) m ((aQ seg).dropWhile ai) hR6d hj b9 c' d3 d4 rfl he (hmem6d.fi.trans b4) (hmem6d.ni b4) ((ix _).trans b1) rfl hb6d) ?_;rintro u w7 ⟨O7,lv,pos,bad,e,a0,b6,b0,a6⟩;have a5:=hUt6d.trans (a0.mono (S':=fun k=>k=j\/k=jr\/k=ji\/k=jk\/k=jm) (fun _ h=>by rcases h with h|h;exact .inl h;exact .inr (.inr (.inl h))) b');refine zh ?_
    cases hq:cK ((aQ seg).dropWhile ai)with
    |ok l=>
     rw[hq]at a6;obtain⟨b5,a7⟩:=a6;obtain⟨⟨xs,a1,a2,a3,a4⟩,mb,mc,md,me,mf,mg⟩:=hmem6d;exact aD rfl ⟨O7,_,a5,b6,b0,rfl,b5,⟨⟨xs,a1.upd a0 b7 (fun h=>by rcases h with h|h;exact d0 h.symm;exact h5 h),a2,a3,fun i hi=>(a4 i hi).upd a0⟩,a7,mc.upd a0 b8 (fun h=>by rcases h with h|h;exact c9 h.symm;exact h3 h.symm),rfl,me,(fun h=>by cases h),mg⟩,hmac6d.upd a0 b3 (fun h=>by rcases h with h|h;exact c6 h.symm;exact g' h.symm)⟩
    |bad p e'=>
     rw[hq]at a6;obtain⟨b5,b2,a'⟩:=a6;have d7:=mu hq;exact aD rfl ⟨O7,_,a5,b6,b0,rfl,b2,b5,by dsimp only;rw[a'];omega⟩
  |false=>
   refine zFH rfl rfl ?_;refine zvH (cI rfl rfl) ?_
   cases f':((aQ seg).takeWhile ai==[107,101,101,112])with
   |true=>
    refine aS rfl rfl ?_;have hb6d:=e8.drew;have hmem6d:=a8.upd (aa (S:=fun _=>False) (fun h=>h) O (II w6).drew) b7 b9 b8 (fun h=>h) (fun h=>h) (fun h=>h);have hmac6d:=a9.upd (aa (S:=fun _=>False) (fun h=>h) O (II w6).drew) b3 (fun h=>h);have hR6d:=f5.drew;have hUt6d:=c5.drew;refine J2 8 rfl rfl zk zk ?_
    refine zh ?_;refine Jj ?_
    cases b4:st.hk with
    |true=>
     have hM:cy kn st seg=.bad ((bh seg).length-(aQ seg).length) 11:=by unfold cy;rw[if_neg h0,if_neg (by rw[d1];decide),if_neg (by rw[e3];decide),if_pos f',if_pos b4]
     rw[hM];refine zc Jv (oQ O w6.drew j rb ({s with pos:=(m:Int)-(((aQ seg).dropWhile ai).length:Int),to:=(m:Int),bg:=((m:Int)-((ar (bh seg)).length:Int))}:LS) hj he (hmem6d.fk.trans b4) hb6d) ?_;rintro u w7 ⟨b0,a0⟩;refine zh ?_;exact aD rfl ⟨O,_,hUt6d.trans (a0.mono (fun _ h=>.inl h) b'),hR6d.upd a0,b0,rfl,zd,rfl,by dsimp only;rw[d2];omega⟩
    |false=>
     have hM:cy kn st seg=kT kn (Gv st (bh seg).length (cK ((aQ seg).dropWhile ai))):=by unfold cy;rw[if_neg h0,if_neg (by rw[d1];decide),if_neg (by rw[e3];decide),if_pos f',if_neg (by rw[b4];decide)]
     rw[hM];refine zc Jv (sm B O w6.drew j jk rb ({s with pos:=(m:Int)-(((aQ seg).dropWhile ai).length:Int),to:=(m:Int),bg:=((m:Int)-((ar (bh seg)).length:Int))}:LS) m ((aQ seg).dropWhile ai) hR6d hj b8 c9 d3 d4 rfl he (hmem6d.fk.trans b4) (hmem6d.nk b4) ((ix _).trans b1) rfl hb6d) ?_;rintro u w7 ⟨O7,lv,pos,bad,e,a0,b6,b0,a6⟩;have a5:=hUt6d.trans (a0.mono (S':=fun k=>k=j\/k=jr\/k=ji\/k=jk\/k=jm) (fun _ h=>by rcases h with h|h;exact .inl h;exact .inr (.inr (.inr (.inl h)))) b');refine zh ?_
     cases hq:cK ((aQ seg).dropWhile ai)with
     |ok l=>
      rw[hq]at a6;obtain⟨b5,a7⟩:=a6;obtain⟨⟨xs,a1,a2,a3,a4⟩,mb,mc,md,me,mf,mg⟩:=hmem6d;exact aD rfl ⟨O7,_,a5,b6,b0,rfl,b5,⟨⟨xs,a1.upd a0 b7 (fun h=>by rcases h with h|h;exact d0 h.symm;exact h4 h),a2,a3,fun i hi=>(a4 i hi).upd a0⟩,mb.upd a0 b9 (fun h=>by rcases h with h|h;exact c' h.symm;exact h3 h),a7,md,rfl,mf,(fun h=>by cases h)⟩,hmac6d.upd a0 b3 (fun h=>by rcases h with h|h;exact c6 h.symm;exact e7 h.symm)⟩
     |bad p e'=>
      rw[hq]at a6;obtain⟨b5,b2,a'⟩:=a6;have d7:=mu hq;exact aD rfl ⟨O7,_,a5,b6,b0,rfl,b2,b5,by dsimp only;rw[a'];omega⟩
   |false=>
    have hM:cy kn st seg=kT kn (Gu st ((bh seg).length-(aQ seg).length) (if st.ts.length=40 then JM 0 3 else gk kn (aQ seg))):=by unfold cy;rw[if_neg h0,if_neg (by rw[d1];decide),if_neg (by rw[e3];decide),if_neg (by rw[f'];decide)]
    refine aT rfl rfl ?_;obtain⟨xs,d6,g4,h9,h8⟩:=a8.ru;refine zh ?_
    refine zc call80 (rQ B O w6 j jr rb ({s with pos:=(m:Int)-(((aQ seg).dropWhile ai).length:Int),to:=(m:Int),bg:=((m:Int)-((ar (bh seg)).length:Int))}:LS) m (aQ seg) xs f5 hj b7 d0 d3 d4 rfl g6 he b3 c6 g3 a9 b1 d6 h9 e8) ?_;rintro v w7 ⟨O7,rv,a0,b6,a6⟩;have a5:=c5.trans (a0.mono (S':=fun k=>k=j\/k=jr\/k=ji\/k=jk\/k=jm) (fun _ h=>by rcases h with h|h;exact .inl h;exact .inr (.inl h)) b');refine zh ?_
    rw[hM,g4]
    cases hq:(if xs.length=40 then JM 0 3 else gk kn (aQ seg))with
    |ok t=>
     rw[hq]at a6;obtain⟨x,a7,g2,b0⟩:=a6;have j5:xs.length≠40:=fun e=>by rw[if_pos e]at hq;cases hq
     obtain⟨_,mb,mc,md,me,mf,mg⟩:=a8;obtain⟨q1,q2,q3,q4⟩:=Kf (ts:=st.ts) a7 g4 zo (fun i hi=>(h8 i hi).upd a0) g2;exact aD rfl ⟨O7,_,a5,b6,b0,rfl,he,⟨⟨xs++[x],q1,q2,q3,q4⟩,mb.upd a0 b9 (fun h=>by rcases h with h|h;exact c' h.symm;exact h5 h.symm),mc.upd a0 b8 (fun h=>by rcases h with h|h;exact c9 h.symm;exact h4 h.symm),md,me,mf,mg⟩,a9.upd a0 b3 (fun h=>by rcases h with h|h;exact c6 h.symm;exact g3 h.symm)⟩
    |bad p e=>
     rw[hq]at a6;obtain⟨b2,b0⟩:=a6;exact aD rfl ⟨O7,_,a5,b6,b0,rfl,b2,rfl,by dsimp only;rw[d2];omega⟩
 |some k=>
  have hi:qX seg 35=(k:Nat):=by unfold qX;rw[hf]
  obtain⟨i2,j7⟩:=yE hf;rw[hi];have j6:m=fr+k:=by rw[i0,i2];simp;omega
  refine zh ?_;refine zTH rfl ((decide_eq_true zo)) ?_
  refine aj (j:=2) g8 rfl (J4 _) rfl rfl rfl rfl ?_;rw[show(fr:Int)+((k:Nat):Int)=(m:Int)from by omega];have j2:=g8.s_to (m:Int);have h6:IK (fun k=>k=j) O w2 O (w2.setCell ⟨rb,2,none⟩ (nI (m:Int))):=I9 h7 g8.tag rfl;have d':=f7.upd h6 b7 b9 b8 (fun e=>d0 e.symm) (fun e=>c' e.symm) (fun e=>c9 e.symm);have e2:=f8.upd h6 b3 (fun e=>c6 e.symm);have i6:=i8.upd h6;have g1:=(e6.trans h6).mono (S':=fun k=>k=j\/k=jr\/k=ji\/k=jk\/k=jm) (fun _ h=>.inl h) b';generalize w2.setCell ⟨rb,2,none⟩ (nI (m:Int))=w3 at *;refine zh ?_
  refine zc JV (dG O w3 j rb ({s with pos:=(fr:Int),to:=(m:Int)}:LS) m (bh seg) hj d3 d4 rfl d5 f6 j2) ?_;rintro v w4 ⟨rfl,e4,f4⟩;have c7:=d'.upd f4 b7 b9 b8 (fun e=>d0 e.symm) (fun e=>c' e.symm) (fun e=>c9 e.symm);have c8:=e2.upd f4 b3 (fun e=>c6 e.symm);have g9:=i6.upd f4;have e5:=g1.trans (f4.mono (fun _ h=>.inl h) b');refine zh ?_
  by_cases h0:(aQ seg).length=0
  ·have hM:cy kn st seg=.go kn st:=by unfold cy;rw[if_pos h0]
   rw[hM];refine zTH rfl ((by have d2:(ar (bh seg)).length=0:=h0;simp[d2])) ?_;exact bR rfl ⟨O,_,e5,g9,e4,rfl,he,c7.with rfl rfl rfl rfl rfl,c8⟩
  have d2:(ar (bh seg)).length=(aQ seg).length:=rfl;refine zFH rfl ((by rw[d2,decide_eq_true zo];rfl)) ?_;refine zvH (RV.ld e4.q1 rfl) ?_;refine aj (j:=3) e4 rfl (J4 _) rfl rfl rfl rfl ?_;have i3:=e4.s_bg ((m:Int)-((ar (bh seg)).length:Int));have f3:IK (fun k=>k=j) O w4 O (w4.setCell ⟨rb,3,none⟩ (nI ((m:Int)-((ar (bh seg)).length:Int)))):=I9 (fun e=>hj e.symm) e4.tag rfl;have d9:=c7.upd f3 b7 b9 b8 (fun e=>d0 e.symm) (fun e=>c' e.symm) (fun e=>c9 e.symm);have e1:=c8.upd f3 b3 (fun e=>c6 e.symm);have i5:=g9.upd f3;have g0:=e5.trans (f3.mono (fun _ h=>.inl h) b');generalize w4.setCell ⟨rb,3,none⟩ (nI ((m:Int)-((ar (bh seg)).length:Int)))=w5 at *;refine zh ?_;refine zc K8 (gm O w5 j rb ({s with pos:=((m:Int)-((ar (bh seg)).length:Int)),to:=(m:Int),bg:=((m:Int)-((ar (bh seg)).length:Int))}:LS) m (aQ seg) hj d3 d4 rfl b1 rfl i3) ?_;rintro v w6 ⟨rfl,e8,e9⟩;have a8:=d9.upd e9 b7 b9 b8 (fun e=>d0 e.symm) (fun e=>c' e.symm) (fun e=>c9 e.symm);have a9:=e1.upd e9 b3 (fun e=>c6 e.symm);have f5:=i5.upd e9;have c5:=g0.trans (e9.mono (fun _ h=>.inl h) b');have j1:=(ix (l:=aQ seg) ai).length_le;refine zh ?_;refine zvH (cI rfl rfl) ?_
  cases d1:((aQ seg).takeWhile ai==[108,101,116])with
  |true=>
   have hM:cy kn st seg=Ge kn st (bh seg).length (qW kn ((aQ seg).dropWhile ai)):=by unfold cy;rw[if_neg h0,if_pos d1]
   rw[hM];refine zTH rfl rfl ?_;refine zc call78 (Aw B O w6 j jm rb ({s with pos:=(m:Int)-(((aQ seg).dropWhile ai).length:Int),to:=(m:Int),bg:=((m:Int)-((ar (bh seg)).length:Int))}:LS) m ((aQ seg).dropWhile ai) f5 hj b3 c6 d3 d4 rfl he ((ix _).trans b1) rfl g5 a9 e8) ?_;rintro u w7 ⟨O7,v7,pos,bad,e,a0,b6,b0,a6⟩;have a5:=c5.trans (a0.mono (S':=fun k=>k=j\/k=jr\/k=ji\/k=jk\/k=jm) (fun _ h=>by rcases h with h|h;exact .inl h;exact .inr (.inr (.inr (.inr h)))) b');have d8:=a8.upd a0 b7 b9 b8 (fun h=>by rcases h with h|h;exact d0 h.symm;exact g3 h) (fun h=>by rcases h with h|h;exact c' h.symm;exact g' h) (fun h=>by rcases h with h|h;exact c9 h.symm;exact e7 h);refine zh ?_
   cases hq:qW kn ((aQ seg).dropWhile ai)with
   |ok x=>
    rw[hq]at a6;obtain⟨b5,e0⟩:=a6;exact aD rfl ⟨O7,_,a5,b6,b0,rfl,b5,d8.with rfl rfl rfl rfl rfl,e0⟩
   |bad p e'=>
    rw[hq]at a6;obtain⟨b5,b2,a'⟩:=a6;have d7:=Ax hq;exact aD rfl ⟨O7,_,a5,b6,b0,rfl,b2,b5,by dsimp only;rw[a'];omega⟩
  |false=>
  refine zFH rfl rfl ?_;refine zvH (cI rfl rfl) ?_
  cases e3:((aQ seg).takeWhile ai==[105,103,110,111,114,101])with
  |true=>
   refine aS rfl rfl ?_;have hb6d:=e8.drew;have hmem6d:=a8.upd (aa (S:=fun _=>False) (fun h=>h) O (II w6).drew) b7 b9 b8 (fun h=>h) (fun h=>h) (fun h=>h);have hmac6d:=a9.upd (aa (S:=fun _=>False) (fun h=>h) O (II w6).drew) b3 (fun h=>h);have hR6d:=f5.drew;have hUt6d:=c5.drew;refine J2 8 rfl rfl zk zk ?_
   refine zh ?_;refine Jj ?_
   cases b4:st.hi with
   |true=>
    have hM:cy kn st seg=.bad ((bh seg).length-(aQ seg).length) 11:=by unfold cy;rw[if_neg h0,if_neg (by rw[d1];decide),if_pos e3,if_pos b4]
    rw[hM];refine zc Jv (oR O w6.drew j rb ({s with pos:=(m:Int)-(((aQ seg).dropWhile ai).length:Int),to:=(m:Int),bg:=((m:Int)-((ar (bh seg)).length:Int))}:LS) hj he (hmem6d.fi.trans b4) hb6d) ?_;rintro u w7 ⟨b0,a0⟩;refine zh ?_;exact aD rfl ⟨O,_,hUt6d.trans (a0.mono (fun _ h=>.inl h) b'),hR6d.upd a0,b0,rfl,zd,rfl,by dsimp only;rw[d2];omega⟩
   |false=>
    have hM:cy kn st seg=kT kn (Gw st (bh seg).length (cK ((aQ seg).dropWhile ai))):=by unfold cy;rw[if_neg h0,if_neg (by rw[d1];decide),if_pos e3,if_neg (by rw[b4];decide)]
    rw[hM];refine zc Jv (sn B O w6.drew j ji rb ({s with pos:=(m:Int)-(((aQ seg).dropWhile ai).length:Int),to:=(m:Int),bg:=((m:Int)-((ar (bh seg)).length:Int))}:LS) m ((aQ seg).dropWhile ai) hR6d hj b9 c' d3 d4 rfl he (hmem6d.fi.trans b4) (hmem6d.ni b4) ((ix _).trans b1) rfl hb6d) ?_;rintro u w7 ⟨O7,lv,pos,bad,e,a0,b6,b0,a6⟩;have a5:=hUt6d.trans (a0.mono (S':=fun k=>k=j\/k=jr\/k=ji\/k=jk\/k=jm) (fun _ h=>by rcases h with h|h;exact .inl h;exact .inr (.inr (.inl h))) b');refine zh ?_
    cases hq:cK ((aQ seg).dropWhile ai)with
    |ok l=>
     rw[hq]at a6;obtain⟨b5,a7⟩:=a6;obtain⟨⟨xs,a1,a2,a3,a4⟩,mb,mc,md,me,mf,mg⟩:=hmem6d;exact aD rfl ⟨O7,_,a5,b6,b0,rfl,b5,⟨⟨xs,a1.upd a0 b7 (fun h=>by rcases h with h|h;exact d0 h.symm;exact h5 h),a2,a3,fun i hi=>(a4 i hi).upd a0⟩,a7,mc.upd a0 b8 (fun h=>by rcases h with h|h;exact c9 h.symm;exact h3 h.symm),rfl,me,(fun h=>by cases h),mg⟩,hmac6d.upd a0 b3 (fun h=>by rcases h with h|h;exact c6 h.symm;exact g' h.symm)⟩
    |bad p e'=>
     rw[hq]at a6;obtain⟨b5,b2,a'⟩:=a6;have d7:=mu hq;exact aD rfl ⟨O7,_,a5,b6,b0,rfl,b2,b5,by dsimp only;rw[a'];omega⟩
  |false=>
   refine zFH rfl rfl ?_;refine zvH (cI rfl rfl) ?_
   cases f':((aQ seg).takeWhile ai==[107,101,101,112])with
   |true=>
    refine aS rfl rfl ?_;have hb6d:=e8.drew;have hmem6d:=a8.upd (aa (S:=fun _=>False) (fun h=>h) O (II w6).drew) b7 b9 b8 (fun h=>h) (fun h=>h) (fun h=>h);have hmac6d:=a9.upd (aa (S:=fun _=>False) (fun h=>h) O (II w6).drew) b3 (fun h=>h);have hR6d:=f5.drew;have hUt6d:=c5.drew;refine J2 8 rfl rfl zk zk ?_
    refine zh ?_;refine Jj ?_
    cases b4:st.hk with
    |true=>
     have hM:cy kn st seg=.bad ((bh seg).length-(aQ seg).length) 11:=by unfold cy;rw[if_neg h0,if_neg (by rw[d1];decide),if_neg (by rw[e3];decide),if_pos f',if_pos b4]
     rw[hM];refine zc Jv (oQ O w6.drew j rb ({s with pos:=(m:Int)-(((aQ seg).dropWhile ai).length:Int),to:=(m:Int),bg:=((m:Int)-((ar (bh seg)).length:Int))}:LS) hj he (hmem6d.fk.trans b4) hb6d) ?_;rintro u w7 ⟨b0,a0⟩;refine zh ?_;exact aD rfl ⟨O,_,hUt6d.trans (a0.mono (fun _ h=>.inl h) b'),hR6d.upd a0,b0,rfl,zd,rfl,by dsimp only;rw[d2];omega⟩
    |false=>
     have hM:cy kn st seg=kT kn (Gv st (bh seg).length (cK ((aQ seg).dropWhile ai))):=by unfold cy;rw[if_neg h0,if_neg (by rw[d1];decide),if_neg (by rw[e3];decide),if_pos f',if_neg (by rw[b4];decide)]
     rw[hM];refine zc Jv (sm B O w6.drew j jk rb ({s with pos:=(m:Int)-(((aQ seg).dropWhile ai).length:Int),to:=(m:Int),bg:=((m:Int)-((ar (bh seg)).length:Int))}:LS) m ((aQ seg).dropWhile ai) hR6d hj b8 c9 d3 d4 rfl he (hmem6d.fk.trans b4) (hmem6d.nk b4) ((ix _).trans b1) rfl hb6d) ?_;rintro u w7 ⟨O7,lv,pos,bad,e,a0,b6,b0,a6⟩;have a5:=hUt6d.trans (a0.mono (S':=fun k=>k=j\/k=jr\/k=ji\/k=jk\/k=jm) (fun _ h=>by rcases h with h|h;exact .inl h;exact .inr (.inr (.inr (.inl h)))) b');refine zh ?_
     cases hq:cK ((aQ seg).dropWhile ai)with
     |ok l=>
      rw[hq]at a6;obtain⟨b5,a7⟩:=a6;obtain⟨⟨xs,a1,a2,a3,a4⟩,mb,mc,md,me,mf,mg⟩:=hmem6d;exact aD rfl ⟨O7,_,a5,b6,b0,rfl,b5,⟨⟨xs,a1.upd a0 b7 (fun h=>by rcases h with h|h;exact d0 h.symm;exact h4 h),a2,a3,fun i hi=>(a4 i hi).upd a0⟩,mb.upd a0 b9 (fun h=>by rcases h with h|h;exact c' h.symm;exact h3 h),a7,md,rfl,mf,(fun h=>by cases h)⟩,hmac6d.upd a0 b3 (fun h=>by rcases h with h|h;exact c6 h.symm;exact e7 h.symm)⟩
     |bad p e'=>
      rw[hq]at a6;obtain⟨b5,b2,a'⟩:=a6;have d7:=mu hq;exact aD rfl ⟨O7,_,a5,b6,b0,rfl,b2,b5,by dsimp only;rw[a'];omega⟩
   |false=>
    have hM:cy kn st seg=kT kn (Gu st ((bh seg).length-(aQ seg).length) (if st.ts.length=40 then JM 0 3 else gk kn (aQ seg))):=by unfold cy;rw[if_neg h0,if_neg (by rw[d1];decide),if_neg (by rw[e3];decide),if_neg (by rw[f'];decide)]
    refine aT rfl rfl ?_;obtain⟨xs,d6,g4,h9,h8⟩:=a8.ru;refine zh ?_
    refine zc call80 (rQ B O w6 j jr rb ({s with pos:=(m:Int)-(((aQ seg).dropWhile ai).length:Int),to:=(m:Int),bg:=((m:Int)-((ar (bh seg)).length:Int))}:LS) m (aQ seg) xs f5 hj b7 d0 d3 d4 rfl g6 he b3 c6 g3 a9 b1 d6 h9 e8) ?_;rintro v w7 ⟨O7,rv,a0,b6,a6⟩;have a5:=c5.trans (a0.mono (S':=fun k=>k=j\/k=jr\/k=ji\/k=jk\/k=jm) (fun _ h=>by rcases h with h|h;exact .inl h;exact .inr (.inl h)) b');refine zh ?_
    rw[hM,g4]
    cases hq:(if xs.length=40 then JM 0 3 else gk kn (aQ seg))with
    |ok t=>
     rw[hq]at a6;obtain⟨x,a7,g2,b0⟩:=a6;have j5:xs.length≠40:=fun e=>by rw[if_pos e]at hq;cases hq
     obtain⟨_,mb,mc,md,me,mf,mg⟩:=a8;obtain⟨q1,q2,q3,q4⟩:=Kf (ts:=st.ts) a7 g4 zo (fun i hi=>(h8 i hi).upd a0) g2;exact aD rfl ⟨O7,_,a5,b6,b0,rfl,he,⟨⟨xs++[x],q1,q2,q3,q4⟩,mb.upd a0 b9 (fun h=>by rcases h with h|h;exact c' h.symm;exact h5 h.symm),mc.upd a0 b8 (fun h=>by rcases h with h|h;exact c9 h.symm;exact h4 h.symm),md,me,mf,mg⟩,a9.upd a0 b3 (fun h=>by rcases h with h|h;exact c6 h.symm;exact g3 h.symm)⟩
    |bad p e=>
     rw[hq]at a6;obtain⟨b2,b0⟩:=a6;exact aD rfl ⟨O7,_,a5,b6,b0,rfl,b2,rfl,by dsimp only;rw[d2];omega⟩
end
inductive TK where
 |ok (st:St)
 |bad (p:Nat) (e:Int)
def lD:Nat->Kn->St->Nat->List UInt8->TK
 |0,_,_,_,_=>.bad 0 3
 |n+1,kn,st,fr,r=>
  match cy kn st (cR r)with
  |.bad p e=>.bad (fr+p) e
  |.go kn' st'=>if(cR r).length=r.length then .ok st' else lD n kn' st' (fr+(cR r).length+1) (r.drop ((cR r).length+1))
def st0:St:=⟨[],[],[],false,false⟩
def gu(l:List UInt8):TK:=if 4096<l.length then .bad 0 3 else lD (l.length+1) [] st0 0 l
theorem zX{kn a0:Kn}{st a1:St}{seg:List UInt8}(h:cy kn st seg=.go a0 a1):a0.length<=kn.length+1:=by
 have hl:∀ {R:RS},kT kn R=.go a0 a1->a0.length<=kn.length+1:=fun {R} h=>by
  cases R with
  |go s=>cases h;omega
  |bad p e=>cases h
  |other=>cases h
 unfold cy at h
 split at h
 ·cases h;omega
 split at h
 ·unfold Ge at h
  split at h
  ·cases h;simp
  cases h
 split at h
 ·split at h
  ·cases h
  exact hl h
 split at h
 ·split at h
  ·cases h
  exact hl h
 exact hl h
def LoopK(l:List UInt8)(M:TK)(O:Nat->Nat)(w:ln)(jr ji jk jm:Nat)(n fr:Nat)(kn:Kn)(st:St)(s:LS):Prop:=
 (fr<=l.length/\s.e=0/\l.length-fr<n/\lD n kn st fr (l.drop fr)=M/\Mem O w jr ji jk s st/\Mac O w jm s.mc kn/\kn.length<=fr)\/(fr=l.length+1/\s.e=0/\M=.ok st/\Mem O w jr ji jk s st)\/
 (∃p e,e≠0/\s.e=e/\s.bad=((p:Nat):Int)/\M=.bad p e)
theorem LoopK.next{l:List UInt8}{M:TK}{B j jr ji jk jm rb n fr:Nat}{O:Nat->Nat}{w w':ln}{kn:Kn}{st:St}{s:LS}(a3:fr<=l.length)(hn:l.length-fr<n+1)(hM:lD (n+1) kn st fr (l.drop fr)=M)(a2:kn.length<=fr) 
  (hP:Gl B O w w' j jr ji jk jm rb s fr (cy kn st (cR (l.drop fr)))) :
  ∃O' s' n' kn' st',IK (fun k=>k=j\/k=jr\/k=ji\/k=jk\/k=jm) O w O' w'/\JG B O' w'/\JX O' w' j rb s'/\s'.l=s.l/\n'<n+1/\LoopK l M O' w' jr ji jk jm n' (fr+(cR (l.drop fr)).length+1) kn' st' s':=by
 obtain⟨O',s',hU,hR,hb,e1,hq⟩:=hP;have a0:(cR (l.drop fr)).length<=l.length-fr:=by
  have:=(IX (l:=l.drop fr) (fun b=>!(b==10))).length_le;simpa[cR]using this
 have a4:(l.drop fr).length=l.length-fr:=by simp
 unfold lD at hM;refine⟨O',s',?_⟩
 cases hr:cy kn st (cR (l.drop fr))with
 |bad p e=>
  rw[hr]at hq hM;obtain⟨q1,q2,q3⟩:=hq;exact⟨0,kn,st,hU,hR,hb,e1,zo,.inr (.inr ⟨fr+p,e,q1,q2,by rw[q3];simp,hM.symm⟩)⟩
 |go kn' st'=>
  have a1:=zX hr;rw[hr]at hq hM;dsimp only at hM;obtain⟨q1,q2,q3⟩:=hq
  split at hM
  ·rename_i he;exact⟨0,kn',st',hU,hR,hb,e1,zo,.inr (.inl ⟨zo,q1,hM.symm,q2⟩)⟩
  rename_i he;exact⟨n,kn',st',hU,hR,hb,e1,zo,.inl ⟨zo,q1,zo,by rw[<-hM,List.drop_drop,Nat.add_assoc],q2,q3,zo⟩⟩
def Gj(w:ln)(v:I1):TK->Prop
 |.ok st=>∃tv,v=.tuple #[tv,nI 0,nI 0]/\Tx w tv st.li st.lk st.ts
 |.bad p e=>v=.tuple #[FN qV qV qV,nI (p:Int),nI e]/\e≠0
theorem Mem.tx{O:Nat->Nat}{w:ln}{jr ji jk:Nat}{s:LS}{st:St}(h:Mem O w jr ji jk s st):Tx w (FN s.ig s.kp s.ru) st.li st.lk st.ts:=by
 obtain⟨xs,a1,a2,a3,a4⟩:=h.ru;exact⟨s.ig,s.kp,s.ru,xs,rfl,h.ig.sl,h.kp.sl,a1.sl,a2,fun i hi=>(a4 i hi).weak fun _ _=>rfl⟩
theorem tU(l:List UInt8)(B:Nat)(O:Nat->Nat)(w:ln)(hR:JG B O w)(g0:l.length<=1000000000):Jm IP 21 [.string (bs l)] w fun v w'=>KH w w'/\Gj w' v (gu l):=by
 obtain⟨T,g3,hT⟩:=hR.bound;have a6:¬(fun q:Nat=>T<=q) 0:=fun e=>by omega
 have c6:∀b,¬T<=O b:=fun b=>by have:=hT b;omega
 refine I0 func21 ntmps21 rfl rfl ?_;refine zg ?_
 refine au hR T zo (Jb _) rfl ?_;intro xb w1 O1 b8 f6 f8 g5;have b6:IK (fun q=>T<=q) O w O1 w1:=f6.mono (fun _ h=>IL h.symm) a6;refine zg ?_
 refine zvG (bW IN rfl) ?_
 by_cases hl:4096<l.length
 ·have hM:gu l=.bad 0 3:=by unfold gu;rw[if_pos hl]
  rw[hM];refine zTG rfl ((decide_eq_true zo)) ?_;refine zv (aF GD (Jb _) rfl (by first|rfl|(simp only[IZ,Jd];rfl)) rfl rfl) ?_;refine zsa (us:=(#[nS,nS,nS]:Array I1)) b8 (IU _) ?_;have a7:=b8.setRow (us:=(#[nS,nS,nS]:Array I1));have a4:IK (fun k=>k=T) O1 w1 O1 (w1.setRow xb (#[nS,nS,nS]:Array I1)):=I4 zo b8.tag rfl;refine zg ?_;refine cj rfl rfl rfl rfl a7.cellsAdd (JH _) (IU _) ⟨bD (b6.trans (a4.mono (fun _ h=>IL h.symm) a6)) c6,rfl,by decide⟩
 have f9:gu l=lD (l.length+1) [] st0 0 l:=by unfold gu;rw[if_neg hl]
 refine zFG rfl ((decide_eq_false zo)) ?_;refine zv (aF GO (zeroValue111 _) rfl (by first|rfl|(simp only[IZ,Jd];rfl)) rfl rfl) ?_
 refine zv (JS (vs:=[(0,.agg #[.string (bs l),nI 0,nI 0,nI 0,nI 0,nI 0])]) (cells:=(⟨l,0,0,0,0,0,nS,nS,nS,nS,false,false⟩:LS).cells) GN (zeroValue114 _) rfl zk) ?_;refine aH f8 (T+1) zo rfl rfl ?_
 intro rb w2 O2 d2 e5 f7 g4;have f5:JX O2 w2 (T+1) rb ⟨l,0,0,0,0,0,nS,nS,nS,nS,false,false⟩:=d2;have e7:=b8.upd e5 zo zo;have d6:=b6.trans (e5.mono (fun _ h=>by rw[h];omega) a6);refine zg ?_;refine zlp (fun y:Nat×Nat×Kn×St×(Nat->Nat)×World×LS=>[(0,.string (bs l)),(2,nP xb),(5,nP rb),(6,nI (y.2.1:Nat))]) (fun y=>y.2.2.2.2.2.1) (fun y=>J0 y.2.2.2.2.1 y.2.2.2.2.2.1 T xb (#[nS,nS,nS]:Array I1) 56/\JX y.2.2.2.2.1 y.2.2.2.2.2.1 (T+1) rb y.2.2.2.2.2.2/\y.2.2.2.2.2.2.l=l/\IK (fun q=>T<=q) O w y.2.2.2.2.1 y.2.2.2.2.2.1/\JG B y.2.2.2.2.1 y.2.2.2.2.2.1/\y.2.1<=10000000/\LoopK l (gu l) y.2.2.2.2.1 y.2.2.2.2.2.1 (T+2) (T+3) (T+4) (T+5) y.1 y.2.1 y.2.2.1 y.2.2.2.1 y.2.2.2.2.2.2) (fun y=>y.1) (l.length+1,0,[],st0,O2,w2,⟨l,0,0,0,0,0,nS,nS,nS,nS,false,false⟩) (⟨e7,f5,rfl,d6,f7,by dsimp only;omega,.inl ⟨by dsimp only;omega,rfl,by dsimp only;omega,by rw[f9];rfl,⟨⟨[],Jt _ _ _ _ _ _,rfl,by simp,fun i hi=>absurd hi (by simp)⟩,Jt _ _ _ _ _ _,Jt _ _ _ _ _ _,rfl,rfl,fun _=>rfl,fun _=>rfl⟩,Mac.nil _ _ _,Jo _⟩⟩) ?_;rintro⟨n,fr,kn,st,O1,w3,s⟩ ⟨a2,a3,a5,a1,d8,f4,e6⟩;dsimp only at a2 a3 a5 a1 d8 f4 e6 ⊢
 rcases e6 with⟨c5,he,e1,b1,a0,b4,e3⟩|⟨c5,he,b1,a0⟩|⟨p,e,b9,d0,a',b1⟩
 ·obtain⟨n,rfl⟩:∃m,n=m+1:=⟨n-1,by omega⟩
  have g2:(cR (l.drop fr)).length<=l.length-fr:=by
   have:=(IX (l:=l.drop fr) (fun b=>!(b==10))).length_le;simpa[cR]using this
  have q5:=a3.q5;rw[he]at q5;refine zg ?_;refine zvG (bW IN rfl) ?_;refine aw (d:=21) rfl (b':=true) ((decide_eq_true zo)) ?_;refine zg ?_;refine zvG (RV.ld q5 rfl) ?_;refine zTG rfl rfl ?_;refine zvG (bW IN rfl) ?_;refine zv (jo IN rfl rfl fr rfl c5) ?_;refine zc call44 (dp (l.drop fr) 10 w3) ?_;rintro v w9 ⟨rfl,e0⟩;rw[e0];clear e0 w9
  cases hf:(l.drop fr).findIdx? (· == 10)with
  |none=>
   have hi:qX (l.drop fr) 10 = -1:=by unfold qX;rw[hf]
   have e2:=congrArg Kg (ye hf);rw[List.length_drop]at e2;rw[hi,show((l.length:Nat):Int)=((fr+(cR (l.drop fr)).length:Nat):Int)from by omega];refine zg ?_;refine zFG rfl rfl ?_;refine zc call45 (rT B O1 w3 (T+1) (T+2) (T+3) (T+4) (T+5) rb s fr (fr+(cR (l.drop fr)).length) (cR (l.drop fr)) st d8 zo zo zo zo zo zo zo zo zo zo zo zo zo zo zo zo zo (by rw[a5];omega) (by rw[a5];omega) he (by rw[a5];exact so l fr) a0 b4 a3) ?_;rintro v w4 d9;obtain⟨O4,s4,n4,c8,c7,b7,d7,d1,g1,a9,d'⟩:=LoopK.next c5 e1 b1 e3 d9;have c9:=I6 a2 b7 zo zo;have b0:=a1.trans (b7.mono (fun _ h=>by rcases h with h|h|h|h|h<;>rw[h]<;>omega) a6);refine zg ?_;refine zvG (Jl rfl rfl (IV zo)) ?_;refine zx (n4,fr+(cR (l.drop fr)).length+1,c8,c7,O4,w4,s4) (⟨c9,d1,g1.trans a5,b0,d7,by dsimp only;omega,d'⟩) (a9)
  |some k=>
   have hi:qX (l.drop fr) 10=(k:Nat):=by unfold qX;rw[hf]
   have e2:=yd hf;rw[hi];refine zg ?_;refine zTG rfl ((decide_eq_true zo)) ?_;refine zvG (Jl rfl rfl (IV zo)) ?_;rw[show(fr:Int)+((k:Nat):Int)=((fr+(cR (l.drop fr)).length:Nat):Int)from by omega];refine zc call45 (rT B O1 w3 (T+1) (T+2) (T+3) (T+4) (T+5) rb s fr (fr+(cR (l.drop fr)).length) (cR (l.drop fr)) st d8 zo zo zo zo zo zo zo zo zo zo zo zo zo zo zo zo zo (by rw[a5];omega) (by rw[a5];omega) he (by rw[a5];exact so l fr) a0 b4 a3) ?_;rintro v w4 d9;obtain⟨O4,s4,n4,c8,c7,b7,d7,d1,g1,a9,d'⟩:=LoopK.next c5 e1 b1 e3 d9;have c9:=I6 a2 b7 zo zo;have b0:=a1.trans (b7.mono (fun _ h=>by rcases h with h|h|h|h|h<;>rw[h]<;>omega) a6);refine zg ?_;refine zvG (Jl rfl rfl (IV zo)) ?_;refine zx (n4,fr+(cR (l.drop fr)).length+1,c8,c7,O4,w4,s4) (⟨c9,d1,g1.trans a5,b0,d7,by dsimp only;omega,d'⟩) (a9)
 ·have q5:=a3.q5;rw[he]at q5;refine zg ?_;refine zvG (bW IN rfl) ?_;refine aw (d:=21) rfl (b':=false) ((decide_eq_false zo)) ?_;rw[b1];have q6:=a3.q6;have q7:=a3.q7;have q8:=a3.q8;have f':=a0.tx;have f3:=a0.ig.one;have e':=a0.kp.one;obtain⟨xs,e8,_,_,_⟩:=a0.ru;have e9:=e8.one;refine zg ?_;refine zFG rfl rfl ?_;refine zvG (RV.ld q5 rfl) ?_;refine zFG rfl rfl ?_;refine zv (ah (us:=[s.ig,s.kp,s.ru]) (yX q6 q7 q8) (JH _) (IU _) rfl) ?_;refine zsb (us:=#[s.ig,s.kp,s.ru]) a2 (IU _) (by simp only[IZ,f3,e',e9];rfl) ?_;have a7:=a2.setRow (us:=#[s.ig,s.kp,s.ru]);have a4:IK (fun k=>k=T) O1 w3 O1 (w3.setRow xb #[s.ig,s.kp,s.ru]):=I4 zo a2.tag rfl;have d3:=a1.trans (a4.mono (fun _ h=>IL h.symm) a6);have b3:=a0.upd a4 zo zo zo zo zo zo;refine zg ?_;refine cj rfl rfl rfl rfl a7.cellsAdd (JH _) (IU _) ⟨bD d3 c6,_,rfl,b3.tx⟩
 rw[b1];have q5:=a3.q5;rw[d0]at q5;have q4:=a3.q4;rw[a']at q4;have c':((e==0):Bool)=false:=by simpa using b9
 have b2:((e != 0):Bool)=true:=by simpa using b9
 cases e4:decide ((fr:Int)<=(l.length:Int))with
 |false=>
  refine zg ?_;refine zvG (bW IN rfl) ?_
  refine aw (d:=21) rfl (b':=false) (e4) ?_;refine zg ?_
  refine zFG rfl rfl ?_;refine zvG (RV.ld q5 rfl) ?_
  refine aS rfl (b2) ?_;have d4:w3.drew.cell? ⟨rb,4,none⟩=some (nI (p:Nat)):=q4;have d5:w3.drew.cell? ⟨rb,5,none⟩=some (nI e):=q5;refine zg ?_
  refine aK (fun W=>W.cell? ⟨rb,4,none⟩=some (nI (p:Nat))/\W.cell? ⟨rb,5,none⟩=some (nI e)) 14 rfl zk ?_;refine zin ⟨d4,d5⟩ fun zS=>?_
  refine zr 0 rfl zS (fun _=>aF GD (Jb _) rfl (by first|rfl|(simp only[IZ,Jd];rfl)) rfl rfl) ?_;refine zrm 1 rfl zS rfl ?_
  refine zr 2 rfl zS (fun _=>ak rfl) ?_;refine zrf 3 rfl zS rfl ?_
  refine zrf 4 rfl zS rfl ?_;refine zt 5 rfl zS (fun w1 a8=>RV.ld a8.1 rfl) ?_
  refine zrm 6 rfl zS rfl ?_;refine zr 7 rfl zS (fun _=>ak rfl) ?_
  refine zrf 8 rfl zS rfl ?_;refine zrf 9 rfl zS rfl ?_
  refine zt 10 rfl zS (fun w1 a8=>RV.ld a8.2 rfl) ?_;refine IE 11 zk rfl ?_
  refine zsa (us:=#[nS,nS,nS]) a2.drew (IU _) ?_;have a7:=J8 (us:=#[nS,nS,nS]) a2.drew;have a4:IK (fun k=>k=T) O1 w3.drew O1 (w3.drew.setRow xb #[nS,nS,nS]):=I4 zo a2.tag rfl;have b5:=(Ji a3).upd a4 zo zo;have z5:=b5.q5;rw[d0]at z5;have z4:=b5.q4;rw[a']at z4;refine zg ?_
  refine zaf (⟨z4,z5⟩) fun zS=>?_
  refine zra 12 rfl zS rfl ?_;refine zra 13 rfl zS rfl ?_
  refine IW zk ?_;refine zg ?_
  refine cj rfl rfl rfl rfl a7.cellsAdd (JH _) (IU _) ⟨bD ((a1.drew).trans (a4.mono (fun _ h=>IL h.symm) a6)) c6,rfl,b9⟩
 |true=>
  refine zg ?_;refine zvG (bW IN rfl) ?_
  refine aw (d:=21) rfl (b':=true) (e4) ?_;refine zg ?_
  refine zvG (RV.ld q5 rfl) ?_;refine zFG rfl (c') ?_
  refine zvG (RV.ld q5 rfl) ?_;refine aS rfl (b2) ?_
  have d4:w3.drew.cell? ⟨rb,4,none⟩=some (nI (p:Nat)):=q4;have d5:w3.drew.cell? ⟨rb,5,none⟩=some (nI e):=q5;refine zg ?_;refine aK (fun W=>W.cell? ⟨rb,4,none⟩=some (nI (p:Nat))/\W.cell? ⟨rb,5,none⟩=some (nI e)) 14 rfl zk ?_;refine zin ⟨d4,d5⟩ fun zS=>?_
  refine zr 0 rfl zS (fun _=>aF GD (Jb _) rfl (by first|rfl|(simp only[IZ,Jd];rfl)) rfl rfl) ?_;refine zrm 1 rfl zS rfl ?_
  refine zr 2 rfl zS (fun _=>ak rfl) ?_;refine zrf 3 rfl zS rfl ?_
  refine zrf 4 rfl zS rfl ?_;refine zt 5 rfl zS (fun w1 a8=>RV.ld a8.1 rfl) ?_
  refine zrm 6 rfl zS rfl ?_;refine zr 7 rfl zS (fun _=>ak rfl) ?_
  refine zrf 8 rfl zS rfl ?_;refine zrf 9 rfl zS rfl ?_
  refine zt 10 rfl zS (fun w1 a8=>RV.ld a8.2 rfl) ?_;refine IE 11 zk rfl ?_
  refine zsa (us:=#[nS,nS,nS]) a2.drew (IU _) ?_;have a7:=J8 (us:=#[nS,nS,nS]) a2.drew;have a4:IK (fun k=>k=T) O1 w3.drew O1 (w3.drew.setRow xb #[nS,nS,nS]):=I4 zo a2.tag rfl;have b5:=(Ji a3).upd a4 zo zo;have z5:=b5.q5;rw[d0]at z5;have z4:=b5.q4;rw[a']at z4;refine zg ?_
  refine zaf (⟨z4,z5⟩) fun zS=>?_
  refine zra 12 rfl zS rfl ?_;refine zra 13 rfl zS rfl ?_
  refine IW zk ?_;refine zg ?_
  refine cj rfl rfl rfl rfl a7.cellsAdd (JH _) (IU _) ⟨bD ((a1.drew).trans (a4.mono (fun _ h=>IL h.symm) a6)) c6,rfl,b9⟩
theorem PostC.shape{B:Nat}{w:ln}{v:I1}{li lk:List Int}{ts:List R3}(h:Js B w v li lk ts):∃cs:List I1,∃e:Int,v=.tuple #[.agg cs.toArray,nI e]/\cs.length=17/\(cs.all IG=true):=by
 rcases h with⟨_,rfl⟩|⟨_,⟨a,b,a1,a0,u,_,_,_,_,_,_,rfl,hT,_⟩|⟨_,rfl⟩⟩
 ·exact⟨_,1,rfl,rfl,rfl⟩
 ·obtain⟨gv,lc,rc,rfl,h1,h2,h3⟩:=hT;obtain⟨ll,lo⟩:=h2.one;obtain⟨rl,ro⟩:=h3.one;refine⟨_,0,rfl,by simp[ll,rl],?_⟩;rw[K1];intro x hx;simp only[K5,I7,J9,or_false]at hx
  rcases hx with(hx|hx)|hx
  ·rcases hx with rfl|rfl|rfl|rfl|rfl
   ·rfl
   ·rfl
   ·rfl
   ·rfl
   exact h1.one
  ·exact lo x hx
  exact ro x hx
 exact⟨_,7,rfl,rfl,rfl⟩
theorem TabV.ext{w w':ln}{v:I1}{t:TabM}(h:TabV w v t)(e:KH w w'):TabV w' v t:=by
 obtain⟨gv,lc,rc,rfl,h1,h2,h3⟩:=h;exact⟨gv,lc,rc,rfl,h1.ext e,h2.ext e,h3.ext e⟩
theorem TabN.mono{B B':Nat}{v:I1}(h:TabN B v)(hb:B'<=B):TabN B' v:=fun cs e x hx=>(h cs e x hx).mono hb
theorem PostC.ext{B B':Nat}{w w':ln}{v:I1}{li lk:List Int}{ts:List R3}(h:Js B w v li lk ts)(e:KH w w')(hb:B'<=B):Js B' w' v li lk ts:=by
 rcases h with h|⟨h0,⟨a,b,a1,a0,u,h1,h2,h3,h4,h5,h6,h7,hT,hN⟩|h⟩
 ·exact .inl h
 ·exact .inr ⟨h0,.inl ⟨a,b,a1,a0,u,h1,h2,h3,h4,h5,h6,h7,hT.ext e,hN.mono hb⟩⟩
 exact .inr ⟨h0,.inr h⟩
theorem PostC.upd{B:Nat}{S:Nat->Prop}{O O':Nat->Nat}{w0 w w':ln}{v:I1}{li lk:List Int}{ts:List R3}(h:Js w0.heap.size w v li lk ts)(r:JG B O w0)(u:IK S O w O' w'):Js w0.heap.size w' v li lk ts:=by
 rcases h with h|⟨h0,⟨a,b,a1,a0,x,h1,h2,h3,h4,h5,h6,h7,hT,hN⟩|h⟩
 ·exact .inl h
 ·refine .inr ⟨h0,.inl ⟨a,b,a1,a0,x,h1,h2,h3,h4,h5,h6,h7,?_,hN⟩⟩;obtain⟨gv,lc,rc,rfl,k1,k2,k3⟩:=hT;have hn:=hN _ rfl;have n1:NewV w0.heap.size gv:=hn gv (by simp);exact⟨gv,lc,rc,rfl,k1.upd (n1.free k1 (fun x _=>by simp) r) u,k2.upd (fun x hx=>hn x (by simp[hx])) r u,k3.upd (fun x hx=>hn x (by simp[hx])) r u⟩
 exact .inr ⟨h0,.inr h⟩
def Gk(B:Nat)(w:ln)(v:I1):TK->Prop
 |.bad p e=>v=.tuple #[.agg nW,nI (p:Int),nI e]/\e≠0
 |.ok st=>∃(cs:List I1) (e:Int),v=.tuple #[.agg cs.toArray,nI 0,nI e]/\Js B w (.tuple #[.agg cs.toArray,nI e]) st.li st.lk st.ts
theorem nV(l:List UInt8)(w:ln)(b9:l.length<=1000000000):Jm IP 28 [.string (bs l)] w fun v w'=>KH w w'/\Gk w.heap.size w' v (gu l):=by
 refine I0 func28 ntmps28 rfl rfl ?_;refine zh ?_
 refine au (ay w) 1 zo (Jc _) rfl ?_;intro cb w1 O1 a8 b8 b5 d0;refine zh ?_
 refine zc call21 (tU l w.heap.size O1 w1 b5 b9) ?_;rintro v w2 ⟨a7,hP⟩;have d2:=b5.ext a7;have hz:¬(0=1):=zo
 cases hM:gu l with
 |bad p e=>
  rw[hM]at hP;obtain⟨rfl,he⟩:=hP;refine zh ?_;refine au (ay w2) 1 zo (Jb _) rfl ?_;intro tb w3 O3 a1 b4 c8 c';refine zsa (us:=#[qV,qV,qV]) a1 (IU _) ?_;have a0:=(b4.trans (I4 (us:=#[qV,qV,qV]) zd a1.tag rfl)).ext;generalize w3.setRow tb #[qV,qV,qV]=w4 at *;have c5:=aa (S:=fun q=>q=1) hz O1 (a7.trans a0);have a4:=a8.upd (aa (S:=fun _=>False) (fun h=>h) O1 (a7.trans a0)) zd (fun h=>h);refine zh ?_;refine zTH rfl ((by simpa using he)) ?_;refine zvH (JS (cells:=nW) DK (Jc _) rfl rfl) ?_;refine zsa (us:=nW) a4 (IF _) ?_;have b3:=a4.setRow (us:=nW);have c7:IK (fun j=>j=1) O1 w4 O1 (w4.setRow cb nW):=I4 zd a4.tag rfl;refine zh ?_;refine cj rfl rfl rfl rfl (b3.cellsAdd) (Jg _) (IF _) (⟨((b8.trans c5).trans c7).ext,rfl,he⟩)
 |ok st=>
  rw[hM]at hP;obtain⟨tv,rfl,hx⟩:=hP;obtain⟨ta,a5,tc,xs,rfl,x1,x2,x3,_⟩:=hx.ex;have o1:=x1.one;have o2:=x2.one;have o3:=x3.one;refine zh ?_;refine au (ay w2) 1 zo (Jb _) rfl ?_;intro tb w3 O3 a1 b4 c8 c';refine zsb (us:=#[ta,a5,tc]) a1 (IU _) (by simp[o1,o2,o3]) ?_;have b1:=a1.setRow (us:=#[ta,a5,tc]);have a0:=(b4.trans (I4 (us:=#[ta,a5,tc]) zd a1.tag rfl)).ext;generalize w3.setRow tb #[ta,a5,tc]=w4 at *;refine zh ?_;refine zFH rfl rfl ?_;refine zv (ah (us:=[ta,a5,tc]) b1.cellsAdd (JH _) (IU _) rfl) ?_;refine zc call55 (uS st.li st.lk st.ts (FN ta a5 tc) w4 (hx.ext a0)) ?_;rintro v w5 ⟨c9,hC⟩;obtain⟨cs,e,rfl,a6,b6⟩:=hC.shape;refine zh ?_;refine au (ay w5) 1 zo (Jc _) rfl ?_;intro xb w6 O6 a2 c6 d1 d3;refine bp (us:=cs.toArray) a2 (show cs.toArray.size=17 from by simpa using a6) (by rw[show cs.toArray.size=17 from by simpa using a6];exact IF _) (by simpa using b6) rfl rfl rfl ?_;have b0:=a2.setRow (us:=cs.toArray);have a9:=(c6.trans (I4 (us:=cs.toArray) zd a2.tag rfl)).ext;generalize w6.setRow xb cs.toArray=w7 at *;have a':=((a7.trans a0).trans c9).trans a9;have b':=aa (S:=fun q=>q=1) hz O1 a';have a3:=a8.upd (aa (S:=fun _=>False) (fun h=>h) O1 a') zd (fun h=>h);refine zh ?_;refine zvH (ah (us:=cs) (by simpa using b0.cellsAdd) (Jg _) (by rw[a6];exact IF _) rfl) ?_
  refine bp (us:=cs.toArray) a3 (show cs.toArray.size=17 from by simpa using a6) (by rw[show cs.toArray.size=17 from by simpa using a6];exact IF _) (by simpa using b6) rfl rfl rfl ?_;have b2:=a3.setRow (us:=cs.toArray);have b7:IK (fun j=>j=1) O1 w7 O1 (w7.setRow cb cs.toArray):=I4 zd a3.tag rfl;refine zh ?_
  refine cj rfl rfl rfl rfl (us:=cs) (by simpa using b2.cellsAdd) (Jg _) (by rw[a6];exact IF _) ⟨((b8.trans b').trans b7).ext,cs,e,rfl,((hC.ext a9 (JO _)).upd (b5.ext (a7.trans a0)) b7).ext (II _) (((d0.trans a7).trans a0).size)⟩
theorem uI(l l':List Bool)(av bv:I1)(w:ln)(h:Sl sS 1 w av l)(h':Sl sS 1 w bv l'):Jm IP 12 [av,bv] w fun v w'=>v=.bool (decide (l=l'))/\KH w w':=by
 have q1:=h.len_le;have q2:=h'.len_le;refine I0 func12 ntmps12 rfl rfl ?_;refine zh ?_;refine zvH (JD h' J7 rfl) ?_;refine zC ?_ ?_
 ·intro a4;have a1:¬l=l':=fun e=>by subst e;simp at a4
  refine zh ?_;refine ae rfl rfl (⟨by rw[decide_eq_false a1],II w⟩)
 intro a7;have a9:l.length=l'.length:=by have:=of_decide_eq_true (p:=((l.length:Int)=(l'.length:Int))) (by simpa using a7);omega
 refine zh ?_;refine zlp (fun z:Nat×ln=>[(0,av),(1,bv),(5,nI (z.1:Nat))]) (fun z=>z.2) (fun z=>z.1<=l.length/\KH w z.2/\∀i,i<z.1->nth l i=nth l' i) (fun z=>l.length-z.1) (0,w) (⟨Jo _,II w,fun i hi=>absurd hi (Je i)⟩) ?_
 rintro⟨k,w1⟩ ⟨hk,hE,a0⟩;dsimp only at hk hE a0 ⊢;have h1:=h.ext hE;have h2:=h'.ext hE;refine zh ?_;refine zC ?_ ?_
 ·intro a2;replace a2:k<l.length:=dT a2;have e1:w1.cell? (adr av 1 k)=some (.bool (nth l k)):=by have:=h1.cell (i:=k) (j:=0) a2 rfl;rw[ax]at this;exact this
  have e2:w1.cell? (adr bv 1 k)=some (.bool (nth l' k)):=by have:=h2.cell (i:=k) (j:=0) zo rfl;rw[ax]at this;exact this
  refine zh ?_;refine aK (fun W=>W.cell? (adr av 1 k)=some (.bool (nth l k))/\W.cell? (adr bv 1 k)=some (.bool (nth l' k))) 9 rfl zk ?_
  refine zin ⟨e1,e2⟩ fun zS=>?_
  refine zrm 0 rfl zS rfl ?_;refine zrm 1 rfl zS rfl ?_
  refine zr 2 rfl zS (fun _=>az h1.sh underlying39 (Jp _) rfl rfl k rfl zo) ?_;refine zt 3 rfl zS (fun w1 a3=>RV.ld a3.1 rfl) ?_
  refine zrm 4 rfl zS rfl ?_;refine zrm 5 rfl zS rfl ?_
  refine zr 6 rfl zS (fun _=>az h2.sh J7 (Jp _) rfl rfl k rfl zo) ?_;refine zt 7 rfl zS (fun w1 a3=>RV.ld a3.2 rfl) ?_
  refine zr 8 rfl zS (fun _=>Fg underlying4 rfl rfl) ?_;refine IW zk ?_
  refine zh ?_;refine zC ?_ ?_
  ·intro a4;have a1:¬l=l':=fun e=>by subst e;simp at a4
   refine zh ?_;refine ae rfl rfl (⟨by rw[decide_eq_false a1],hE.drew⟩)
  intro a7;have a6:nth l k=nth l' k:=by simpa using a7
  refine zh ?_;have a8:∀i,i<k+1->nth l i=nth l' i:=fun i hi=>(Nat.lt_succ_iff_lt_or_eq.1 hi).elim (a0 i) (fun e=>by rw[e];exact a6)
  refine zxd (k+1,w1.drew) (⟨a2,hE.drew,a8⟩)
 intro b0;have a':k=l.length:=dF b0;subst a';have a5:l=l':=List.ext_getElem a9 fun i i1 i2=>by have:=a0 i i1;rwa[aC i1,aC i2]at this
 refine zh ?_;refine ae rfl rfl (⟨by rw[decide_eq_true a5],hE⟩)
def CC(x:Int):List Int->List Int
 |[]=>[x]
 |y::r=>if x<y then x::y::r else if x=y then y::r else y::CC x r
def pF(l:List Int):List Int:=l.foldr CC []
theorem qx(x z:Int):∀l:List Int,z∈CC x l↔z=x\/z∈l
 |[]=>by simp[CC]
 |y::r=>by
  unfold CC
  split
  ·simp
  split
  ·rename_i h;subst h;simp
  rw[I7,qx x z r,I7]
  constructor
  ·rintro(h|h|h)
   ·exact .inr (.inl h)
   ·exact .inl h
   exact .inr (.inr h)
  rintro(h|h|h)
  ·exact .inr (.inl h)
  ·exact .inl h
  exact .inr (.inr h)
theorem AK(x:Int):∀l:List Int,l.Pairwise (· < ·)->(CC x l).Pairwise (· < ·)
 |[],_=>by simp[CC]
 |y::r,h=>by
  obtain⟨h1,h2⟩:=IR.1 h;unfold CC
  split
  ·rename_i hxy;refine IR.2 ⟨fun z hz=>?_,h⟩
   rcases I7.1 hz with rfl|hz
   ·exact hxy
   have:=h1 z hz;omega
  split
  ·exact h
  refine IR.2 ⟨fun z hz=>?_,AK x r h2⟩
  rcases(qx x z r).1 hz with rfl|hz
  ·omega
  exact h1 z hz
theorem nC(l:List Int):(∀x,x∈pF l↔x∈l)/\(pF l).Pairwise (· < ·):=by
 induction l with
 |nil=>exact⟨fun x=>Iff.rfl,.nil⟩
 |cons a l ih=>
  refine⟨fun x=>?_,AK a _ ih.2⟩;show x∈CC a (pF l)↔_;rw[qx,ih.1,I7]
theorem C9:∀(a b:List Int),a.Pairwise (· < ·)->b.Pairwise (· < ·)->(∀x,x∈a↔x∈b)->a=b
 |[],[],_,_,_=>rfl
 |[],y::r,_,_,h=>absurd ((h y).2 (by simp)) (by simp)
 |x::a,[],_,_,h=>absurd ((h x).1 (by simp)) (by simp)
 |x::a,y::b,ha,hb,h=>by
  obtain⟨a1,a2⟩:=IR.1 ha;obtain⟨b1,b2⟩:=IR.1 hb;have a4:x=y:=by
   rcases I7.1 ((h x).1 (by simp))with e|e
   ·exact e
   rcases I7.1 ((h y).2 (by simp))with e'|e'
   ·exact e'.symm
   have:=a1 y e';have:=b1 x e;omega
  subst a4;congr 1;refine C9 a b a2 b2 fun z=>?_
  have hz:=h z;simp only[I7]at hz
  constructor
  ·intro a3
   rcases hz.1 (.inr a3)with e|e
   ·subst e;exact absurd (a1 z a3) zo
   exact e
  intro a0
  rcases hz.2 (.inr a0)with e|e
  ·subst e;exact absurd (b1 z a0) zo
  exact e
theorem xp(l:List Int):pD l=pF l:=C9 _ _ (xo l) (nC l).2 fun x=>by rw[sW,(nC l).1]
def FO(se:Bool)(g:Gr)(s:List Int)(m:Int):List Int:=pF (FR se g s m)
theorem step_eq(se:Bool)(g:Gr):cA se g=FO se g:=funext fun _=>funext fun _=>xp _
def stK(se:Bool)(ts:List Nd):Option (List (List Nat)×List Nat):=if dz ts=0 then CK (FO se (jv ts)) (cX (jv ts))else none
theorem stM_eq(se:Bool)(ts:List Nd):stM se ts=stK se ts:=by unfold stM stK;rw[step_eq]
theorem PostC.made{B:Nat}{w:ln}{v:I1}{li lk:List Int}{ts:List R3}(h:Js B w v li lk ts):
  (∃e:Int,e≠0/\v=.tuple #[.agg nW,nI e]/\((e=1/\ej li lk ts=false)\/(e=7/\ej li lk ts=true/\(stM true (jQ ts)=none\/stM false (dU ts)=none))))\/
  ∃a b a1 a0 gv lc rc,Made li lk ts a b a1 a0/\v=.tuple #[.agg (eJ (bz li lk ts a b a1 a0).ig (bz li lk ts a b a1 a0).kp (bz li lk ts a b a1 a0).br (bz li lk ts a b a1 a0).rules gv lc rc).toArray,nI 0]/\
   Ints w gv (bz li lk ts a b a1 a0).groups/\KF w lc (bz li lk ts a b a1 a0).left (bz li lk ts a b a1 a0).lt/\KF w rc (bz li lk ts a b a1 a0).right (bz li lk ts a b a1 a0).rt/\Fq B (gv::(lc++rc)):=by
 rcases h with⟨h0,rfl⟩|⟨h0,⟨a,b,a1,a0,u,h1,h2,h3,h4,h5,h6,rfl,hT,hN⟩|⟨h1,rfl⟩⟩
 ·exact .inl ⟨1,zd,rfl,.inl ⟨rfl,h0⟩⟩
 ·obtain⟨gv,lc,rc,rfl,k1,k2,k3⟩:=hT;have hn:=hN _ rfl;exact .inr ⟨a,b,a1,a0,gv,lc,rc,⟨h0,h1,h2,h3,h4,h5,h6⟩,rfl,k1,k2,k3,fun x hx=>hn x (by simp only[K5,I7,J9,or_false]at hx ⊢;rcases hx with hx|hx|hx<;>simp[hx])⟩
 exact .inl ⟨7,zd,rfl,.inr ⟨rfl,h0,h1⟩⟩
def FZ:LM->LM
 |.bad p e=>.bad p e
 |.ok []=>.bad 0 4
 |.ok (a::l)=>.ok (pF (a::l))
def Ct(r:List UInt8):LM:=FZ (eZ (r.length+1) [] r)
theorem Cs:cK=Ct:=funext fun r=>by
 unfold cK Ct
 cases eZ (r.length+1) [] r with
 |bad p e=>rfl
 |ok l=>cases l with
  |nil=>rfl
  |cons a l=>exact congrArg LM.ok (xp (a::l))
def vL(kn:Kn)(st:St)(seg:List UInt8):RK:=
 if(aQ seg).length=0 then .go kn st
 else if((aQ seg).takeWhile ai==[108,101,116])=true then Ge kn st (bh seg).length (qW kn ((aQ seg).dropWhile ai))
 else if((aQ seg).takeWhile ai==[105,103,110,111,114,101])=true then
  (if st.hi=true then .bad ((bh seg).length-(aQ seg).length) 11 else kT kn (Gw st (bh seg).length (Ct ((aQ seg).dropWhile ai))))
 else if((aQ seg).takeWhile ai==[107,101,101,112])=true then
  (if st.hk=true then .bad ((bh seg).length-(aQ seg).length) 11 else kT kn (Gv st (bh seg).length (Ct ((aQ seg).dropWhile ai))))
 else kT kn (Gu st ((bh seg).length-(aQ seg).length) (if st.ts.length=40 then JM 0 3 else gk kn (aQ seg)))
theorem zY:cy=vL:=funext fun kn=>funext fun st=>funext fun seg=>by unfold cy vL;rw[Cs]
def qs:Nat->Kn->St->Nat->List UInt8->TK
 |0,_,_,_,_=>.bad 0 3
 |n+1,kn,st,fr,r=>
  match vL kn st (cR r)with
  |.bad p e=>.bad (fr+p) e
  |.go kn' st'=>if(cR r).length=r.length then .ok st' else qs n kn' st' (fr+(cR r).length+1) (r.drop ((cR r).length+1))
theorem oS:∀(n:Nat) (kn:Kn) (st:St) (fr:Nat) (r:List UInt8),lD n kn st fr r=qs n kn st fr r
 |0,_,_,_,_=>rfl
 |n+1,kn,st,fr,r=>by
  unfold lD qs;rw[zY]
  cases vL kn st (cR r)with
  |bad p e=>rfl
  |go kn' st'=>dsimp only;rw[oS n]
def mS(l:List UInt8):TK:=if 4096<l.length then .bad 0 3 else qs (l.length+1) [] st0 0 l
theorem xW(l:List UInt8):gu l=mS l:=by unfold gu mS;rw[oS]
def okK(l:List UInt8):Bool:=match mS l with
 |.ok st=>ej st.li st.lk st.ts&&(stK true (jQ st.ts)).isSome&&(stK false (dU st.ts)).isSome
 |.bad _ _=>false
def dw(l:List UInt8):St:=match mS l with
 |.ok st=>st
 |.bad _ _=>st0
theorem C6{l:List UInt8}(h:okK l=true):gu l=.ok (dw l)/\ej (dw l).li (dw l).lk (dw l).ts=true/\(stM true (jQ (dw l).ts)).isSome=true/\(stM false (dU (dw l).ts)).isSome=true:=by
 rw[xW,stM_eq,stM_eq];unfold okK at h;unfold dw
 cases hp:mS l with
 |bad p e=>rw[hp]at h;cases h
 |ok st=>
  rw[hp]at h;simp only[Ja]at h;exact⟨rfl,h.1.1,h.1.2,h.2⟩
def zH:List UInt8:=[67,82,32,33,32,76,70,10,67,82,124,76,70,124,78,101,119,108,105,110,101,124,67,111,110,116,114,111,108,124,71,97,112,32,47,10,47,32,67,82,124,76,70,124,78,101,119,108,105,110,101,124,67,111,110,116,114,111,108,124,71,97,112,10,76,32,33,32,76,124,86,124,76,86,124,76,86,84,10,76,86,124,86,32,33,32,86,124,84,10,76,86,84,124,84,32,33,32,84,10,33,32,69,120,116,101,110,100,124,90,87,74,124,83,112,97,99,105,110,103,124,70,111,114,109,97,116,10,80,114,101,112,101,110,100,32,33,10,80,105,99,116,32,69,120,116,101,110,100,42,32,90,87,74,32,33,32,80,105,99,116,10,94,32,40,82,101,103,105,111,110,97,108,32,82,101,103,105,111,110,97,108,41,42,32,82,101,103,105,111,110,97,108,32,33,32,82,101,103,105,111,110,97,108,10,126,82,101,103,105,111,110,97,108,32,40,82,101,103,105,111,110,97,108,32,82,101,103,105,111,110,97,108,41,42,32,82,101,103,105,111,110,97,108,32,33,32,82,101,103,105,111,110,97,108,10]
def zG:List UInt8:=[105,103,110,111,114,101,32,69,120,116,101,110,100,32,70,111,114,109,97,116,10,107,101,101,112,32,67,82,32,76,70,32,78,101,119,108,105,110,101,10,108,101,116,32,108,101,116,116,101,114,32,61,32,85,112,112,101,114,124,76,111,119,101,114,124,76,101,116,116,101,114,10,108,101,116,32,109,105,100,32,61,32,77,105,100,76,101,116,116,101,114,124,68,111,116,124,65,112,111,115,116,114,111,112,104,101,10,108,101,116,32,110,117,109,32,61,32,77,105,100,78,117,109,124,68,111,116,124,65,112,111,115,116,114,111,112,104,101,10,108,101,116,32,112,97,114,116,32,61,32,108,101,116,116,101,114,124,68,105,103,105,116,124,75,97,116,97,107,97,110,97,10,67,82,32,33,32,76,70,10,67,82,124,76,70,124,78,101,119,108,105,110,101,32,47,10,47,32,67,82,124,76,70,124,78,101,119,108,105,110,101,10,90,87,74,32,33,32,80,105,99,116,10,33,32,90,87,74,10,83,112,97,99,101,32,33,32,83,112,97,99,101,10,108,101,116,116,101,114,32,33,32,108,101,116,116,101,114,10,108,101,116,116,101,114,32,33,32,109,105,100,32,108,101,116,116,101,114,10,108,101,116,116,101,114,32,109,105,100,32,33,32,108,101,116,116,101,114,10,68,105,103,105,116,32,33,32,68,105,103,105,116,10,108,101,116,116,101,114,32,33,32,68,105,103,105,116,10,68,105,103,105,116,32,33,32,108,101,116,116,101,114,10,68,105,103,105,116,32,110,117,109,32,33,32,68,105,103,105,116,10,68,105,103,105,116,32,33,32,110,117,109,32,68,105,103,105,116,10,75,97,116,97,107,97,110,97,32,33,32,75,97,116,97,107,97,110,97,10,112,97,114,116,124,74,111,105,110,101,114,32,33,32,74,111,105,110,101,114,10,74,111,105,110,101,114,32,33,32,112,97,114,116,10,94,32,40,82,101,103,105,111,110,97,108,32,82,101,103,105,111,110,97,108,41,42,32,82,101,103,105,111,110,97,108,32,33,32,82,101,103,105,111,110,97,108,10,126,82,101,103,105,111,110,97,108,32,40,82,101,103,105,111,110,97,108,32,82,101,103,105,111,110,97,108,41,42,32,82,101,103,105,111,110,97,108,32,33,32,82,101,103,105,111,110,97,108,10]
def zF:List UInt8:=[105,103,110,111,114,101,32,69,120,116,101,110,100,32,90,87,74,32,70,111,114,109,97,116,10,107,101,101,112,32,67,82,32,76,70,32,78,101,119,108,105,110,101,10,108,101,116,32,99,108,111,115,101,32,61,32,67,108,111,115,101,124,81,117,111,116,101,124,65,112,111,115,116,114,111,112,104,101,10,108,101,116,32,101,110,100,32,61,32,84,101,114,109,124,68,111,116,10,108,101,116,32,112,97,114,32,61,32,67,82,124,76,70,124,78,101,119,108,105,110,101,10,67,82,32,33,32,76,70,10,112,97,114,32,47,10,68,111,116,32,33,32,68,105,103,105,116,10,40,85,112,112,101,114,124,76,111,119,101,114,41,32,68,111,116,32,33,32,85,112,112,101,114,10,68,111,116,32,99,108,111,115,101,42,32,83,112,97,99,101,42,32,33,32,76,111,119,101,114,10,101,110,100,32,99,108,111,115,101,42,32,83,112,97,99,101,42,32,33,32,77,105,100,78,117,109,124,77,105,100,76,101,116,116,101,114,124,72,121,112,104,101,110,124,101,110,100,10,101,110,100,32,99,108,111,115,101,42,32,33,32,99,108,111,115,101,124,83,112,97,99,101,124,112,97,114,10,101,110,100,32,99,108,111,115,101,42,32,83,112,97,99,101,42,32,33,32,83,112,97,99,101,124,112,97,114,10,101,110,100,32,99,108,111,115,101,42,32,83,112,97,99,101,42,32,47,10,33,10]
def rI:List UInt8:=[105,103,110,111,114,101,32,69,120,116,101,110,100,32,90,87,74,32,70,111,114,109,97,116,10,107,101,101,112,32,67,82,32,76,70,32,78,101,119,108,105,110,101,32,83,112,97,99,101,32,71,97,112,10,108,101,116,32,97,108,32,61,32,79,116,104,101,114,124,85,112,112,101,114,124,76,111,119,101,114,124,76,101,116,116,101,114,124,68,105,103,105,116,124,74,111,105,110,101,114,124,80,114,101,112,101,110,100,10,108,101,116,32,112,97,114,32,61,32,67,82,124,76,70,124,78,101,119,108,105,110,101,10,67,82,32,33,32,76,70,10,112,97,114,32,47,10,33,32,112,97,114,10,33,32,83,112,97,99,101,124,71,97,112,10,71,97,112,32,83,112,97,99,101,42,32,47,10,33,32,71,108,117,101,10,71,108,117,101,32,33,10,33,32,67,108,111,115,101,124,84,101,114,109,124,77,105,100,78,117,109,124,77,105,100,76,101,116,116,101,114,124,68,111,116,10,79,112,101,110,32,83,112,97,99,101,42,32,33,10,33,32,81,117,111,116,101,124,65,112,111,115,116,114,111,112,104,101,10,81,117,111,116,101,124,65,112,111,115,116,114,111,112,104,101,32,33,10,83,112,97,99,101,32,47,10,33,32,72,121,112,104,101,110,10,72,121,112,104,101,110,32,33,32,68,105,103,105,116,10,97,108,32,33,32,97,108,10,97,108,32,33,32,79,112,101,110,10,67,108,111,115,101,32,33,32,97,108,10,40,77,105,100,78,117,109,124,68,111,116,124,77,105,100,76,101,116,116,101,114,41,32,33,32,68,105,103,105,116,10,76,32,33,32,76,124,86,124,76,86,124,76,86,84,10,76,86,124,86,32,33,32,86,124,84,10,76,86,84,124,84,32,33,32,84,10,75,97,116,97,107,97,110,97,32,33,32,75,97,116,97,107,97,110,97,10,94,32,40,82,101,103,105,111,110,97,108,32,82,101,103,105,111,110,97,108,41,42,32,82,101,103,105,111,110,97,108,32,33,32,82,101,103,105,111,110,97,108,10,126,82,101,103,105,111,110,97,108,32,40,82,101,103,105,111,110,97,108,32,82,101,103,105,111,110,97,108,41,42,32,82,101,103,105,111,110,97,108,32,33,32,82,101,103,105,111,110,97,108,10,47,10]
def gg:Nat->List UInt8
 |0=>zH
 |1=>zG
 |2=>zF
 |_=>rI
theorem B4:okK zH=true:=by decide +kernel
theorem B3:okK zG=true:=by decide +kernel
theorem B2:okK zF=true:=by decide +kernel
theorem B1:okK rI=true:=by decide +kernel
theorem zD:∀m,okK (gg m)=true
 |0=>B4
 |1=>B3
 |2=>B2
 |_+3=>B1
def oy(st:St):Bool:=(match st.ts with
 |(.mk 0 1 [],.mk 0 2 [],false)::(.mk 5 _ (.mk 0 1 [] :: .mk 0 2 [] :: .mk 0 3 []::_),.mk 9 _ [],true)::_=>true
 |_=>false)&&[1,2,3].all fun c=>!(cu st.li).testBit c&&((cu st.li==0)||(cu st.lk).testBit c)
theorem G1:oy (dw zH)=true:=by decide +kernel
theorem G0:oy (dw zG)=true:=by decide +kernel
theorem GZ:oy (dw zF)=true:=by decide +kernel
theorem GY:oy (dw rI)=true:=by decide +kernel
theorem uP:∀m,oy (dw (gg m))=true
 |0=>G1
 |1=>G0
 |2=>GZ
 |_+3=>GY
theorem yG:qK (dw rI).li (dw rI).lk [18,29,18] (dw rI).ts=[true,false,true,true]:=by decide +kernel
section
variable{t:TabM}
def oe(t:TabM)(e:En)(r:List Int)(j:Nat):En:=if j=0 then e else nth (iM t e r) (j-1)
theorem uK:∀(r:List Int) (e:En) (j:Nat),j<r.length->nth (iM t e r) j=(aG (nth r j),t.ig.testBit (aG (nth r j))&&((oe t e r j).2 || !(t.kp.testBit (oe t e r j).1)))
 |[],_,j,h=>absurd h (Je j)
 |c::r,e,0,_=>by rw[iM,ao,ao];rfl
 |c::r,e,j+1,h=>by
  have ih:=uK r (aG c,t.ig.testBit (aG c)&&(e.2 || !(t.kp.testBit e.1))) j (by simpa using h);rw[iM,aI,aI,ih];have hp:oe t (aG c,t.ig.testBit (aG c)&&(e.2 || !(t.kp.testBit e.1))) r j=oe t e (c::r) (j+1):=by
   unfold oe
   cases j with
   |zero=>rw[if_pos rfl,if_neg zd,iM];exact(ao _ _).symm
   |succ j=>rw[if_neg zo,if_neg zo,iM];exact(aI _ _ j).symm
  rw[hp]
end
theorem vB{x:En}(h:x.2=false)(r:List En):ee (x::r)=x.1::ee r:=by
 obtain⟨c,b⟩:=x;obtain rfl:b=false:=h;rfl
theorem jd{c:Int}{w:List Int}:Lg (.mk 0 c []) w↔w=[c]/\0<=c/\c<36:=by
 unfold Lg;simp only[if_neg (show¬((0:Int)=4) by decide),if_neg (show¬((0:Int)=5) by decide),if_neg (show¬((0:Int)=6) by decide),if_neg (show¬((0:Int)=7) by decide),if_neg (show¬((0:Int)=8) by decide),if_neg (show¬((0:Int)=9) by decide)]
 constructor
 ·rintro⟨m,rfl,h⟩;unfold bY at h;simp at h;obtain⟨h1,h2⟩:=h;subst h2;exact⟨rfl,h1⟩
 rintro⟨rfl,h⟩;exact⟨c,rfl,by unfold bY;simp;exact h⟩
theorem yo{st:St}(hE:oy st=true){a0 after:List Nat}{p c:Nat}{k:Int}(hp:p=1\/p=2\/p=3)(h:FirstR st.ts (a0++[p]) (c::after) k):brk st.ts k = !(decide (p=1/\c=2)):=by
 unfold oy at hE;rw[Ja]at hE;obtain⟨h1,_⟩:=hE
 split at h1
 ·rename_i cc r3 cc2 rest hts;rw[hts]at h ⊢;generalize hT:((JT 0 1 [],JT 0 2 [],false)::(JT 5 cc (JT 0 1 []::JT 0 2 []::JT 0 3 []::r3),JT 9 cc2 [],true)::rest:List R3)=T at h ⊢;have l0:nth (jQ T) 0=.mk 0 1 []:=by rw[<-hT];exact ao _ _
  have r0:nth (dU T) 0=.mk 0 2 []:=by rw[<-hT];exact ao _ _
  have l1:nth (jQ T) 1=.mk 5 cc (.mk 0 1 [] :: .mk 0 2 [] :: .mk 0 3 []::r3):=by rw[<-hT];exact(aI _ _ 0).trans (ao _ _)
  have r1:nth (dU T) 1=.mk 9 cc2 []:=by rw[<-hT];exact(aI _ _ 0).trans (ao _ _)
  have b0:(nth T 0).2.2=false:=by rw[<-hT,ao]
  have b1:(nth T 1).2.2=true:=by rw[<-hT,show nth (_::_::rest) 1=_ from(aI _ _ 0).trans (ao _ _)]
  have hl:2<=T.length:=by rw[<-hT];simp
  have a2:ints (a0++[p])=ints a0++[(p:Int)]:=by unfold ints;rw[List.map_append];rfl
  have a1:ints (c::after)=(c:Int)::ints after:=rfl;have A0:eI T (a0++[p]) (c::after) 0↔p=1/\c=2:=by
   unfold eI;rw[l0,r0,a2,a1]
   constructor
   ·rintro⟨_,⟨u,v,e1,g1⟩,⟨u',v',e2,g2⟩⟩;obtain⟨rfl,_⟩:=jd.1 g1;obtain⟨rfl,_⟩:=jd.1 g2;have e3:=(List.append_inj' e1 rfl).2;simp at e3 e2;omega
   rintro⟨rfl,rfl⟩;exact⟨zo,⟨ints a0,[1],rfl,jd.2 ⟨rfl,zd⟩⟩,⟨[2],ints after,rfl,jd.2 ⟨rfl,zd⟩⟩⟩
  have A1:eI T (a0++[p]) (c::after) 1:=by
   unfold eI;rw[l1,r1,a2,a1];refine⟨zo,⟨ints a0,[(p:Int)],rfl,?_⟩,⟨[],_,rfl,?_⟩⟩
   ·unfold Lg;rw[if_neg zd,if_pos rfl];unfold LgA
    rcases hp with rfl|rfl|rfl
    ·exact .inl (jd.2 ⟨rfl,zd⟩)
    ·refine .inr ?_;unfold LgA;exact .inl (jd.2 ⟨rfl,zd⟩)
    refine .inr ?_;unfold LgA;refine .inr ?_
    unfold LgA;exact .inl (jd.2 ⟨rfl,zd⟩)
   unfold Lg;rw[if_neg zd,if_neg zd,if_neg zd,if_neg zd,if_neg zd,if_pos rfl]
  by_cases hA:p=1/\c=2
  ·have hk:k=0:=h.uniq (.inr ⟨0,rfl,A0.2 hA,fun j hj=>absurd hj (Je j)⟩);rw[hk,decide_eq_true hA];unfold brk;rw[show(0:Int).toNat=0 from rfl,b0];rfl
  have hk:k=(1:Nat):=h.uniq (.inr ⟨1,rfl,A1,fun j hj=>by
   obtain rfl:j=0:=zo
   exact fun e=>hA (A0.1 e)⟩)
  rw[hk,decide_eq_false hA];unfold brk;rw[Int.toNat_natCast,b1,Bool.or_true];rfl
 cases h1
theorem CJ{st:St}(hE:oy st=true){p:Nat}(hp:p=1\/p=2\/p=3):(cu st.li).testBit p=false/\∀c,((cu st.li).testBit c && !((cu st.lk).testBit p))=false:=by
 unfold oy at hE;rw[Ja]at hE;have h2:=K1.1 hE.2 p (by simp;exact hp);rw[Ja,Bool.not_eq_true',Bool.or_eq_true]at h2;refine⟨h2.1,fun c=>?_⟩
 rcases h2.2 with h3|h3
 ·rw[eq_of_beq h3,Nat.zero_testBit,Bool.false_and]
 rw[h3];simp
theorem lj{x:Int}{p:Nat}(hp:p=1\/p=2\/p=3):aG x=p↔x=p:=by
 unfold aG
 split
 ·omega
 omega
theorem Made.ends{st:St}{a b:List (List Nat)×List Nat}{a2 a1:Nat->Nat}(h:Made st.li st.lk st.ts a b a2 a1)(hE:oy st=true)(a0:List Int)(hn:a0.length<=100000){i:Nat}(hi:0<i)(b1:i<a0.length){p:Nat}(hp:p=1\/p=2\/p=3)(a4:nth a0 (i-1)=p):
  nth (eW (bz st.li st.lk st.ts a b a2 a1) a0) i = !(decide (p=1/\nth a0 i=2)):=by
 cases a0 with
 |nil=>exact absurd b1 (Je i)
 |cons c r=>
  obtain⟨j,rfl⟩:∃j,i=j+1:=⟨i-1,zo⟩
  have hj:j<r.length:=by simpa using b1
  rw[Jk]at a4;have a6:=h.row c;obtain⟨w1,w2⟩:=gq (bz st.li st.lk st.ts a b a2 a1) c r;have a9:(bz st.li st.lk st.ts a b a2 a1).ig=cu st.li:=rfl;have b0:(bz st.li st.lk st.ts a b a2 a1).kp=cu st.lk:=rfl;unfold eW;rw[w1,w2,a6];obtain⟨t,ht⟩:∃t,t=bz st.li st.lk st.ts a b a2 a1:=⟨_,rfl⟩
  rw[<-ht]at a9 b0 ⊢;obtain⟨e0,a'⟩:∃e:En,e=(aG c,false):=⟨_,rfl⟩
  rw[<-a'];have hL:=iu t r e0;have a7:=uJ t r e0;obtain⟨g1,g2⟩:=CJ hE hp;have a3:(oe t e0 r j).1=p/\(oe t e0 r j).2=false:=by
   unfold oe
   cases j with
   |zero=>
    rw[if_pos rfl,a'];rw[ao]at a4;exact⟨(lj hp).2 a4,rfl⟩
   |succ j=>
    rw[if_neg zo,Jk,uK r e0 j zo];rw[aI]at a4;have hc:=(lj hp).2 a4;rw[hc,a9,g1];exact⟨rfl,rfl⟩
  have a5:=uK (t:=t) r e0 j hj;rw[a3.1,a3.2,Bool.false_or,a9,b0,g2]at a5
  obtain⟨k,hk,hv⟩:=h.closeL (iM t e0 r) [36,aG c] (fun m hm=>by
   simp only[I7,J9,or_false]at hm
   rcases hm with rfl|rfl
   ·decide
   have:=fy c;omega) a7 (by rw[hL];simp at hn;omega) j (by rw[hL];exact hj)
  rw[<-ht]at hv;have a8:j<(iM t e0 r).length:=by rw[hL];exact hj
  have b3:∃X,[36,aG c]++ee ((iM t e0 r).take j)=X++[p]:=by
   cases j with
   |zero=>
    refine⟨[36],?_⟩;have h1:=a3.1;unfold oe at h1;rw[if_pos rfl,a']at h1;have h1:aG c=p:=h1;rw[List.take_zero,h1];rfl
   |succ j=>
    have h1:=a3.1;have h2:=a3.2;unfold oe at h1 h2;rw[if_neg zo,Jk]at h1 h2;rw[aM zo,ml,vB h2,h1];exact⟨[36,aG c]++ee ((iM t e0 r).take j),by rw[JW];rfl⟩
  obtain⟨X,hX⟩:=b3;have b2:ee ((iM t e0 r).drop j)=aG (nth r j)::ee ((iM t e0 r).drop (j+1)):=by
   rw[List.drop_eq_getElem_cons a8,<-aC a8,vB (by rw[a5]),a5]
  rw[hX,b2]at hk;rw[List.cons_append,aI,aA,if_pos (by rw[fx];exact a8),hv,a5,yo hE hp hk,aI];show(true&&_)=_;rw[Bool.true_and];congr 1;exact decide_eq_decide.2 (and_congr_right fun _=>lj (.inr (.inl rfl)))
theorem gK(q:Addr)(x:Int)(w:ln)(hc:w.cell? q=some (.int .u32 x)):Jm IP 53 [.pointer (some q)] w fun v w'=>v=.bool (!(decide (x=0)))/\w=w':=by
 refine I0 func53 ntmps53 rfl rfl ?_;refine zh ?_
 refine zvH (JE (vs:=[.pointer (some q)]) (run_call_load func85 zk zk zk .u32 zk hc) rfl) ?_;refine ae rfl rfl (⟨rfl,rfl⟩)
theorem Fa(w:ln):Jm IP 127 [.bool true] w fun v w'=>v=.int .u32 1/\w'=w:=by
 refine I0 func127 ntmps127 rfl rfl ?_;refine zh ?_
 refine zTH rfl rfl ?_;refine ae rfl rfl (⟨rfl,rfl⟩)
theorem qM(O:Nat->Nat)(i b j:Nat)(cs:Array I1)(T:JI)(x:I1)(w:ln)(hb:J0 O w i b cs T)(hj:cs[j]? = some x):
  Jm IP 88 [.pointer (some ⟨b,j,none⟩),.bool true] w (fun _ w'=>w'=w.drew.setCell ⟨b,j,none⟩ (.int .u32 1))/\G9 IP 88 [.pointer (some ⟨b,j,none⟩),.bool true] w (fun _ w'=>w'=w.drew.setCell ⟨b,j,none⟩ (.int .u32 1)):=by
 have hc:=hb.drew.cell j hj;have hf:w.drew.frozen? ⟨b,j,none⟩=false:=by simp[Jw,hb.drew.blk]
 refine Ki func88 ntmps88 rfl rfl ?_;refine J2 5 rfl rfl zk zk ?_
 refine zh ?_;refine WS.call call127 rfl (Fa _) rfl ?_
 refine Jj ?_;refine Kp (vs:=[.pointer (some ⟨b,j,none⟩),.int .u32 1]) (run_call_store func126 zk zk zk zk hc hf) rfl rfl ?_
 refine zh ?_;exact aD rfl rfl
theorem Ao:(prog.info? 71).map (fun i=>decide (i.size=0))=some false:=by kernel_rfl
theorem yh(O:Nat->Nat)(i b j:Nat)(cs:Array I1)(T:JI)(w:ln)(hb:J0 O w i b cs T)(hj:cs[j]? = some (.int .i32 0)):
  Jm IP 124 [.pointer (some ⟨b,j,none⟩)] w fun _ w'=>w'=w.setCell ⟨b,j,none⟩ (.int .i32 1):=by
 have hc:=hb.cell j hj;have hf:w.frozen? ⟨b,j,none⟩=false:=by simp[Jw,hb.blk]
 have a0:j<cs.size:=(Array.getElem?_eq_some_iff.1 hj).1;have a1:(w.setCell ⟨b,j,none⟩ (.int .i32 1)).cell? ⟨b,j,none⟩=some (.int .i32 1):=(hb.set j (.int .i32 1)).cell j (by simp[a0]);refine I0 func124 ntmps124 rfl rfl ?_;refine zh ?_;refine zvH (JE (vs:=[]) (run_call_mark0 func167 zk zk zk .disable zk _) rfl) ?_;refine Kp (vs:=[.pointer (some ⟨b,j,none⟩),.int .i32 0,.int .i32 1]) (run_call_cas_hit func168 zk zk zk .i32 zk hc hf) rfl rfl ?_;refine zh ?_;refine zTH rfl rfl ?_;refine zTH rfl rfl ?_;refine zvH (JE (vs:=[]) (run_call_mark0 func169 zk zk zk .enable zk _) rfl) ?_;refine zv (xC (run_convert_to_unsafe Ko Km Ao a1) rfl) ?_;refine zvH (JE (vs:=[.pointer (some ⟨b,j,none⟩)]) (run_call_marked func170 zk zk zk .acquire zk _ _) rfl) ?_;exact bR rfl rfl
theorem xM(O:Nat->Nat)(i b j:Nat)(cs:Array I1)(T:JI)(w:ln)(hb:J0 O w i b cs T)(hj:cs[j]? = some (.int .i32 0)):
  Jm IP 86 [.pointer (some ⟨b,j,none⟩)] w fun _ w'=>w'=w.setCell ⟨b,j,none⟩ (.int .i32 1):=by
 refine I0 func86 ntmps86 rfl rfl ?_;refine zh ?_
 refine zc call124 (yh O i b j cs T w hb hj) ?_;rintro v w' rfl;refine zh ?_
 exact aD rfl rfl
theorem sJ(O:Nat->Nat)(i b j:Nat)(cs:Array I1)(T:JI)(w:ln)(hb:J0 O w i b cs T)(hj:cs[j]? = some (.int .i32 1)):
  Jm IP 125 [.pointer (some ⟨b,j,none⟩)] w fun _ w'=>w'=w.setCell ⟨b,j,none⟩ (.int .i32 0):=by
 have hc:=hb.cell j hj;have hf:w.frozen? ⟨b,j,none⟩=false:=by simp[Jw,hb.blk]
 refine I0 func125 ntmps125 rfl rfl ?_;refine zg ?_
 refine zTG rfl rfl ?_;refine zvG (RV.ld hc rfl) ?_
 refine zv (xC (run_convert_to_unsafe Ko Km Ao hc) rfl) ?_;refine zvG (JE (vs:=[.pointer (some ⟨b,j,none⟩)]) (run_call_marked func172 zk zk zk .releaseMerge zk _ _) rfl) ?_
 refine zvG (JE (vs:=[]) (run_call_mark0 func167 zk zk zk .disable zk _) rfl) ?_;refine Kp (vs:=[.pointer (some ⟨b,j,none⟩),.int .i32 (-1)]) (run_call_add func173 zk zk zk .i32 zk (s:=0) hc hf rfl) rfl rfl ?_
 refine zg ?_;refine zFG rfl rfl ?_
 refine zvG (JE (vs:=[]) (run_call_mark0 func169 zk zk zk .enable zk _) rfl) ?_;exact aD rfl rfl
theorem rG(O:Nat->Nat)(i b j:Nat)(cs:Array I1)(T:JI)(w:ln)(hb:J0 O w i b cs T)(hj:cs[j]? = some (.int .i32 1)):
  Jm IP 87 [.pointer (some ⟨b,j,none⟩)] w (fun _ w'=>w'=w.setCell ⟨b,j,none⟩ (.int .i32 0))/\G9 IP 87 [.pointer (some ⟨b,j,none⟩)] w (fun _ w'=>w'=w.setCell ⟨b,j,none⟩ (.int .i32 0)):=by
 refine Ki func87 ntmps87 rfl rfl ?_;refine zh ?_
 refine zc call125 (sJ O i b j cs T w hb hj) ?_;rintro v w' rfl;refine zh ?_
 exact aD rfl rfl
theorem uQ(O:Nat->Nat)(i b o:Nat)(cs:Array I1)(T:JI)(w:ln)(hi:i≠0)(hb:J0 O w i b cs T)(h0:cs[o]? = some (.int .u32 0))(h1:cs[o+1]? = some (.int .i32 0))(g:FuncId)(fs:List I1)(c0:Array I1) 
  (hg:∀(args:Array I1) (w:ln),(callFunc g args).run IP w=.ok (.enter g args) w) (K:(Nat->Nat)->ln->Array I1->Prop)
  (hf:∀W,J0 O W i b (cs.setIfInBounds (o+1) (.int .i32 1)) T->IK (fun k=>k=i) O w O W->Jm IP g (fs++c0.toList) W fun _ W'=>∃O' cs',J0 O' W' i b cs' T/\o+1<cs'.size/\cs'[o+1]? = some (.int .i32 1)/\K O' W' cs') :
  Jm IP 54 [.pointer (some ⟨b,o,none⟩),.func (.func g) fs.toArray c0] w fun _ w'=>∃O' W' cs',J0 O' W' i b cs' T/\K O' W' cs'/\w'=(W'.drew.setCell ⟨b,o,none⟩ (.int .u32 1)).setCell ⟨b,o+1,none⟩ (.int .i32 0):=by
 have hz:¬(fun k=>k=i) 0:=fun e=>hi e.symm
 refine lz func54 ntmps54 rfl rfl ?_;refine Kc ?_
 refine Jn (by first|exact .inl rfl|exact .inr rfl) (fun _ _ h=>h) ?_;refine zh ?_
 refine zc call86 (xM O i b (o+1) cs T w hb h1) ?_;rintro v w1 rfl;have a2:=hb.set (o+1) (.int .i32 1);have a4:IK (fun k=>k=i) O w O (w.setCell ⟨b,o+1,none⟩ (.int .i32 1)):=I9 hz hb.tag rfl;have a7:(cs.setIfInBounds (o+1) (.int .i32 1))[o]? = some (.int .u32 0):=by rw[I2 zo];exact h0
 generalize w.setCell ⟨b,o+1,none⟩ (.int .i32 1)=w1 at *;refine zh ?_;refine KE ?_;refine aN ?_;refine Kc ?_;refine Jn (by first|exact .inl rfl|exact .inr rfl) (fun _ _ h=>h) ?_;refine zh ?_;refine lO rfl ?_;refine aN ?_;refine Kc ?_;refine Jn (by first|exact .inl rfl|exact .inr rfl) (fun _ _ h=>h) ?_;refine zh ?_;refine zc KI (gK ⟨b,o,none⟩ 0 w1 (a2.cell o a7)) ?_;rintro v _ ⟨rfl,rfl⟩;refine zh ?_;refine KE ?_;refine aN ?_;refine mB rfl (rfl) ?_;refine Kc ?_;refine Jn (by first|exact .inl rfl|exact .inr rfl) (fun _ _ h=>h) ?_;refine zh ?_;refine lO rfl ?_;refine aN ?_;refine Jn (by first|exact .inl rfl|exact .inr rfl) (fun _ _ h=>h) ?_;refine zh ?_;refine Bs (fs:=fs) (cs:=c0) rfl hg rfl (by simpa using hf w1 a2 a4) rfl ?_;rintro v w2 ⟨O2,a0,a1,a8,a5,hK⟩;refine zh ?_;refine KE ?_;have a6:a0[o]? = some (a0[o]'(zo)):=Array.getElem?_eq_getElem _;refine Fl (Kh call88 (qM O2 i b o a0 T _ w2 a1 a6).2 ?_);rintro v w3 rfl;have a3:=a1.drew.set o (.int .u32 1);refine Kh call87 (rG O2 i b (o+1) _ T _ a3 (by rw[I2 zo];exact a5)).2 ?_;rintro v w4 rfl;exact ju rfl ⟨O2,w2,a0,a1,hK,rfl⟩
theorem ue(O:Nat->Nat)(i b o:Nat)(cs:Array I1)(T:JI)(w:ln)(hi:i≠0)(hb:J0 O w i b cs T)(h0:cs[o]? = some (.int .u32 0))(h1:cs[o+1]? = some (.int .i32 0))(g:FuncId)(fs:List I1)(c0:Array I1) 
  (hg:∀(args:Array I1) (w:ln),(callFunc g args).run IP w=.ok (.enter g args) w) (K:(Nat->Nat)->ln->Array I1->Prop)
  (hf:∀W,J0 O W i b (cs.setIfInBounds (o+1) (.int .i32 1)) T->IK (fun k=>k=i) O w O W->Jm IP g (fs++c0.toList) W fun _ W'=>∃O' cs',J0 O' W' i b cs' T/\o+1<cs'.size/\cs'[o+1]? = some (.int .i32 1)/\K O' W' cs') :
  Jm IP 26 [.pointer (some ⟨b,o,none⟩),.func (.func g) fs.toArray c0] w fun _ w'=>∃O' W' cs',J0 O' W' i b cs' T/\K O' W' cs'/\w'=(W'.drew.setCell ⟨b,o,none⟩ (.int .u32 1)).setCell ⟨b,o+1,none⟩ (.int .i32 0):=by
 refine I0 func26 ntmps26 rfl rfl ?_;refine zh ?_
 refine zc KI (gK ⟨b,o,none⟩ 0 w (hb.cell o h0)) ?_;rintro v _ ⟨rfl,rfl⟩;refine zh ?_
 refine zTH rfl rfl ?_;refine zc call54 (uQ O i b o cs T w hi hb h0 h1 g fs c0 hg K hf) ?_
 rintro v w' h;refine zh ?_;exact aD rfl h
theorem uf(b o:Nat)(w:ln)(hc:w.cell? ⟨b,o,none⟩=some (.int .u32 1))(f:I1):Jm IP 26 [.pointer (some ⟨b,o,none⟩),f] w fun _ w'=>w'=w:=by
 refine I0 func26 ntmps26 rfl rfl ?_;refine zh ?_
 refine zc KI (gK ⟨b,o,none⟩ 1 w hc) ?_;rintro v _ ⟨rfl,rfl⟩;refine zh ?_
 refine zFH rfl rfl ?_;exact aD rfl rfl
theorem sL(w:ln):Jm IP 38 [] w fun v w'=>v=.string (bs zH)/\w'=w:=by
 refine I0 func38 ntmps38 rfl rfl ?_;refine zh ?_
 refine ae rfl rfl (⟨rfl,rfl⟩)
theorem yS(w:ln):Jm IP 39 [] w fun v w'=>v=.string (bs zG)/\w'=w:=by
 refine I0 func39 ntmps39 rfl rfl ?_;refine zh ?_
 refine ae rfl rfl (⟨rfl,rfl⟩)
theorem rK(w:ln):Jm IP 40 [] w fun v w'=>v=.string (bs zF)/\w'=w:=by
 refine I0 func40 ntmps40 rfl rfl ?_;refine zh ?_
 refine ae rfl rfl (⟨rfl,rfl⟩)
theorem Av(w:ln):Jm IP 41 [] w fun v w'=>v=.string (bs rI)/\w'=w:=by
 refine I0 func41 ntmps41 rfl rfl ?_;refine zh ?_
 refine ae rfl rfl (⟨rfl,rfl⟩)
theorem xN(m:Int)(w:ln):Jm IP 25 [nI m] w fun v w'=>v=.bool (decide (0<=m)&&decide (m<4))/\w'=w:=by
 refine I0 func25 ntmps25 rfl rfl ?_;refine zh ?_
 refine bK (fun w1=>_=w1) (decide (m<4)) 2 (rfl) rfl rfl rfl rfl rfl ?_ ?_
 ·intro a1;refine zh ?_;refine nE 5 3 (rfl) a1
 rintro _ rfl;refine zh ?_;refine ae rfl rfl (⟨rfl,rfl⟩)
def tN(m:Int):List UInt8:=if m=0 then zH else if m=1 then zG else if m=2 then zF else if m=3 then rI else []
theorem zE:∀ {m:Nat},m<4->tN m=gg m
 |0,_=>rfl
 |1,_=>rfl
 |2,_=>rfl
 |3,_=>rfl
theorem rH(m:Int)(w:ln):Jm IP 16 [nI m] w fun v w'=>v=.string (bs (tN m))/\w'=w:=by
 refine I0 func16 ntmps16 rfl rfl ?_;refine zh ?_
 by_cases h0:m=0
 ·refine zTH rfl ((by rw[h0];rfl)) ?_;refine zc call38 (sL w) ?_
  rintro v w9 ⟨rfl,a0⟩;rw[a0];clear a0 w9;refine zh ?_;refine ae rfl rfl (⟨by unfold tN;rw[if_pos h0],rfl⟩)
 refine zFH rfl ((beq_eq_false_iff_ne.2 h0)) ?_
 by_cases h1:m=1
 ·refine zTH rfl ((by rw[h1];rfl)) ?_;refine zc call39 (yS w) ?_
  rintro v w9 ⟨rfl,a0⟩;rw[a0];clear a0 w9;refine zh ?_;refine ae rfl rfl (⟨by unfold tN;rw[if_neg h0,if_pos h1],rfl⟩)
 refine zFH rfl ((beq_eq_false_iff_ne.2 h1)) ?_
 by_cases h2:m=2
 ·refine zTH rfl ((by rw[h2];rfl)) ?_;refine zc call40 (rK w) ?_
  rintro v w9 ⟨rfl,a0⟩;rw[a0];clear a0 w9;refine zh ?_;refine ae rfl rfl (⟨by unfold tN;rw[if_neg h0,if_neg h1,if_pos h2],rfl⟩)
 refine zFH rfl ((beq_eq_false_iff_ne.2 h2)) ?_
 by_cases h3:m=3
 ·refine zTH rfl ((by rw[h3];rfl)) ?_;refine zc call41 (Av w) ?_
  rintro v w9 ⟨rfl,a0⟩;rw[a0];clear a0 w9;refine zh ?_;refine ae rfl rfl (⟨by unfold tN;rw[if_neg h0,if_neg h1,if_neg h2,if_pos h3],rfl⟩)
 refine zFH rfl ((beq_eq_false_iff_ne.2 h3)) ?_;refine ae rfl rfl (⟨by unfold tN;rw[if_neg h0,if_neg h1,if_neg h2,if_neg h3];rfl,rfl⟩)
def Keeps(O:Nat->Nat)(w:ln)(P:ln->Prop):Prop:=∀(S:Nat->Prop) (O':Nat->Nat) (w':ln),IK S O w O' w'->P w'
theorem Keeps.now{O:Nat->Nat}{w:ln}{P:ln->Prop}(h:Keeps O w P):P w:=h (fun _=>False) O w (Jh (fun h=>h) O w)
theorem Keeps.upd{O O':Nat->Nat}{w w':ln}{P:ln->Prop}{S:Nat->Prop}(h:Keeps O w P)(u:IK S O w O' w'):Keeps O' w' P:=fun S' O2 w2 v=>
 h (fun q=>S q\/S' q) O2 w2 ((u.mono (fun _ h=>.inl h) (fun e=>e.elim u.z v.z)).trans (v.mono (fun _ h=>.inr h) (fun e=>e.elim u.z v.z)))
def TabS(O:Nat->Nat)(w:ln)(m:Nat)(a0:List I1):Prop:=
 a0.length=17/\a0.all IG=true/\∃(e:Int) (B0:Nat),Keeps O w fun W=>Js B0 W (.tuple #[.agg a0.toArray,nI e]) (dw (gg m)).li (dw (gg m)).lk (dw (gg m)).ts
theorem TabS.upd{O O':Nat->Nat}{w w':ln}{m:Nat}{a0:List I1}{S:Nat->Prop}(h:TabS O w m a0)(u:IK S O w O' w'):TabS O' w' m a0:=by
 obtain⟨h1,h2,e,B0,h3⟩:=h;exact⟨h1,h2,e,B0,h3.upd u⟩
structure ShO(O:Nat->Nat)(w:ln)(i b:Nat)(cs:Array I1):Prop where
 blk:J0 O w i b cs 80
 size:cs.size=80
 place:∀m,m<4->(cs[m*20]? = some (.int .u32 0)/\cs[m*20+1]? = some (.int .i32 0))\/(cs[m*20]? = some (.int .u32 1)/\∃tcs,TabS O w m tcs/\∀j u,tcs[j]? = some u->cs[m*20+3+j]? = some u)
theorem ShO.upd{O O':Nat->Nat}{w w':ln}{i b:Nat}{cs:Array I1}{S:Nat->Prop}(h:ShO O w i b cs)(u:IK S O w O' w')(hi:i≠0)(hS:¬S i):ShO O' w' i b cs:=
 ⟨h.blk.upd u hi hS,h.size,fun m hm=>(h.place m hm).imp id fun⟨h1,a0,h2,h3⟩=>⟨h1,a0,h2.upd u,h3⟩⟩
theorem xL{l us:List I1}{off j:Nat}(h:off+us.length<=l.length):(l.take off++us++l.drop (off+us.length))[j]? = if j<off then l[j]? else if j<off+us.length then us[j-off]? else l[j]?:=by
 have ht:(l.take off).length=off:=by rw[List.length_take];omega
 by_cases h1:j<off
 ·rw[if_pos h1,JW,JA zo,List.getElem?_take,if_pos h1]
 rw[if_neg h1]
 by_cases h2:j<off+us.length
 ·rw[if_pos h2,JA (by rw[IJ];omega),Ju zo,ht]
 rw[if_neg h2,Ju (by rw[IJ];omega),IJ,ht,List.getElem?_drop];congr 1;omega
theorem Iy:cF IP 80 #[(0,80)]:=⟨_,underlying80,fun w=>by kernel_rfl⟩
theorem lB(B:Nat)(O:Nat->Nat)(w:ln)(i:Nat)(hi:i≠0)(hR:JG B O w):Jm IP 8 [] w fun v w'=>∃b O' cs,v=nP b/\ShO O' w' i b cs/\IK (fun q=>q=i) O w O' w'/\JG B O' w'/\KH w w':=by
 refine I0 func8 ntmps8 rfl rfl ?_;refine zh ?_
 refine zv (aF Iy (zeroValue80 _) rfl (by first|rfl|(simp only[IZ,Jd];rfl)) rfl rfl) ?_;refine aH hR i zo rfl rfl ?_
 intro xb w1 O1 a0 a1 a2 a3;refine zh ?_;refine ae rfl rfl (⟨xb,O1,_,rfl,⟨a0,rfl,fun m hm=>.inl ?_⟩,a1,a2,a3⟩);obtain rfl|rfl|rfl|rfl:m=0\/m=1\/m=2\/m=3:=zo
 ·exact⟨rfl,rfl⟩
 ·exact⟨rfl,rfl⟩
 ·exact⟨rfl,rfl⟩
 exact⟨rfl,rfl⟩
theorem qP(b n k:Nat):(⟨b,n,none⟩:Addr).add k=⟨b,n+k,none⟩:=by
 unfold K7
 split
 ·rename_i e;subst e;rfl
 rfl
def tt(cs:Array I1)(o:Nat)(a0:List I1):Array I1:=(cs.toList.take (o+3)++a0.toArray.toList++cs.toList.drop (o+3+a0.toArray.size)).toArray
theorem vM{cs:Array I1}{o:Nat}{a0:List I1}(h:o+3+a0.length<=cs.size)(j:Nat):(tt cs o a0)[j]? = if j<o+3 then cs[j]? else if j<o+3+a0.length then a0[j-(o+3)]? else cs[j]?:=by
 unfold tt;rw[List.getElem?_toArray];have:=xL (l:=cs.toList) (us:=a0) (off:=o+3) (j:=j) (by simpa using h);simpa using this
theorem rU{cs:Array I1}{o:Nat}{a0:List I1}(h:o+3+a0.length<=cs.size):(tt cs o a0).size=cs.size:=by
 unfold tt;simp;omega
theorem tI(m:Nat)(hm:m<4)(B:Nat)(O O0:Nat->Nat)(w:ln)(i b pb mb ip im o:Nat)(ho:o=m*20)(cs:Array I1)(hR:JG B O w)(b6:JG B O0 w)(hi:i≠0)(a9:ip≠0/\ip≠i)(a':im≠0/\im≠i)(hb:J0 O w i b cs 80)(b9:cs.size=80) 
  (b4:J0 O w im mb #[nI (m:Nat)] 36) (b3:J0 O w ip pb #[.pointer (some ⟨b,o,none⟩)] 82) :
  Jm IP 27 [nP mb,nP pb] w fun _ w'=>∃a0 e W0,a0.length=17/\a0.all IG=true/\J0 O w' i b (tt cs o a0) 80/\IK (fun q=>q=i) O w O w'/\JG B O W0/\JG B O0 W0/\Js W0.heap.size w' (.tuple #[.agg a0.toArray,nI e]) (dw (gg m)).li (dw (gg m)).lk (dw (gg m)).ts:=by
 have hz:¬(fun q=>q=i) 0:=fun e=>hi e.symm
 have kE:∀W,IK (fun q=>q=i) O w O W->W.cell? ⟨mb,0,none⟩=some (nI (m:Nat))/\W.cell? ⟨pb,0,none⟩=some (.pointer (some ⟨b,o,none⟩)):=fun W u=>⟨(b4.upd u a'.1 a'.2).cell 0 rfl,(b3.upd u a9.1 a9.2).cell 0 rfl⟩
 have a7:IK (fun q=>q=i) O w O w.drew:=(Jh hz O w).drew;have a2:∀m,m<4->(gg m).length<=1000000000:=fun m hm=>by
  obtain rfl|rfl|rfl|rfl:m=0\/m=1\/m=2\/m=3:=zo
  ·decide +kernel
  ·decide +kernel
  ·decide +kernel
  decide +kernel
 refine I0 func27 ntmps27 rfl rfl ?_;refine aK (fun W=>W.cell? ⟨mb,0,none⟩=some (nI (m:Nat))/\W.cell? ⟨pb,0,none⟩=some (.pointer (some ⟨b,o,none⟩))) 11 rfl zk ?_
 refine zin (kE _ a7) fun zS=>?_
 refine zt 0 rfl zS (fun w1 a1=>RV.ld (by first|exact a1.1|exact a1.2) rfl) ?_;refine zt 1 rfl zS (fun w1 a1=>RV.ld (by first|exact a1.1|exact a1.2) rfl) ?_
 refine IE 2 zk rfl ?_;refine zc call16 (rH (m:Nat) w.drew) ?_
 rintro v w9 ⟨rfl,a8⟩;rw[a8,zE hm];clear a8 w9;refine zh ?_;refine af ((kE _ a7)) ?_;refine IE 3 zk rfl ?_;refine zc call28 (nV (gg m) w.drew (a2 m hm)) ?_;rintro v w2 ⟨b7,hP⟩;rw[(C6 (zD m)).1]at hP;obtain⟨a0,e,rfl,hC⟩:=hP;have b2:a0.length=17/\a0.all IG=true:=by
  obtain⟨b',e',h1,h2,h3⟩:=hC.shape;simp only[JC,JU,JL,JK,JJ,and_true,true_and]at h1;rw[h1.1];exact⟨h2,h3⟩
 obtain⟨a3,b0⟩:=b2;have b1:IK (fun _=>False) O w.drew O w2:=aa (fun h=>h) O b7;have a6:=a7.trans (b1.mono (fun _ h=>h.elim) hz);have a4:=hb.drew.upd b1 hi (fun h=>h);refine zh ?_;refine zaf ((kE _ a6)) fun zS=>?_
 refine zrm 4 rfl zS rfl ?_;refine zr 5 rfl zS (fun _=>IT rfl rfl) ?_
 refine zr 6 rfl zS (fun _=>IT rfl rfl) ?_;refine zr 7 rfl zS (fun _=>IT rfl rfl) ?_
 refine zr 8 rfl zS (fun _=>ak rfl) ?_;refine zrf 9 rfl zS rfl ?_
 refine IE 10 zk rfl ?_;refine dr (us:=a0.toArray) (o+3) (tt cs o a0) a4 rfl (by simp only[List.size_toArray,a3];omega) (by rw[show a0.toArray.size=17 from by simpa using a3];exact IF _) (by simpa using b0) rfl rfl rfl ?_
 have b5:J0 O (w2.setRow b (tt cs o a0)) i b (tt cs o a0) 80:=a4.setRow;have a5:IK (fun q=>q=i) O w2 O (w2.setRow b (tt cs o a0)):=I4 hz a4.tag rfl;have b8:=hC.upd hR.drew a5;refine zh ?_;refine af ((kE _ (a6.trans a5))) ?_;refine IW zk ?_;exact aD rfl ⟨a0,e,w.drew,a3,b0,b5,a6.trans a5,hR.drew,b6.drew,b8⟩
set_option maxHeartbeats 1000000 in
theorem iH(m:Nat)(hm:m<4)(B:Nat)(O:Nat->Nat)(w:ln)(i b:Nat)(cs:Array I1)(hR:JG B O w)(hi:i≠0)(h:ShO O w i b cs):
  Jm IP 9 [nP b,nI (m:Nat)] w fun v w'=>∃a5 a0,v=.tuple #[.agg a0.toArray,.bool true]/\ShO O w' i b a5/\TabS O w' m a0/\IK (fun q=>q=i) O w O w':=by
 obtain⟨T,h7,hT⟩:=hR.bound;have h6:i<T:=by rw[<-h.blk.tag];exact hT b
 have a6:¬(fun q:Nat=>q=i\/T<=q) 0:=fun e=>by rcases e with e|e<;>omega
 have b7:¬(fun q:Nat=>q=i) 0:=fun e=>hi e.symm
 refine I0 func9 ntmps9 rfl rfl ?_;refine zh ?_
 refine aH hR T zo rfl rfl ?_;intro mb w1 O1 f5 e7 h4 h';refine au h4 (T+1) zo (Jc _) rfl ?_
 intro rb w2 O2 f3 d7 h3 h9;have c9:=f5.upd d7 zo zo;have d3:IK (fun q=>q=i\/T<=q) O w O2 w2:=(e7.mono (fun _ h=>.inr (by rw[h];exact JO _)) a6).trans (d7.mono (fun _ h=>.inr (by rw[h];omega)) a6);have c0:w2.cell? ⟨mb,0,none⟩=some (nI (m:Nat)):=c9.cell 0 rfl;refine zh ?_;refine zvH (ed underlying33 rfl rfl) ?_;refine aw (d:=9) rfl (b':=false) (rfl) ?_;refine zh ?_;refine zc call25 (xN (m:Nat) w2) ?_;rintro v w9 ⟨rfl,b3⟩;rw[b3,show(decide ((0:Int)<=(m:Nat))&&decide (((m:Nat):Int)<4))=true from by rw[decide_eq_true zo,decide_eq_true zo];rfl];clear b3 w9;refine zh ?_;refine aT rfl rfl ?_;have kE:∀O3 W,IK (fun q=>q=T+2) O2 w2 O3 W->W.cell? ⟨mb,0,none⟩=some (nI (m:Nat)):=fun O3 W u=>(c9.upd u zo zo).cell 0 rfl
 have e4:IK (fun q=>q=T+2) O2 w2 O2 w2.drew:=(Jh zo O2 w2).drew;refine zh ?_;refine aK (fun W=>W.cell? ⟨mb,0,none⟩=some (nI (m:Nat))) 7 rfl zk ?_;refine zin (kE _ _ e4) fun zS=>?_
 refine zrm 0 rfl zS rfl ?_;refine zt 1 rfl zS (fun w1 e9=>RV.ld e9 rfl) ?_
 refine zr 2 rfl zS (fun _=>ak rfl) ?_;refine zrf 3 rfl zS rfl ?_
 refine zr 4 rfl zS (fun _=>kC underlying78 (sizeOf77 _) rfl rfl m rfl hm) ?_;refine IE 5 zk rfl ?_
 refine au h3.drew (T+2) zo (zeroValue82 _) rfl ?_;intro pb w4 O5 c7 f' g' h8;rw[show K7 (K7 ⟨b,0,none⟩ 0) (m*20)=⟨b,m*20,none⟩from by rw[qP,qP];simp];have b4:=e4.trans f';refine zh ?_
 refine af ((kE _ _ b4)) ?_;refine IE 6 zk rfl ?_
 refine aj (j:=0) c7 rfl (sizeOf82 _) rfl rfl rfl rfl ?_;have b8:J0 O5 (w4.setCell ⟨pb,0,none⟩ (.pointer (some ⟨b,m*20,none⟩))) (T+2) pb #[.pointer (some ⟨b,m*20,none⟩)] 82:=c7.set 0 (.pointer (some ⟨b,m*20,none⟩));have e6:IK (fun q=>q=T+2) O5 w4 O5 (w4.setCell ⟨pb,0,none⟩ (.pointer (some ⟨b,m*20,none⟩))):=I9 zo c7.tag rfl;have a3:=b4.trans e6;have g9:=g'.upd e6;generalize w4.setCell ⟨pb,0,none⟩ (.pointer (some ⟨b,m*20,none⟩))=w5 at *;refine zh ?_
 refine af ((kE _ _ a3)) ?_;have f4:=c9.upd a3 zo zo;have d9:=f3.upd a3 zo zo;have a9:=d3.trans (a3.mono (fun _ h=>.inr (by rw[h];omega)) a6);have d5:IK (fun q=>T<=q) O w O5 w5:=((e7.mono (fun _ h=>by rw[h];exact JO _) zo).trans (d7.mono (fun _ h=>by rw[h];omega) zo)).trans (a3.mono (fun _ h=>by rw[h];omega) zo);have b9:=h.blk.upd d5 hi zo;have r2:w5.cell? ⟨pb,0,none⟩=some (.pointer (some ⟨b,m*20,none⟩)):=b8.cell 0 rfl;have a':=h.size;have e1:∀(W:ln) (d8:Array I1) (a0:List I1),J0 O5 W i b d8 80->(∀j u,a0[j]? = some u->d8[m*20+3+j]? = some u)->∀(j:Nat) (u:I1),a0[j]? = some u->W.cell? (((⟨b,m*20,none⟩:Addr).add 3).add j)=some u:=fun W d8 a0 hB hc j u hu=>by rw[qP,qP];exact hB.cell (m*20+3+j) (hc j u hu)
 refine IW zk ?_;refine zh ?_
 refine zv (du rfl rfl) ?_;have d0:∀W,J0 O5 W i b (cs.setIfInBounds (m*20+1) (.int .i32 1)) 80->IK (fun q=>q=i) O5 w5 O5 W->Jm IP 27 ([]++(#[nP mb,nP pb]:Array I1).toList) W fun _ W'=>∃O' a5,J0 O' W' i b a5 80/\m*20+1<a5.size/\a5[m*20+1]? = some (.int .i32 1)/\O'=O5/\IK (fun q=>q=i) O5 w5 O5 W'/\∃a0 e W0,a0.length=17/\a0.all IG=true/\a5=tt (cs.setIfInBounds (m*20+1) (.int .i32 1)) (m*20) a0/\JG B O5 W0/\JG B O W0/\Js W0.heap.size W' (.tuple #[.agg a0.toArray,nI e]) (dw (gg m)).li (dw (gg m)).lk (dw (gg m)).ts:=fun W a8 a4=>by
  refine Ret.mono (tI m hm B O5 O W i b pb mb (T+2) T (m*20) rfl (cs.setIfInBounds (m*20+1) (.int .i32 1)) (g9.upd a4) (hR.upd ((a9.trans (a4.mono (fun _ h=>.inl h) a6)).priv hT hi)) hi zo zo a8 (by simpa using a') (f4.upd a4 zo zo) (b8.upd a4 zo zo)) ?_;rintro v W' ⟨a0,e,W0,g1,g2,g3,g4,g5,g6,g7⟩;have hz:m*20+3+a0.length<=(cs.setIfInBounds (m*20+1) (.int .i32 1)).size:=by simp[a',g1];omega
  exact⟨O5,_,g3,by rw[rU hz];simp[a'];omega,by rw[vM hz,if_pos zo,Jf zo],rfl,a4.trans g4,a0,e,W0,g1,g2,rfl,g5,g6,g7⟩
 rcases h.place m hm with⟨h0,h1⟩|⟨h0,a0,g0,f6⟩
 ·refine zc call26 (ue O5 i b (m*20) cs 80 w5 hi b9 h0 h1 27 [] #[nP mb,nP pb] call27 (fun O' W' a5=>O'=O5/\IK (fun q=>q=i) O5 w5 O5 W'/\∃a0 e W0,a0.length=17/\a0.all IG=true/\a5=tt (cs.setIfInBounds (m*20+1) (.int .i32 1)) (m*20) a0/\JG B O5 W0/\JG B O W0/\Js W0.heap.size W' (.tuple #[.agg a0.toArray,nI e]) (dw (gg m)).li (dw (gg m)).lk (dw (gg m)).ts) (fun W a8 a4=>d0 W a8 a4)) ?_;rintro v w9 ⟨O',W',a5,a8,⟨hO,a4,a0,e0,W0,a1,b0,rfl,b5,b6,hC⟩,rfl⟩;obtain rfl:O5=O':=hO.symm;have e3:=(a8.drew.set (m*20) (.int .u32 1)).set (m*20+1) (.int .i32 0);have f9:IK (fun q=>q=i) O5 W' O5 W'.drew:=(Jh b7 O5 W').drew;have f8:IK (fun q=>q=i) O5 W'.drew O5 (W'.drew.setCell ⟨b,m*20,none⟩ (.int .u32 1)):=I9 b7 a8.tag rfl;have f7:IK (fun q=>q=i) O5 (W'.drew.setCell ⟨b,m*20,none⟩ (.int .u32 1)) O5 ((W'.drew.setCell ⟨b,m*20,none⟩ (.int .u32 1)).setCell ⟨b,m*20+1,none⟩ (.int .i32 0)):=I9 b7 a8.tag rfl;have e5:=(f9.trans f8).trans f7;have d6:=a4.trans e5;have h5:=hC.upd b5 e5;have d':(tt (cs.setIfInBounds (m*20+1) (.int .i32 1)) (m*20) a0).size=80:=by rw[rU (by simp[a',a1];omega)];simpa using a'
  have a2:∀x,x≠m*20->x≠m*20+1->(((tt (cs.setIfInBounds (m*20+1) (.int .i32 1)) (m*20) a0).setIfInBounds (m*20) (.int .u32 1)).setIfInBounds (m*20+1) (.int .i32 0))[x]? = if x<m*20+3 then cs[x]? else if x<m*20+3+a0.length then a0[x-(m*20+3)]? else cs[x]?:=fun x h1 h2=>by
   rw[I2 zo,I2 zo,vM (by simp[a',a1];omega),I2 zo]
  have c8:(((tt (cs.setIfInBounds (m*20+1) (.int .i32 1)) (m*20) a0).setIfInBounds (m*20) (.int .u32 1)).setIfInBounds (m*20+1) (.int .i32 0))[m*20]? = some (.int .u32 1):=by
   rw[I2 zo,Jf (by rw[d'];omega)]
  have e':(((tt (cs.setIfInBounds (m*20+1) (.int .i32 1)) (m*20) a0).setIfInBounds (m*20) (.int .u32 1)).setIfInBounds (m*20+1) (.int .i32 0)).size=80:=by rw[JB,JB,d']
  generalize (W'.drew.setCell ⟨b,m*20,none⟩ (.int .u32 1)).setCell ⟨b,m*20+1,none⟩ (.int .i32 0)=w6 at *;generalize ((tt (cs.setIfInBounds (m*20+1) (.int .i32 1)) (m*20) a0).setIfInBounds (m*20) (.int .u32 1)).setIfInBounds (m*20+1) (.int .i32 0)=cs6 at *;have e2:∀j u,a0[j]? = some u->cs6[m*20+3+j]? = some u:=fun j u hu=>by
   have hj:j<a0.length:=(Jz.1 hu).1;rw[a2 _ zo zo,if_neg zo,if_pos zo,show m*20+3+j-(m*20+3)=j from by omega];exact hu
  have c5:=e1 w6 cs6 a0 e3 e2;have r3:w6.cell? ⟨pb,0,none⟩=some (.pointer (some ⟨b,m*20,none⟩)):=(b8.upd d6 zo zo).cell 0 rfl;have a7:=I6 d9 d6 zo zo;refine zh ?_;refine zv (ah (us:=a0) c5 (Jg _) (by rw[a1];exact IF _) rfl) ?_;refine bp (us:=a0.toArray) a7 (show a0.toArray.size=17 from by simpa using a1) (by rw[show a0.toArray.size=17 from by simpa using a1];exact IF _) (by simpa using b0) rfl rfl rfl ?_;have c6:=J8 (us:=a0.toArray) a7;have b2:IK (fun q=>q=T+1) O5 w6 O5 (J3 w6 rb a0.toArray):=I4 zo a7.tag rfl;have d1:=I6 e3 b2 hi zo;have d2:=(a9.trans (Ky d6 (fun _ h=>.inl h) a6)).trans (b2.mono (fun _ h=>.inr (by rw[h];omega)) a6);have b1:=d2.priv hT hi;have e8:=h5.upd b5 b2;refine zh ?_;refine bf (us:=a0) rfl rfl rfl (fun j u hu=>by simpa using c6.cellsAdd j u (by simpa using hu)) (Jg _) (by rw[a1];exact IF _) ⟨cs6,a0,rfl,?_,?_,b1⟩
  ·have g8:TabS O (w6.setRow rb a0.toArray) m a0:=⟨a1,b0,e0,W0.heap.size,fun S O'' w'' u=>e8.upd b6 u⟩
   refine⟨d1.fgt h.blk.tag,e',fun m' c'=>?_⟩
   by_cases em:m'=m
   ·subst em;exact .inr ⟨c8,a0,g8,e2⟩
   rcases h.place m' c' with⟨p0,p1⟩|⟨p0,t',p1,p2⟩
   ·refine .inl ⟨?_,?_⟩
    ·rw[a2 _ zo zo]
     split
     ·exact p0
     rw[if_neg zo];exact p0
    rw[a2 _ zo zo]
    split
    ·exact p1
    rw[if_neg zo];exact p1
   refine .inr ⟨?_,t',p1.upd b1,fun j u hu=>?_⟩
   ·rw[a2 _ zo zo]
    split
    ·exact p0
    rw[if_neg zo];exact p0
   have hj:j<t'.length:=(Jz.1 hu).1;have hl:=p1.1;rw[a2 _ zo zo]
   split
   ·exact p2 j u hu
   rw[if_neg zo];exact p2 j u hu
  exact⟨a1,b0,e0,W0.heap.size,fun S O'' w'' u=>e8.upd b6 u⟩
 refine zc call26 (uf b (m*20) w5 (b9.cell (m*20) h0) _) ?_;rintro v w9 b3;rw[b3];clear b3 w9;obtain⟨a1,b0,e0,B0,hK⟩:=g0;have c5:=e1 w5 cs a0 b9 f6;have d4:IK (fun q=>q=i) O5 w5 O5 w5:=Jh b7 O5 w5;have r3:w5.cell? ⟨pb,0,none⟩=some (.pointer (some ⟨b,m*20,none⟩)):=(b8.upd d4 zo zo).cell 0 rfl;have a7:=I6 d9 d4 zo zo;refine zh ?_
 refine zv (ah (us:=a0) c5 (Jg _) (by rw[a1];exact IF _) rfl) ?_;refine bp (us:=a0.toArray) a7 (show a0.toArray.size=17 from by simpa using a1) (by rw[show a0.toArray.size=17 from by simpa using a1];exact IF _) (by simpa using b0) rfl rfl rfl ?_
 have c6:=J8 (us:=a0.toArray) a7;have b2:IK (fun q=>q=T+1) O5 w5 O5 (J3 w5 rb a0.toArray):=I4 zo a7.tag rfl;have d1:=I6 b9 b2 hi zo;have d2:=(a9.trans (Ky d4 (fun _ h=>.inl h) a6)).trans (b2.mono (fun _ h=>.inr (by rw[h];omega)) a6);have b1:=d2.priv hT hi;refine zh ?_;refine bf (us:=a0) rfl rfl rfl (fun j u hu=>by simpa using c6.cellsAdd j u (by simpa using hu)) (Jg _) (by rw[a1];exact IF _) ⟨cs,a0,rfl,⟨d1.fgt h.blk.tag,h.size,fun m' c'=>(h.place m' c').imp id (fun⟨p0,t',p1,p2⟩=>⟨p0,t',p1.upd b1,p2⟩)⟩,⟨a1,b0,e0,B0,hK.upd b1⟩,b1⟩
abbrev stS(m:Nat):St:=dw (gg m)
theorem TabS.made{O:Nat->Nat}{w:ln}{m:Nat}{a3:List I1}(h:TabS O w m a3):∃a b a1 a0 gv lc rc,Made (stS m).li (stS m).lk (stS m).ts a b a1 a0/\a3=eJ (bz (stS m).li (stS m).lk (stS m).ts a b a1 a0).ig (bz (stS m).li (stS m).lk (stS m).ts a b a1 a0).kp (bz (stS m).li (stS m).lk (stS m).ts a b a1 a0).br (bz (stS m).li (stS m).lk (stS m).ts a b a1 a0).rules gv lc rc/\Ints w gv (bz (stS m).li (stS m).lk (stS m).ts a b a1 a0).groups/\KF w lc (bz (stS m).li (stS m).lk (stS m).ts a b a1 a0).left (bz (stS m).li (stS m).lk (stS m).ts a b a1 a0).lt/\KF w rc (bz (stS m).li (stS m).lk (stS m).ts a b a1 a0).right (bz (stS m).li (stS m).lk (stS m).ts a b a1 a0).rt:=by
 obtain⟨h1,h2,e,B0,hK⟩:=h;obtain⟨_,hr,ha,hb⟩:=C6 (zD m)
 rcases hK.now.made with⟨e',a4,hv,a2⟩|⟨a,b,a1,a0,gv,lc,rc,hM,hv,k1,k2,k3,hn⟩
 ·exfalso
  rcases a2 with⟨_,h1⟩|⟨_,_,h1|h1⟩
  ·rw[hr]at h1;cases h1
  ·rw[h1]at ha;cases ha
  rw[h1]at hb;cases hb
 refine⟨a,b,a1,a0,gv,lc,rc,hM,?_,k1,k2,k3⟩;simp only[JC,JU,JL,JK,JJ,and_true,true_and]at hv;exact hv.1
theorem nG(w:ln)(hT:kq w):Jm IP 7 [] w fun v w'=>v=.bool true/\KH w w':=by
 refine I0 func7 ntmps7 rfl rfl ?_;refine zh ?_
 refine zc call8 (lB w.heap.size (fun _=>0) w 1 zd (ay w)) ?_;rintro v w1 ⟨b,O1,cs,rfl,b9,b7,a',d2⟩;refine zc call9 (iH 3 zd w.heap.size O1 w1 1 b cs a' zd b9) ?_
 rintro v w2 ⟨d3,a0,rfl,c',a9,a8⟩;have c5:=a'.upd a8;obtain⟨a4,b5,_⟩:=id a9;refine zh ?_;refine au c5 2 zo (Jc _) rfl ?_;intro tb w3 O3 a3 b6 d0 d1;refine bp (us:=a0.toArray) a3 (show a0.toArray.size=17 from by simpa using a4) (by rw[show a0.toArray.size=17 from by simpa using a4];exact IF _) (by simpa using b5) rfl rfl rfl ?_;have b2:=a3.setRow (us:=a0.toArray);have a7:IK (fun q=>q=2) O1 w2 O3 (w3.setRow tb a0.toArray):=b6.trans (I4 zd a3.tag rfl);have a1:IK (fun q=>1<=q) (fun _=>0) w O3 (w3.setRow tb a0.toArray):=((b7.mono (fun _ h=>zo) zd).trans (a8.mono (fun _ h=>zo) zd)).trans (a7.mono (fun _ h=>zo) zd);have b8:=a9.upd a7;generalize w3.setRow tb a0.toArray=w4 at *;obtain⟨a,bb,c9,c8,gv,lc,rc,hM,b1,k1,k2,k3⟩:=b8.made;have hi:=hM.inv;have a5:=hM.breaks [18,29,18] zd;rw[show qK (stS 3).li (stS 3).lk [18,29,18] (stS 3).ts=[true,false,true,true]from yG]at a5;generalize bz (stS 3).li (stS 3).lk (stS 3).ts a bb c9 c8=t at *;refine zh ?_;refine aw (d:=9) rfl (b':=true) (rfl) ?_;refine zh ?_;refine zvH (ah (us:=a0) (fun j u hu=>by simpa using b2.cellsAdd j u (by simpa using hu)) (Jg _) (by rw[a4];exact IF _) rfl) ?_;refine ec I5 (J4 _) (zeroValue3 _) encI [18,29,18] rfl rfl rfl rfl zk (by simp) rfl ?_;intro dv w5 b4 a2;rw[b1];refine zh ?_
 refine zc call11 (iN w5 t gv lc rc (k1.ext a2) (k2.ext a2) (k3.ext a2) hi.ok hi.right (iC hT (a1.ext.trans a2)) [18,29,18] dv b4 zd) ?_;rintro bv w6 ⟨a6,c7⟩;rw[a5]at a6;refine zh ?_
 refine ec J7 (Jp _) (zeroValue4 _) sS [true,false,true,true] rfl rfl rfl rfl zk (by simp) rfl ?_;intro ev w7 b3 b0;refine zh ?_
 refine zc call12 (uI [true,false,true,true] [true,false,true,true] bv ev w7 (a6.ext b0) b3) ?_;rintro v w8 ⟨rfl,c6⟩;refine zh ?_
 refine ae rfl rfl (⟨rfl,(((a1.ext.trans a2).trans c7).trans b0).trans c6⟩)
theorem uV(t:TabM)(a0:List Int):(eW t a0).length=a0.length+1:=by
 unfold eW
 cases a0 with
 |nil=>rfl
 |cons c r=>
  obtain⟨w1,w2⟩:=gq t c r;rw[w1,IJ,List.length_cons,fx,iu,if_pos (by simp)];simp
theorem GX{P Q:Int}{b:Bool}(h:P=1\/P=2\/P=3->b = !(decide (P=1/\Q=2))):(((P==1)&&(Q==2))&&b)=false/\(((((P==2)||(P==3))||((P==1)&&(Q != 2)))) && !b)=false:=by
 by_cases h1:P=1
 ·have:=h (.inl h1);subst h1
  by_cases h2:Q=2
  ·subst h2;rw[this];decide
  rw[this,decide_eq_false (fun e=>h2 e.2)];have:(Q==2)=false:=by simpa using h2
  constructor
  ·rw[this];rfl
  simp
 have e1:(P==1)=false:=by simpa using h1
 by_cases h2:P=2
 ·have:=h (.inr (.inl h2));rw[this,e1,decide_eq_false (fun e=>h1 e.1)];simp
 by_cases h3:P=3
 ·have:=h (.inr (.inr h3));rw[this,e1,decide_eq_false (fun e=>h1 e.1)];simp
 have e2:(P==2)=false:=by simpa using h2
 have e3:(P==3)=false:=by simpa using h3
 rw[e1,e2,e3];exact⟨rfl,rfl⟩
set_option maxHeartbeats 1000000 in
theorem mJ(a0:List Int)(dv:I1)(w:ln)(hd:Ints w dv a0)(hT:kq w):Jm IP 4 [dv] w fun v w'=>v=.bool true/\KH w w':=by
 have d8:=hd.len_le;refine I0 func4 ntmps4 rfl rfl ?_;refine zg ?_;refine zvG (JD (by first|exact hd) I5 rfl) ?_;refine cD (KH w) (!true) 2 (II w) rfl rfl rfl rfl rfl ?_ ?_
 ·intro a1;refine zg ?_;refine zc call7 (nG w hT) ?_;rintro v w2 ⟨rfl,b1⟩;refine zg ?_;refine bE (tA:=12) 3 (b1) rfl rfl rfl (fun v hv=>(IH hv).symm.trans (congrArg J5 a1)) rfl
 intro w2 b1;refine zg ?_;refine zC ?_ ?_
 ·intro hc;refine zg ?_;refine zc call7 (nG w2 (iC hT b1)) ?_;rintro v w3 ⟨rfl,c5⟩;refine zg ?_;refine ae rfl rfl (⟨rfl,b1.trans c5⟩)
 intro hc;have f3:a0.length<=16:=by rw[Bool.not_true,Bool.or_false]at hc;have:=of_decide_eq_false hc;omega
 clear hc;refine zg ?_;refine zc call8 (lB w2.heap.size (fun _=>0) w2 1 zd (ay w2)) ?_;rintro v w3 ⟨b,O3,cs,rfl,b4,a',b0,c5⟩;have hz:¬(fun q:Nat=>1<=q) 0:=by decide
 refine zg ?_;refine zlp (fun y:Nat×Array I1×(Nat->Nat)×World=>[(0,dv),(3,nP b),(4,nI (y.1:Nat))]) (fun y=>y.2.2.2) (fun y=>y.1<=4/\ShO y.2.2.1 y.2.2.2 1 b y.2.1/\IK (fun q=>1<=q) (fun _=>0) w2 y.2.2.1 y.2.2.2/\JG w2.heap.size y.2.2.1 y.2.2.2) (fun y=>4-y.1) (0,cs,O3,w3) (⟨Jo _,b4,a'.mono (fun _ h=>by omega) hz,b0⟩) ?_
 clear b4 a' b0 c5 O3 w3 cs;rintro⟨m,cs,O3,w3⟩ ⟨hm,b4,a',b0⟩;dsimp only at hm b4 a' b0 ⊢;refine zg ?_;refine zC ?_ ?_
 ·intro b6;replace b6:m<4:=by have:=of_decide_eq_true b6;omega
  refine zg ?_;refine zc call9 (iH m b6 w2.heap.size O3 w3 1 b cs b0 zd b4) ?_
  rintro v w4 ⟨e7,t1,rfl,e2,b5,d0⟩;have e4:=b0.upd d0;refine zg ?_;refine au e4 2 zo (Jc _) rfl ?_;intro ab wx Ox hx c' d1 e5;refine bp (us:=t1.toArray) hx (show t1.toArray.size=17 from by simpa using(b5).1) (by rw[show t1.toArray.size=17 from by simpa using(b5).1];exact IF _) (by simpa using(b5).2.1) rfl rfl rfl ?_;have c8:=hx.setRow (us:=t1.toArray);have b7:IK (fun q=>q=2) O3 w4 Ox (wx.setRow ab t1.toArray):=c'.trans (I4 zd hx.tag rfl);have d2:=d1.upd (I4 (S:=fun q=>q=2) (us:=t1.toArray) zd hx.tag rfl);generalize wx.setRow ab t1.toArray=w5 at *;obtain⟨O5,d4⟩:∃O,O=Ox:=⟨_,rfl⟩
  rw[<-d4]at b7 d2 c8;clear hx c' d1 e5 d4 Ox wx;have e1:=e2.upd b7 zd zd;have b3:=(a'.trans (d0.mono (fun _ h=>by omega) hz)).trans (b7.mono (fun _ h=>by omega) hz);have a9:=b1.trans b3.ext;have e6:=b5.upd b7;obtain⟨a,bb,c7,c6,gv,lc,rc,hM,d7,k1,k2,k3⟩:=e6.made;have hi:=hM.inv;have a8:∀i,0<i->i<a0.length->(nth a0 (i-1)=1\/nth a0 (i-1)=2\/nth a0 (i-1)=3)->nth (eW (bz (stS m).li (stS m).lk (stS m).ts a bb c7 c6) a0) i = !(decide (nth a0 (i-1)=1/\nth a0 i=2)):=fun i h0 hl hp=>by
   rcases hp with e|e|e
   ·have:=hM.ends (uP m) a0 zo h0 hl (p:=1) (.inl rfl) e;rw[this,e];simp
   ·have:=hM.ends (uP m) a0 zo h0 hl (p:=2) (.inr (.inl rfl)) e;rw[this,e];simp
   have:=hM.ends (uP m) a0 zo h0 hl (p:=3) (.inr (.inr rfl)) e;rw[this,e];simp
  have c9:=uV (bz (stS m).li (stS m).lk (stS m).ts a bb c7 c6) a0;generalize bz (stS m).li (stS m).lk (stS m).ts a bb c7 c6=t at *;have d9:=b5.1;refine zg ?_;refine zvG (ah (us:=t1) (fun j u hu=>by simpa using c8.cellsAdd j u (by simpa using hu)) (Jg _) (by rw[d9];exact IF _) rfl) ?_;rw[d7];refine zc call11 (iN w5 t gv lc rc k1 k2 k3 hi.ok hi.right (iC hT a9) a0 dv (hd.ext a9) zo) ?_;rintro bv w6 ⟨a7,d3⟩;obtain⟨br,d'⟩:∃br,br=eW t a0:=⟨_,rfl⟩
  rw[<-d']at a7 a8 c9;have b8:IK (fun _=>False) O5 w5 O5 w6:=aa (fun h=>h) O5 d3;have e0:=e1.upd b8 zd (fun h=>h);have e3:=d2.upd b8;have b9:=b3.trans (b8.mono (fun _ h=>h.elim) hz);have a6:=hd.ext (a9.trans d3);refine zg ?_;refine zvG (JD (by first|exact a7|exact a6) J7 rfl) ?_;refine zv (JD (by first|exact a7|exact a6) I5 rfl) ?_;refine zvG (Jl rfl rfl (IV zo)) ?_;refine zFG rfl ((by rw[c9];simp)) ?_;refine zlp (fun i:Nat=>[(0,dv),(3,nP b),(4,nI (m:Nat)),(7,bv),(8,nI (i:Nat))]) (fun i=>w6) (fun i=>1<=i/\i<=max 1 a0.length) (fun i=>max 1 a0.length-i) 1 (⟨by decide,by omega⟩) ?_;rintro i ⟨e9,e8⟩;refine zg ?_;refine zvG (JD (by first|exact a7|exact a6) I5 rfl) ?_;refine zC ?_ ?_
  ·intro b2;replace b2:i<a0.length:=by have:=of_decide_eq_true b2;omega
   have c1:w6.cell? (adr dv 1 (i-1))=some (nI (nth a0 (i-1))):=a6.ld zo;have c2:w6.cell? (adr dv 1 i)=some (nI (nth a0 i)):=a6.ld b2;have c3:w6.cell? (adr bv 1 i)=some (.bool (nth br i)):=a7.ld zo;obtain⟨d6,d5⟩:=GX (a8 i zo b2);refine zg ?_;refine zv (Ke rfl rfl (IV zo)) ?_;refine zv (IQ a6 I5 (J4 _) rfl rfl (i-1) zo zo) ?_;refine zvG (RV.ld (by first|exact c1|exact c2|exact c3) rfl) ?_;refine bK (fun w1=>_=w1) ((nth a0 i==2)) 5 (rfl) rfl rfl rfl rfl rfl ?_ ?_
   ·intro a1;refine zg ?_;refine zvG (IQ (by first|exact a7|exact a6) I5 (J4 _) rfl rfl _ rfl zo) ?_;refine zvG (RV.ld (by first|exact c1|exact c2|exact c3) rfl) ?_;refine bE (tA:=49) 6 (rfl) rfl rfl rfl (fun v hv=>(IH hv).symm.trans (congrArg J5 a1)) rfl
   rintro _ rfl;refine zg ?_;refine bK (fun w1=>_=w1) (nth br i) 4 (rfl) rfl rfl rfl rfl rfl ?_ ?_
   ·intro a2;refine zg ?_;refine zvG (IQ (by first|exact a7|exact a6) J7 (Jp _) rfl rfl _ rfl zo) ?_;refine zvG (RV.ld (by first|exact c1|exact c2|exact c3) rfl) ?_;refine bE (tA:=56) 5 (rfl) rfl rfl rfl (fun v hv=>(IH hv).symm.trans (congrArg J5 a2)) rfl
   rintro _ rfl;rw[d6];refine zg ?_;refine zFG rfl rfl ?_;refine zv (Ke rfl rfl (IV zo)) ?_;refine zv (IQ a6 I5 (J4 _) rfl rfl (i-1) zo zo) ?_;refine zvG (RV.ld (by first|exact c1|exact c2|exact c3) rfl) ?_;refine cD (fun w1=>_=w1) ((nth a0 (i-1)==3)) 6 (rfl) rfl rfl rfl rfl rfl ?_ ?_
   ·intro a3;refine zg ?_;refine zvG (Ke rfl rfl (IV zo)) ?_;refine zvG (IQ a6 I5 (J4 _) rfl rfl (i-1) zo zo) ?_;refine zvG (RV.ld (by first|exact c1|exact c2|exact c3) rfl) ?_;refine bE (tA:=68) 7 (rfl) rfl rfl rfl (fun v hv=>(IH hv).symm.trans (congrArg J5 a3)) rfl
   rintro _ rfl;refine zg ?_;refine cD (fun w1=>_=w1) (((nth a0 (i-1)==1)&&(nth a0 i != 2))) 13 (rfl) rfl rfl rfl rfl rfl ?_ ?_
   ·intro a4;refine zg ?_;refine zvG (Ke rfl rfl (IV zo)) ?_;refine zvG (IQ a6 I5 (J4 _) rfl rfl (i-1) zo zo) ?_;refine zvG (RV.ld (by first|exact c1|exact c2|exact c3) rfl) ?_
    cases hp:(nth a0 (i-1)==1)with
    |true=>
     refine aw (d:=83) rfl (b':=true) (rfl) ?_;refine zg ?_
     refine zvG (IQ (by first|exact a7|exact a6) I5 (J4 _) rfl rfl _ rfl zo) ?_;refine zvG (RV.ld (by first|exact c1|exact c2|exact c3) rfl) ?_
     refine bE (tA:=76) 15 (rfl) rfl rfl rfl (fun v hv=>(IH hv).symm.trans (congrArg J5 a4)) rfl
    |false=>
     refine aw (d:=83) rfl (b':=false) (rfl) ?_;refine zg ?_
     refine bE (tA:=76) 15 (rfl) rfl rfl rfl (fun v hv=>(IH hv).symm.trans (congrArg J5 a4)) rfl
   rintro _ rfl;refine zg ?_;refine bK (fun w1=>_=w1) (!(nth br i)) 5 (rfl) rfl rfl rfl rfl rfl ?_ ?_
   ·intro a5;refine zg ?_;refine zvG (IQ (by first|exact a7|exact a6) J7 (Jp _) rfl rfl _ rfl zo) ?_;refine zvG (RV.ld (by first|exact c1|exact c2|exact c3) rfl) ?_;refine bE (tA:=91) 6 (rfl) rfl rfl rfl (fun v hv=>(IH hv).symm.trans (congrArg J5 a5)) rfl
   rintro _ rfl;rw[d5];refine zg ?_;refine zFG rfl rfl ?_;refine zvG (Jl rfl rfl (IV zo)) ?_;refine zxd (i+1) (⟨by omega,by omega⟩)
  intro b2;refine zg ?_;refine zvG (Jl rfl rfl (IV zo)) ?_;refine zxd (m+1,e7,O5,w6) (⟨b6,e0,b9,e3⟩)
 intro e';refine zg ?_;refine ae rfl rfl (⟨rfl,b1.trans a'.ext⟩)
end Go.Proofs.YteolbhblkgjbhaaGreatDoor
