/- Texts that the proof of this statement needs, merged and shortened. -/
import Derived.Test.YtpfpmhhigheccaaGreatDoorQWireTurned5
open Go.VL.RV renaming move->ix,assign->GX,extract->GY,indexAddr->Ia,build->IB,neq->IK,fieldAddr->IM,add->IT,len->Ji,not->JL,load->K5
open Go.VL.BlkO renaming upd->ka,drew->Iz,setRow->IS,tag->JM,set->JN,q7->JV,q6->JW
open List renaming dropWhile_suffix->ln,getElem_append_right->G2,mem_singleton->G5,getElem_append_left->G6,mem_cons->GS,getElem_cons_zero->GT,all_cons->I2,mem_append->Ic,pairwise_cons->Ie,takeWhile_prefix->Ii,not_mem_nil->Ij,length_append->Im,all_nil->Iq,toArray_inj->IN,length_take->IP,all_eq_true->IQ,length_pos_iff->J6,take_take->Ju,drop_zero->Jv,length->JF
open Go.VL.WL renaming nil->G0,off->JC,push->K1
open And renaming intro->G1
open Go.VL.WH renaming one->G4,done->I1
open Go.VL.WC renaming region->G7,seq->G8,tail->Il,skip->Ir,ret->IJ
open Go.VL.Upd renaming setRow->G9,set->GV,trans->J1,lowT->J5,refl->JR,drew->JS
open Go.VL.Ext renaming refl->GR
open Go renaming Value->GU,World->GW
open Go.Proofs.Tryz renaming underlying9->GZ,sizeOf32->I0,underlying22->I3,sizeOf49->I4,zeroValue49->Ib,zeroValue32->Ih,call130->Ik,sizeOf86->Is,sizeOf79->It,underlying42->Iv,isAgg32->Iw,zeroValue86->IC,isAgg49->IH,call106->II,sizeOf25->IU,prog->IX,sizeOf5->IZ,call103->J0,sizeOf81->J2,call38->J3,sizeOf146->J8,underlying25->J9,underlying24->Ja,sizeOf3->Jb,isAgg79->Jc,call104->Jd,zeroValue88->Jm,underlying3->Jn,sizeOf47->Jo,ntmps106->Jp,isAgg86->Jy,func106->Jz,call135->JA,call134->JB,sizeOf84->JG,zeroValue218->JO,underlying81->JP,underlying45->JQ,underlying5->JX
open Go.VL.Ret renaming enter->I5
open Nat renaming le_of_eq->I6,le_refl->If,sub_self->Ig,zero_le->Iy,min_eq_left->IW,lt_succ_self->Js,not_lt_zero->Jt
open Go.World renaming setCell->I7,setRow->ID,drew->IV
open Go.VL renaming Upd->I8,BlkO->IA,Ext->IY,Rng->Jq,RowT->Jw,Ret->JI
open Go.Value renaming oneCell'->I9
open Go.VL.Fit renaming i64->Io
open Go.VL.RowT renaming nil->Ip,drew->JH,upd->JK
open Go.Value.tuple renaming injEq->Iu
open Go.Value.int renaming injEq->IE
open Go.Value.agg renaming injEq->IF
open List.cons renaming injEq->IG
open Go.VL.WS renaming go->IL
open Array.mk renaming injEq->IR
open Bool renaming or_eq_false_iff->J4
open Go.Lib renaming compact->J7
open UInt8 renaming toNat_xor->Je,toNat_inj->Jf
open Go.VL.Rng renaming upd->Jg,drew->JT
open Go.Proofs.YtpfpmhhigheccaaGreatDoor renaming Rd6->Jh,PostC->Jr,PartV->JY,TabV->K2,TabM->K4
open Or renaming inr->Jj,inl->Jk
open Go.Proofs.YtpfpmhhigheccaaGreatDoor.LR renaming bad->Jl
open Go.Addr renaming add_add->JD
open Go.Proofs.YtpfpmhhigheccaaGreatDoor.RowsT renaming push->JE
open Option.some renaming inj->JJ
open Classical renaming byContradiction->JU
open Go.Proofs.YtpfpmhhigheccaaGreatDoor.Mac renaming upd->JZ
open Go.VL.WQ renaming call->K0
open Go.IntKind renaming wrap->K6,u64->K7,signed->K8,bits->K9
set_option maxRecDepth 10000
open Go.VL Go.Proofs Go.Proofs.Tryz
namespace Go.Proofs.YtpfpmhhigheccaaGreatDoor
section
variable{kn:Kn}
theorem Fa:cL IX 218 #[(0,1),(1,3)]:=⟨_,underlying218,fun w=>by kernel_rfl⟩
inductive ML where
 |ok (m:List UInt8×Nd)
 |bad (p:Nat) (e:Int)
def F5(nm r2:List UInt8):XR->ML
 |.ok t=>.ok (nm,t)
 |.bad p e=>.bad (r2.length-1-p) e
def rT(kn:Kn)(r:List UInt8):ML:=
 if(ao r).takeWhile aj=[]then .bad (ao r).length 4
 else if ew kn ((ao r).takeWhile aj)≠0 then .bad (ao r).length (ew kn ((ao r).takeWhile aj))
 else if(ao ((ao r).dropWhile aj)).headD 0=61 then F5 ((ao r).takeWhile aj) (ao ((ao r).dropWhile aj)) (eG kn (ao ((ao r).dropWhile aj)).tail)
 else .bad (ao ((ao r).dropWhile aj)).length 4
def Gj(O:Nat->Nat)(w:GW)(jm:Nat)(m:Nat)(v:GU)(bad e:Int)(kn:Kn):ML->Prop
 |.ok x=>e=0/\Mac O w jm v (kn++[x])
 |.bad p e'=>e=e'/\e'≠0/\bad=(m:Int)-(p:Int)
def atX:XR->Int
 |.ok _=>0
 |.bad p _=>(p:Int)
def F8:XR->Int
 |.ok _=>0
 |.bad _ e=>e
theorem PostX.shape{O:Nat->Nat}{w:GW}{v:GU}{M:XR}(h:PostX O w v M):∃x:N3,v=.tuple #[nv x,nI (atX M),nI (F8 M)]/\x.2.2.oneCell'=true/\∀t,M=.ok t->Nt O w t x:=by
 cases M with
 |ok t=>obtain⟨x,rfl,hn⟩:=h;exact⟨x,rfl,hn.one,fun t e=>by cases e;exact hn⟩
 |bad p e=>obtain⟨rfl,_⟩:=h;exact⟨(0,0,nS),rfl,rfl,fun t e=>by cases e⟩
theorem jZ{m:M3}(h:m.2.2.2.oneCell'=true):∀c∈kB m,c.oneCell'=true:=fun c hc=>by
 simp only[kB,GS,Ij,or_false]at hc
 rcases hc with rfl|rfl|rfl|rfl
 ·rfl
 ·rfl
 ·rfl
 exact h
theorem vS{O:Nat->Nat}{w:GW}{i:Nat}{v:GU}{ms:List M3}{nm:List UInt8}{x:N3}{t:Nd}(hr:Jw kB 218 4 O w i v (ms++[(nm,x)]))(hl:kn.length=ms.length)(hk:∀q,q<ms.length->(nth kn q).1=(nth ms q).1/\Nt O w (nth kn q).2 (nth ms q).2)(hn:Nt O w t x):Mac O w i v (kn++[(nm,t)]):=by
 refine⟨_,hr,by simp[hl],fun q hq=>?_⟩;simp only[Im,List.length_singleton]at hq
 by_cases e:q<ms.length
 ·rw[az (by simp;omega),az (by simp;omega),G6 zo,G6 e,<-az zo,<-az e];exact hk q e
 obtain rfl:q=ms.length:=zo;rw[az (by simp;omega),az (by simp),G2 zo,G2 zo];simp[hl];exact hn
theorem zK(B:Nat)(O:Nat → Nat)(w:GW)(j jm rb:Nat)(s:LS)(m:Nat)(r:List UInt8)(hR:Jq B O w)(hj:j ≠ 0)(hjm:jm ≠ 0)(hne:j ≠ jm)(hm:m ≤ s.l.length)(hl:s.l.length ≤ 100000)(hto:s.to = (m:Int))(he:s.e = 0)
  (hr:r <:+ s.l.take m) (hp:s.pos = (m:Int) - (r.length:Int)) (hkl:kn.length ≤ 100000) (hmac:Mac O w jm s.mc kn) (h:Jh O w j rb s) :
  JI IX 105 [nP rb] w fun _ w' => ∃O' v pos bad e, I8 (fun k => k = j ∨ k = jm) O w O' w' ∧ Jq B O' w' ∧ Jh O' w' j rb {s with pos := pos, bad := bad, e := e, mc := v} ∧ Gj O' w' jm m v bad e kn (rT kn r) := by
 obtain⟨T0, hT00, hT01⟩ := hR.bound
 obtain⟨T, hT0, hjmT, hT⟩:∃T, 0 < T ∧ jm < T ∧ ∀b, O b < T := ⟨T0 + jm + 1, by omega, by omega, fun b => by have := hT01 b; omega⟩
 clear hT00 hT01 T0
 have hjT:j < T := by rw[← h.tag]; exact hT rb
 have hz2:¬(fun q:Nat => q = j ∨ q = jm) 0 := fun e => by rcases e with e | e; exact hj e.symm; exact hjm e.symm
 have hz3:¬(fun q:Nat => q = j ∨ q = jm ∨ T ≤ q) 0 := fun e => by rcases e with e | e | e; exact hj e.symm; exact hjm e.symm; omega
 have hpv:∀ {O':Nat → Nat} {w':GW}, I8 (fun q => q = j ∨ q = jm ∨ T ≤ q) O w O' w' → I8 (fun q => q = j ∨ q = jm) O w O w' := fun hU => hU.fgt (S' := fun q => q = j ∨ q = jm) (fun b hb => by rcases hb with hb | hb | hb; exact Jk hb; exact Jj hb; have := hT b; omega) hz2
 have hLl:(s.l.take m).length = m := by simp; omega
 refine I5 func105 ntmps105 rfl rfl ?_
 refine G8 ?_
 refine G7 ?_
 refine zv (ix rfl) ?_
 refine zv (aq rfl) ?_
 refine zv (RV.fa rfl) ?_
 refine zc J0 (dz O w j rb s m r hj hm hl hto hr hp h) ?_
 rintro v w1 ⟨rfl, hb1, hU1⟩
 have hs1 := (aY r).trans hr
 have hm1 := hmac.upd hU1 hjm (fun e => hne e.symm)
 have hR1 := hR.upd hU1
 refine G0 ?_
 refine ai ?_
 refine G8 ?_
 refine G7 ?_
 refine zv (ix rfl) ?_
 refine zv (aq rfl) ?_
 refine zv (RV.fa rfl) ?_
 refine zv (RV.fa rfl) ?_
 refine zv (RV.ld hb1.q1 rfl) ?_
 refine zv (GX rfl) ?_
 refine G0 ?_
 refine ai ?_
 refine G8 ?_
 refine G7 ?_
 refine zv (ix rfl) ?_
 refine zv (aq rfl) ?_
 refine zv (RV.fa rfl) ?_
 refine zc Jd (gC O w1 j rb ({s with pos := (m:Int) - ((ao r).length:Int)}:LS) m (ao r) hj hm hl hto hs1 rfl hb1) ?_
 rintro v w2 ⟨rfl, hb2, hU2⟩
 have hs2 := (ln aj).trans hs1
 have hm2 := hm1.upd hU2 hjm (fun e => hne e.symm)
 have hR2 := hR1.upd hU2
 have hUt2 := (hU1.trans hU2).mono (S' := fun q => q = j ∨ q = jm ∨ T ≤ q) (fun _ h => .inl h) hz3
 refine zv (GX rfl) ?_
 refine G0 ?_
 refine ai ?_
 refine G8 ?_
 refine G8 ?_
 refine G7 ?_
 refine zv (ix rfl) ?_
 refine zv (cA rfl rfl) ?_
 refine G0 ?_
 refine ai ?_
 by_cases hnm:(ao r).takeWhile aj = []
 ·have hM:rT kn r = .bad (ao r).length 4 := by unfold rT; rw[if_pos hnm]
  rw[hM]
  refine aO rfl ((by rw[hnm]; rfl)) ?_
  refine G8 ?_
  refine G7 ?_
  refine zv (ix rfl) ?_
  refine zv (aq rfl) ?_
  refine zv (RV.fa rfl) ?_
  refine zv (ix rfl) ?_
  refine zc Ik (bB O w2 j rb ({s with pos := (m:Int) - (((ao r).dropWhile aj).length:Int)}:LS) ((m:Int) - ((ao r).length:Int)) 4 hj he hb2) ?_
  rintro u w3 ⟨hb3, hU3⟩
  refine G0 ?_
  refine ai ?_
  refine IJ ?_
  refine bJ ?_
  exact cC rfl ⟨O, s.mc, _, _, _, hpv (hUt2.trans (hU3.mono (fun _ h => .inl h) hz3)), hR2.upd hU3, hb3, rfl, by decide, rfl⟩
 ·skip
  refine aN rfl ((by simpa using hnm)) ?_
  refine Ir ?_
  refine ai ?_
  refine G8 ?_
  refine G8 ?_
  refine G7 ?_
  refine zv (ix rfl) ?_
  refine zv (ix rfl) ?_
  refine zc call131 (yw O w2 j jm rb ({s with pos := (m:Int) - (((ao r).dropWhile aj).length:Int)}:LS) ((ao r).takeWhile aj) hm2 hb2) ?_
  rintro v w3 ⟨rfl, hE3⟩
  have hX3:I8 (fun _ => False) O w2 O w3 := aa (fun h => h) O hE3
  have hb3 := hb2.upd hX3 hj (fun h => h)
  have hm3 := hm2.upd hX3 hjm (fun h => h)
  have hR3 := hR2.upd hX3
  have hUt3 := hUt2.trans (hX3.mono (fun _ h => h.elim) hz3)
  refine zv (GX rfl) ?_
  refine G0 ?_
  refine ai ?_
  refine G8 ?_
  refine G7 ?_
  refine zv (ix rfl) ?_
  refine zv (IK rfl rfl) ?_
  refine G0 ?_
  refine ai ?_
  by_cases htk:ew kn ((ao r).takeWhile aj) = 0
  ·skip
   refine aN rfl ((by rw[htk]; rfl)) ?_
   have hMK:rT kn r = if(ao ((ao r).dropWhile aj)).headD 0 = 61 then F5 ((ao r).takeWhile aj) (ao ((ao r).dropWhile aj)) (eG kn (ao ((ao r).dropWhile aj)).tail)else .bad (ao ((ao r).dropWhile aj)).length 4 := by unfold rT; rw[if_neg hnm, if_neg (by rw[htk]; simp)]
   generalize (ao r).takeWhile aj = nm at *
   generalize (ao r).dropWhile aj = q at *
   have hs5 := (aY q).trans hs2
   have hbd := hb3.drew
   have hmd := hm3.upd (aa (S := fun _ => False) (fun h => h) O (GR w3).drew) hjm (fun h => h)
   have hRd := hR3.drew
   have hUd := hUt3.drew
   refine Ir ?_
   refine ai ?_
   refine G8 ?_
   refine G8 ?_
   refine aL (fun V => V.cell? ⟨rb, 0, none⟩ = some (.string (bs s.l))) 19 rfl (by kernel_rfl) ?_
   refine zrm 0 rfl hbd.q0 rfl ?_
   refine zr 1 rfl hbd.q0 (fun _ => aq rfl) ?_
   refine zrf 2 rfl hbd.q0 rfl ?_
   refine G4 3 (by kernel_rfl) rfl ?_
   refine zc J0 (dz O w3.drew j rb ({s with pos := (m:Int) - (q.length:Int)}:LS) m q hj hm hl hto hs2 rfl hbd) ?_
   rintro v w5 ⟨rfl, hb5, hU5⟩
   have hm5 := hmd.upd hU5 hjm (fun e => hne e.symm)
   have hR5 := hRd.upd hU5
   have hUt5 := hUd.trans (hU5.mono (fun _ h => .inl h) hz3)
   generalize ao q = r2 at *
   have hr2l := hs5.length_le
   rw[hLl]at hr2l
   have hb5':IA O w5 j rb ({s with pos := (m:Int) - (r2.length:Int)}:LS).cells 148 := hb5
   clear hb5
   have hb5 := hb5'
   refine G0 ?_
   refine zaf (hb5.q0) fun zS => ?_
   refine zr 4 rfl zS (fun _ => JL rfl) ?_
   refine zrm 5 rfl zS rfl ?_
   by_cases hr0:r2.length = 0
   ·have hrn:r2 = [] := List.eq_nil_of_length_eq_zero hr0
    have hM:rT kn r = .bad r2.length 4 := by rw[hMK, if_neg (by rw[hrn]; decide)]
    rw[hM]
    refine qy (d := 44) rfl (b' := true) ((by rw[decide_eq_false (by omega)]; rfl)) ?_
    have hbe := hb5.drew
    refine zin (hb5.q0) fun zS => ?_
    refine zte 6 rfl rfl zS ?_
    refine zte 7 rfl rfl zS ?_
    refine zte 8 rfl rfl zS ?_
    refine zte 9 rfl rfl zS ?_
    refine zte 10 rfl rfl zS ?_
    refine zte 11 rfl rfl zS ?_
    refine zte 12 rfl rfl zS ?_
    refine zte 13 rfl rfl zS ?_
    refine zte 14 rfl rfl zS ?_
    refine zte 15 rfl rfl zS ?_
    refine zte 16 rfl rfl zS ?_
    refine zte 17 rfl rfl zS ?_
    refine zr 18 rfl zS (fun _ => bz rfl rfl) ?_
    refine I1 (by kernel_rfl) ?_
    refine ai ?_
    refine aO rfl rfl ?_
    refine G8 ?_
    refine Il 8 rfl rfl (by kernel_rfl) (by kernel_rfl) ?_
    refine zw (ix rfl) ?_
    refine zw (aq rfl) ?_
    refine zw (RV.fa rfl) ?_
    refine zw (ix rfl) ?_
    refine zw (aq rfl) ?_
    refine zw (RV.fa rfl) ?_
    refine zw (RV.fa rfl) ?_
    refine zw (RV.ld hbe.q1 rfl) ?_
    refine IL ?_
    refine zc Ik (bB O w5.drew j rb ({s with pos := (m:Int) - (r2.length:Int)}:LS) ((m:Int) - (r2.length:Int)) 4 hj he hbe) ?_
    rintro u w6 ⟨hb6, hU6⟩
    refine G0 ?_
    refine ai ?_
    refine IJ ?_
    refine bJ ?_
    exact cC rfl ⟨O, s.mc, _, _, _, hpv ((hUt5.drew).trans (hU6.mono (fun _ h => .inl h) hz3)), hR5.drew.upd hU6, hb6, rfl, by decide, rfl⟩
   ·have hrn:r2 ≠ [] := fun e => hr0 (by rw[e]; rfl)
    have hgh := lT (vo hs5 hrn)
    rw[hLl]at hgh
    refine qy (d := 44) rfl (b' := false) ((by rw[decide_eq_true (by omega)]; rfl)) ?_
    refine zin (hb5.q0) fun zS => ?_
    refine zro 6 rfl zS (fun _ => ix rfl) ?_
    refine zro 7 rfl zS (fun _ => aq rfl) ?_
    refine zro 8 rfl zS (fun _ => RV.fa rfl) ?_
    refine zro 9 rfl zS (fun _ => RV.fa rfl) ?_
    refine zto 10 rfl zS (fun w1 hw1 => RV.ld hw1 rfl) ?_
    refine zro 11 rfl zS (fun _ => ix rfl) ?_
    refine zro 12 rfl zS (fun _ => aq rfl) ?_
    refine zro 13 rfl zS (fun _ => RV.fa rfl) ?_
    refine zro 14 rfl zS (fun _ => RV.fa rfl) ?_
    refine G4 15 (by kernel_rfl) rfl ?_
    refine bM rfl ?_
    refine zv (RV.ld hb5.q1 rfl) ?_
    refine G0 ?_
    refine zaf (hb5.q0) fun zS => ?_
    refine zro 16 rfl zS (fun _ => bj (c := r2.headD 0) GZ rfl rfl (m - r2.length) (by dsimp only; omega) hgh) ?_
    refine zro 17 rfl zS (fun _ => IK rfl rfl) ?_
    refine zr 18 rfl zS (fun _ => bh rfl rfl) ?_
    refine I1 (by kernel_rfl) ?_
    refine ai ?_
    by_cases hc:r2.headD 0 = 61
    ·have hMX:rT kn r = F5 nm r2 (eG kn r2.tail) := by rw[hMK, if_pos hc]
     obtain⟨k1, k2⟩ := bU (r := r2) (by rw[hc]; decide)
     have hts := k1.trans hs5
     refine aN rfl ((by rw[hc]; rfl)) ?_
     have hbe := hb5.drew
     have hme := hm5.upd (aa (S := fun _ => False) (fun h => h) O (GR w5).drew) hjm (fun h => h)
     have hRe := hR5.drew
     have hUe := hUt5.drew
     have hseg:(s.l.take m).drop (m - r2.tail.length) = r2.tail := by have := Ci hts; rwa[hLl]at this
     have hgX := vz (kn := kn) r2.tail
     generalize hMd:eG kn r2.tail = M at *
     refine Ir ?_
     refine ai ?_
     refine G8 ?_
     refine nq (fun z:(Nat → Nat)×World×Nat×N3 => [(0, nP rb), (3, .string (bs nm)), (5, .pointer (some ⟨z.2.2.1, 0, none⟩)), (6, nI (atX M)), (7, nI (F8 M))]) (fun z:(Nat → Nat)×World×Nat×N3 => z.2.1) (fun z:(Nat → Nat)×World×Nat×N3 => IA z.1 z.2.1 T z.2.2.1 #[nI z.2.2.2.1, nI z.2.2.2.2.1, z.2.2.2.2.2] 86 ∧ Jh z.1 z.2.1 j rb {s with pos := (m:Int) - (r2.length:Int)} ∧ Mac z.1 z.2.1 jm s.mc kn ∧ I8 (fun q => q = j ∨ q = jm ∨ T ≤ q) O w z.1 z.2.1 ∧ Jq B z.1 z.2.1 ∧ z.2.2.2.2.2.oneCell' = true ∧ ∀t, M = .ok t → Nt z.1 z.2.1 t z.2.2.2) ?_ ?_
     ·intro hN
      refine aL (fun V => V.cell? ⟨rb, 0, none⟩ = some (.string (bs s.l)) ∧ V.cell? ⟨rb, 1, none⟩ = some (nI ((m:Int) - (r2.length:Int))) ∧ V.cell? ⟨rb, 2, none⟩ = some (nI s.to) ∧ V.cell? ⟨rb, 9, none⟩ = some s.mc) 30 rfl (by kernel_rfl) ?_
      refine zin ⟨hbe.q0, hbe.q1, hbe.q2, hbe.q9⟩ fun zS => ?_
      refine zrm 0 rfl zS rfl ?_
      refine zr 1 rfl zS (fun _ => aq rfl) ?_
      refine zrf 2 rfl zS rfl ?_
      refine zrf 3 rfl zS rfl ?_
      refine zt 4 rfl zS (fun w1 hw1 => RV.ld hw1.1 rfl) ?_
      refine zrm 5 rfl zS rfl ?_
      refine zr 6 rfl zS (fun _ => aq rfl) ?_
      refine zrf 7 rfl zS rfl ?_
      refine zrf 8 rfl zS rfl ?_
      refine zt 9 rfl zS (fun w1 hw1 => RV.ld hw1.2.1 rfl) ?_
      refine zr 10 rfl zS (fun _ => IT rfl rfl (Io (by omega))) ?_
      refine zrm 11 rfl zS rfl ?_
      refine zr 12 rfl zS (fun _ => aq rfl) ?_
      refine zrf 13 rfl zS rfl ?_
      refine zrf 14 rfl zS rfl ?_
      refine zt 15 rfl zS (fun w1 hw1 => RV.ld hw1.2.2.1 rfl) ?_
      refine zr 16 rfl zS (fun _ => cQ GZ rfl rfl rfl (m - r2.tail.length) m (by omega) hto (by omega) hm) ?_
      refine zrm 17 rfl zS rfl ?_
      refine zr 18 rfl zS (fun _ => aq rfl) ?_
      refine zrf 19 rfl zS rfl ?_
      refine zt 20 rfl zS (fun w1 hw1 => RV.ld hw1.2.2.2 rfl) ?_
      rw[hseg]
      refine bG 21 26 (by kernel_rfl) rfl rfl ?_ ?_
      ·skip
       refine zc call132 (kH s.mc r2.tail B O (forget jm O) w5.drew hRe hRe.forget (hme.known hjm hRe)) ?_
       rintro v w6 ⟨hE6, hP6⟩
       rw[hMd]at hP6
       obtain⟨x, rfl, hxo, hxn⟩ := hP6.shape
       have hX6:I8 (fun _ => False) O w5.drew O w6 := aa (fun h => h) O hE6
       have hb6 := hbe.upd hX6 hj (fun h => h)
       have hm6 := hme.upd hX6 hjm (fun h => h)
       have hR6 := hRe.upd hX6
       have hU6 := hUe.trans (hX6.mono (fun _ h => h.elim) hz3)
       refine G0 ?_
       refine zaf (⟨hb6.q0, hb6.q1, hb6.q2, hb6.q9⟩) fun zS => ?_
       refine zrm 22 rfl zS rfl ?_
       refine zr 23 rfl zS (fun _ => GY rfl rfl) ?_
       refine zr 24 rfl zS (fun _ => GY rfl rfl) ?_
       refine zr 25 rfl zS (fun _ => GY rfl rfl) ?_
       refine G4 26 (by kernel_rfl) rfl ?_
       refine ar hR6 T (by omega) (IC _) rfl ?_
       intro nb w7 O7 hn7 hX7 hR7 hE7
       have hb7 := hb6.upd hX7 hj (by omega)
       have hm7 := hm6.upd hX7 hjm (by omega)
       have hU7 := hU6.trans (hX7.mono (fun _ h => .inr (.inr (I6 h.symm))) hz3)
       refine G0 ?_
       refine ae (⟨hb7.q0, hb7.q1, hb7.q2, hb7.q9⟩) ?_
       refine G4 27 (by kernel_rfl) rfl ?_
       refine zsb (us := #[nI x.1, nI x.2.1, x.2.2]) hn7 (Is _) (bV hxo) ?_
       have hnz := IS (us := #[nI x.1, nI x.2.1, x.2.2]) hn7
       have hXz:I8 (fun q => q = T) O7 w7 O7 (ID w7 nb #[nI x.1, nI x.2.1, x.2.2]) := G9 (by omega) (JM hn7) rfl
       have hbz := ka hb7 hXz hj (by omega)
       refine G0 ?_
       refine zaf (⟨hbz.q0, hbz.q1, hbz.q2, hbz.q9⟩) fun zS => ?_
       refine zra 28 rfl zS rfl ?_
       refine zra 29 rfl zS rfl ?_
       refine I1 (by kernel_rfl) ?_
       exact ij (hN ((O7, ID w7 nb #[nI x.1, nI x.2.1, x.2.2], nb, x)) (⟨hnz, hbz, JZ hm7 hXz hjm (by omega), J1 hU7 (hXz.mono (fun _ h => .inr (.inr (I6 h.symm))) hz3), Jg hR7 hXz, hxo, fun t e => Nt.upd ((fun t e => (hxn t e).upd hX7) t e) hXz⟩)) ⟨rfl, rfl, rfl, rfl, rfl, trivial⟩ rfl
      ·skip
       refine ar hRe T (by omega) (IC _) rfl ?_
       intro nb w6 O6 hn6 hX6 hR6 hE6
       have hb6 := hbe.upd hX6 hj (by omega)
       have hm6 := hme.upd hX6 hjm (by omega)
       have hU6 := hUe.trans (hX6.mono (fun _ h => .inr (.inr (I6 h.symm))) hz3)
       refine G0 ?_
       refine ae (⟨hb6.q0, hb6.q1, hb6.q2, hb6.q9⟩) ?_
       refine G4 21 (by kernel_rfl) rfl ?_
       refine zc call132 (kH s.mc r2.tail B O6 (forget jm O6) w6 hR6 hR6.forget (hm6.known hjm hR6)) ?_
       rintro v w7 ⟨hE7, hP7⟩
       rw[hMd]at hP7
       obtain⟨x, rfl, hxo, hxn⟩ := hP7.shape
       have hX7:I8 (fun _ => False) O6 w6 O6 w7 := aa (fun h => h) O6 hE7
       have hn7 := hn6.upd hX7 (by omega) (fun h => h)
       have hb7 := hb6.upd hX7 hj (fun h => h)
       have hm7 := hm6.upd hX7 hjm (fun h => h)
       have hR7 := hR6.upd hX7
       have hU7 := hU6.trans (hX7.mono (fun _ h => h.elim) hz3)
       refine G0 ?_
       refine zaf (⟨hb7.q0, hb7.q1, hb7.q2, hb7.q9⟩) fun zS => ?_
       refine zrm 22 rfl zS rfl ?_
       refine zr 23 rfl zS (fun _ => GY rfl rfl) ?_
       refine zr 24 rfl zS (fun _ => GY rfl rfl) ?_
       refine zr 25 rfl zS (fun _ => GY rfl rfl) ?_
       refine G4 27 (by kernel_rfl) rfl ?_
       refine zsb (us := #[nI x.1, nI x.2.1, x.2.2]) hn7 (Is _) (bV hxo) ?_
       have hnz := IS (us := #[nI x.1, nI x.2.1, x.2.2]) hn7
       have hXz:I8 (fun q => q = T) O6 w7 O6 (ID w7 nb #[nI x.1, nI x.2.1, x.2.2]) := G9 (by omega) (JM hn7) rfl
       have hbz := ka hb7 hXz hj (by omega)
       refine G0 ?_
       refine zaf (⟨hbz.q0, hbz.q1, hbz.q2, hbz.q9⟩) fun zS => ?_
       refine zra 28 rfl zS rfl ?_
       refine zra 29 rfl zS rfl ?_
       refine I1 (by kernel_rfl) ?_
       exact ij (hN ((O6, ID w7 nb #[nI x.1, nI x.2.1, x.2.2], nb, x)) (⟨hnz, hbz, JZ hm7 hXz hjm (by omega), J1 hU7 (hXz.mono (fun _ h => .inr (.inr (I6 h.symm))) hz3), Jg hR7 hXz, hxo, fun t e => Nt.upd (hxn t e) hXz⟩)) ⟨rfl, rfl, rfl, rfl, rfl, trivial⟩ rfl
     ·rintro⟨O8, w8, nb, x⟩ ⟨hn8, hb8, hm8, hU8, hR8, hxo, hxn⟩
      dsimp only at hn8 hb8 hm8 hU8 hR8 hxo hxn ⊢
      refine ai ?_
      refine G8 ?_
      refine G8 ?_
      refine G7 ?_
      refine zv (ix rfl) ?_
      refine zv (IK rfl rfl) ?_
      refine G0 ?_
      refine ai ?_
      cases M with
      |ok t =>
       rw[hMX]
       refine aN rfl rfl ?_
       have hnt := hxn t rfl
       obtain⟨ms, hrow, hkl2, hke⟩ := hm8
       have hrowD := JH hrow
       have hRD := JT hR8
       have hbD := Iz hb8
       have hnD := Iz hn8
       have hUD := JS hU8
       refine Ir ?_
       refine ai ?_
       refine aL (fun V => ∀(q:Nat) (u:GU), (aX x)[q]? = some u → V.cell? (nA nb q) = some u) 13 rfl (by kernel_rfl) ?_
       refine zin hnD.cellsAdd fun zS => ?_
       refine zrm 0 rfl zS rfl ?_
       refine zrm 1 rfl zS rfl ?_
       refine zr 2 rfl zS (fun _ => aq rfl) ?_
       refine zrf 3 rfl zS rfl ?_
       refine zrm 5 rfl zS rfl ?_
       refine zt 6 rfl zS (fun w1 hw1 => ah (us := aX x) hw1 (Jy _) (Is _) rfl) ?_
       refine zr 7 rfl zS (fun _ => IB (vs := [(0, .string (bs nm)), (1, nv x)]) (cells := (kB (nm, x)).toArray) Fa (JO _) rfl (by kernel_rfl)) ?_
       refine bG 4 8 (by kernel_rfl) rfl rfl ?_ ?_
       ·skip
        refine zv (RV.ld hbD.q9 rfl) ?_
        refine G0 ?_
        refine ae hnD.cellsAdd ?_
        refine G4 8 (by kernel_rfl) rfl ?_
        refine aI elM (enc := kB) (nm, x) rfl rfl rfl (by decide) rfl ?_
        intro w9 h9 hE9
        have hX9:I8 (fun _ => False) O8 (IV w8) O8 w9 := aa (fun h => h) O8 hE9
        have hb9 := hbD.upd hX9 hj (fun h => h)
        have hn9 := hnD.upd hX9 (by omega) (fun h => h)
        have hrow9 := hrowD.upd hX9 hjm (fun h => h)
        have hR9 := hRD.upd hX9
        have hU9 := hUD.trans (hX9.mono (fun _ h => h.elim) hz3)
        refine G0 ?_
        refine ae hn9.cellsAdd ?_
        have hone9:∀u ∈ [((nm, x):M3)], ∀c ∈ kB u, c.oneCell' = true := fun u hu => by
         rw[G5.1 hu]; exact jZ hxo
        refine G4 9 (by kernel_rfl) rfl ?_
        refine aA elM hrow9 hR9 h9 (by simp) rfl rfl (fun _ _ => rfl) hone9 (by simp; omega) (by simp; omega) (by omega) rfl ?_
        intro lv10 w10 O10 hrow10 hX10 hR10
        have hb10 := ka hb9 hX10 hj (by omega)
        have hn10 := ka hn9 hX10 (by omega) (by omega)
        have hl10 := hrow10.one
        have hU10 := hU9.trans (hX10.mono (fun _ h => .inr (.inl h)) hz3)
        refine G0 ?_
        refine zaf (hn10.cellsAdd) fun zS => ?_
        refine zr 10 rfl zS (fun _ => aq rfl) ?_
        refine zrf 11 rfl zS rfl ?_
        refine G4 12 (by kernel_rfl) rfl ?_
        refine ak (j := 9) hb10 rfl (J8 _) hl10 rfl rfl rfl ?_
        have hX11:I8 (fun q => q = j) O10 w10 O10 (I7 w10 ⟨rb, 9, none⟩ lv10) := GV (fun e => hj e.symm) hb10.tag rfl
        have hb11:IA O10 (I7 w10 ⟨rb, 9, none⟩ lv10) j rb ({({s with pos := (m:Int) - (r2.length:Int)}:LS)with mc := lv10}:LS).cells 148 := hb10.set 9 lv10
        have hn11 := hn10.upd hX11 (by omega) (by omega)
        have hrow11 := hrow10.upd hX11 hjm (fun e => hne e.symm)
        have hU11 := hU10.trans (hX11.mono (fun _ h => .inl h) hz3)
        have hR11 := hR10.upd hX11
        refine G0 ?_
        refine ae (hn11.cellsAdd) ?_
        refine I1 (by kernel_rfl) ?_
        have hUz := J5 hU11 hT (S' := fun q => q = j ∨ q = jm) (fun b hb => by rcases hb with hb | hb | hb; exact Jk hb; exact Jj hb; have := hT b; omega) hz2
        exact aG rfl ⟨lowT O10 T, lv10, _, _, _, hUz, hR11.lowT T, hb11.lowT hjT, he, vS (hrow11.lowT hjmT) hkl2 (fun q hq => ⟨(hke q hq).1, (((((hke q hq).2.drew).upd hX9).upd hX10).upd hX11).weak (fun b hb => jN hb)⟩) (((((hnt.drew).upd hX9).upd hX10).upd hX11).weak (fun b hb => jN hb))⟩
       ·skip
        refine aI elM (enc := kB) (nm, x) rfl rfl rfl (by decide) rfl ?_
        intro w9 h9 hE9
        have hX9:I8 (fun _ => False) O8 (IV w8) O8 w9 := aa (fun h => h) O8 hE9
        have hb9 := hbD.upd hX9 hj (fun h => h)
        have hn9 := hnD.upd hX9 (by omega) (fun h => h)
        have hrow9 := hrowD.upd hX9 hjm (fun h => h)
        have hR9 := hRD.upd hX9
        have hU9 := hUD.trans (hX9.mono (fun _ h => h.elim) hz3)
        refine G0 ?_
        refine ae hn9.cellsAdd ?_
        refine G4 4 (by kernel_rfl) rfl ?_
        refine zv (RV.ld hb9.q9 rfl) ?_
        refine G0 ?_
        refine ae hn9.cellsAdd ?_
        have hone9:∀u ∈ [((nm, x):M3)], ∀c ∈ kB u, c.oneCell' = true := fun u hu => by
         rw[G5.1 hu]; exact jZ hxo
        refine G4 9 (by kernel_rfl) rfl ?_
        refine aA elM hrow9 hR9 h9 (by simp) rfl rfl (fun _ _ => rfl) hone9 (by simp; omega) (by simp; omega) (by omega) rfl ?_
        intro lv10 w10 O10 hrow10 hX10 hR10
        have hb10 := ka hb9 hX10 hj (by omega)
        have hn10 := ka hn9 hX10 (by omega) (by omega)
        have hl10 := hrow10.one
        have hU10 := hU9.trans (hX10.mono (fun _ h => .inr (.inl h)) hz3)
        refine G0 ?_
        refine zaf (hn10.cellsAdd) fun zS => ?_
        refine zr 10 rfl zS (fun _ => aq rfl) ?_
        refine zrf 11 rfl zS rfl ?_
        refine G4 12 (by kernel_rfl) rfl ?_
        refine ak (j := 9) hb10 rfl (J8 _) hl10 rfl rfl rfl ?_
        have hX11:I8 (fun q => q = j) O10 w10 O10 (I7 w10 ⟨rb, 9, none⟩ lv10) := GV (fun e => hj e.symm) hb10.tag rfl
        have hb11:IA O10 (I7 w10 ⟨rb, 9, none⟩ lv10) j rb ({({s with pos := (m:Int) - (r2.length:Int)}:LS)with mc := lv10}:LS).cells 148 := hb10.set 9 lv10
        have hn11 := hn10.upd hX11 (by omega) (by omega)
        have hrow11 := hrow10.upd hX11 hjm (fun e => hne e.symm)
        have hU11 := hU10.trans (hX11.mono (fun _ h => .inl h) hz3)
        have hR11 := hR10.upd hX11
        refine G0 ?_
        refine ae (hn11.cellsAdd) ?_
        refine I1 (by kernel_rfl) ?_
        have hUz := J5 hU11 hT (S' := fun q => q = j ∨ q = jm) (fun b hb => by rcases hb with hb | hb | hb; exact Jk hb; exact Jj hb; have := hT b; omega) hz2
        exact aG rfl ⟨lowT O10 T, lv10, _, _, _, hUz, hR11.lowT T, hb11.lowT hjT, he, vS (hrow11.lowT hjmT) hkl2 (fun q hq => ⟨(hke q hq).1, (((((hke q hq).2.drew).upd hX9).upd hX10).upd hX11).weak (fun b hb => jN hb)⟩) (((((hnt.drew).upd hX9).upd hX10).upd hX11).weak (fun b hb => jN hb))⟩
      |bad p e =>
       have hne7 := (hgX p e rfl).1
       have hple := (hgX p e rfl).2
       rw[hMX]
       refine aO rfl ((by simpa[F8]using hne7)) ?_
       have hb8d := hb8.drew
       have hn8d := hn8.drew
       have hm8d := hm8.upd (aa (S := fun _ => False) (fun h => h) O8 (GR w8).drew) hjm (fun h => h)
       refine Il 12 rfl rfl (by kernel_rfl) (by kernel_rfl) ?_
       refine zw (ix rfl) ?_
       refine zw (aq rfl) ?_
       refine zw (RV.fa rfl) ?_
       refine zw (ix rfl) ?_
       refine zw (aq rfl) ?_
       refine zw (RV.fa rfl) ?_
       refine zw (RV.fa rfl) ?_
       refine zw (RV.ld hb8d.q1 rfl) ?_
       refine zw (IT rfl rfl (Io (by dsimp only; omega))) ?_
       refine zw (ix rfl) ?_
       refine zw (IT rfl rfl (Io (by dsimp only[atX]; omega))) ?_
       refine zw (ix rfl) ?_
       refine IL ?_
       refine zc Ik (bB O8 w8.drew j rb ({s with pos := (m:Int) - (r2.length:Int)}:LS) (((m:Int) - (r2.length:Int)) + 1 + (p:Int)) e hj he hb8d) ?_
       rintro u wf ⟨hbf, hUf⟩
       have hnf' := hn8d.upd hUf (by omega) (by omega)
       have hmf' := hm8d.upd hUf hjm (fun e => hne e.symm)
       have hRf' := hR8.drew.upd hUf
       have hUf' := (hU8.drew).trans (hUf.mono (S' := fun q => q = j ∨ q = jm ∨ T ≤ q) (fun _ h => .inl h) hz3)
       have hbf':IA O8 wf j rb ({s with pos := (m:Int) - (r2.length:Int), bad := ((m:Int) - (r2.length:Int)) + 1 + (p:Int), e := e}:LS).cells 148 := hbf
       clear hbf
       obtain⟨ms, hrow, hkl2, hke⟩ := hmf'
       have hrowD := JH hrow
       have hRD := JT hRf'
       have hbD := Iz hbf'
       have hnD := Iz hnf'
       have hUD := JS hUf'
       refine G0 ?_
       refine ai ?_
       refine aL (fun V => ∀(q:Nat) (u:GU), (aX x)[q]? = some u → V.cell? (nA nb q) = some u) 13 rfl (by kernel_rfl) ?_
       refine zin hnD.cellsAdd fun zS => ?_
       refine zrm 0 rfl zS rfl ?_
       refine zrm 1 rfl zS rfl ?_
       refine zr 2 rfl zS (fun _ => aq rfl) ?_
       refine zrf 3 rfl zS rfl ?_
       refine zrm 5 rfl zS rfl ?_
       refine zt 6 rfl zS (fun w1 hw1 => ah (us := aX x) hw1 (Jy _) (Is _) rfl) ?_
       refine zr 7 rfl zS (fun _ => IB (vs := [(0, .string (bs nm)), (1, nv x)]) (cells := (kB (nm, x)).toArray) Fa (JO _) rfl (by kernel_rfl)) ?_
       refine bG 4 8 (by kernel_rfl) rfl rfl ?_ ?_
       ·skip
        refine zv (RV.ld hbD.q9 rfl) ?_
        refine G0 ?_
        refine ae hnD.cellsAdd ?_
        refine G4 8 (by kernel_rfl) rfl ?_
        refine aI elM (enc := kB) (nm, x) rfl rfl rfl (by decide) rfl ?_
        intro w9 h9 hE9
        have hX9:I8 (fun _ => False) O8 (IV wf) O8 w9 := aa (fun h => h) O8 hE9
        have hb9 := hbD.upd hX9 hj (fun h => h)
        have hn9 := hnD.upd hX9 (by omega) (fun h => h)
        have hrow9 := hrowD.upd hX9 hjm (fun h => h)
        have hR9 := hRD.upd hX9
        have hU9 := hUD.trans (hX9.mono (fun _ h => h.elim) hz3)
        refine G0 ?_
        refine ae hn9.cellsAdd ?_
        have hone9:∀u ∈ [((nm, x):M3)], ∀c ∈ kB u, c.oneCell' = true := fun u hu => by
         rw[G5.1 hu]; exact jZ hxo
        refine G4 9 (by kernel_rfl) rfl ?_
        refine aA elM hrow9 hR9 h9 (by simp) rfl rfl (fun _ _ => rfl) hone9 (by simp; omega) (by simp; omega) (by omega) rfl ?_
        intro lv10 w10 O10 hrow10 hX10 hR10
        have hb10 := ka hb9 hX10 hj (by omega)
        have hn10 := ka hn9 hX10 (by omega) (by omega)
        have hl10 := hrow10.one
        have hU10 := hU9.trans (hX10.mono (fun _ h => .inr (.inl h)) hz3)
        refine G0 ?_
        refine zaf (hn10.cellsAdd) fun zS => ?_
        refine zr 10 rfl zS (fun _ => aq rfl) ?_
        refine zrf 11 rfl zS rfl ?_
        refine G4 12 (by kernel_rfl) rfl ?_
        refine ak (j := 9) hb10 rfl (J8 _) hl10 rfl rfl rfl ?_
        have hX11:I8 (fun q => q = j) O10 w10 O10 (I7 w10 ⟨rb, 9, none⟩ lv10) := GV (fun e => hj e.symm) hb10.tag rfl
        have hb11:IA O10 (I7 w10 ⟨rb, 9, none⟩ lv10) j rb ({({s with pos := (m:Int) - (r2.length:Int), bad := ((m:Int) - (r2.length:Int)) + 1 + (p:Int), e := e}:LS)with mc := lv10}:LS).cells 148 := hb10.set 9 lv10
        have hn11 := hn10.upd hX11 (by omega) (by omega)
        have hrow11 := hrow10.upd hX11 hjm (fun e => hne e.symm)
        have hU11 := hU10.trans (hX11.mono (fun _ h => .inl h) hz3)
        have hR11 := hR10.upd hX11
        refine G0 ?_
        refine ae (hn11.cellsAdd) ?_
        refine I1 (by kernel_rfl) ?_
        have hUz := J5 hU11 hT (S' := fun q => q = j ∨ q = jm) (fun b hb => by rcases hb with hb | hb | hb; exact Jk hb; exact Jj hb; have := hT b; omega) hz2
        exact aG rfl ⟨lowT O10 T, lv10, _, _, _, hUz, hR11.lowT T, hb11.lowT hjT, rfl, hne7, by dsimp only; omega⟩
       ·skip
        refine aI elM (enc := kB) (nm, x) rfl rfl rfl (by decide) rfl ?_
        intro w9 h9 hE9
        have hX9:I8 (fun _ => False) O8 (IV wf) O8 w9 := aa (fun h => h) O8 hE9
        have hb9 := hbD.upd hX9 hj (fun h => h)
        have hn9 := hnD.upd hX9 (by omega) (fun h => h)
        have hrow9 := hrowD.upd hX9 hjm (fun h => h)
        have hR9 := hRD.upd hX9
        have hU9 := hUD.trans (hX9.mono (fun _ h => h.elim) hz3)
        refine G0 ?_
        refine ae hn9.cellsAdd ?_
        refine G4 4 (by kernel_rfl) rfl ?_
        refine zv (RV.ld hb9.q9 rfl) ?_
        refine G0 ?_
        refine ae hn9.cellsAdd ?_
        have hone9:∀u ∈ [((nm, x):M3)], ∀c ∈ kB u, c.oneCell' = true := fun u hu => by
         rw[G5.1 hu]; exact jZ hxo
        refine G4 9 (by kernel_rfl) rfl ?_
        refine aA elM hrow9 hR9 h9 (by simp) rfl rfl (fun _ _ => rfl) hone9 (by simp; omega) (by simp; omega) (by omega) rfl ?_
        intro lv10 w10 O10 hrow10 hX10 hR10
        have hb10 := ka hb9 hX10 hj (by omega)
        have hn10 := ka hn9 hX10 (by omega) (by omega)
        have hl10 := hrow10.one
        have hU10 := hU9.trans (hX10.mono (fun _ h => .inr (.inl h)) hz3)
        refine G0 ?_
        refine zaf (hn10.cellsAdd) fun zS => ?_
        refine zr 10 rfl zS (fun _ => aq rfl) ?_
        refine zrf 11 rfl zS rfl ?_
        refine G4 12 (by kernel_rfl) rfl ?_
        refine ak (j := 9) hb10 rfl (J8 _) hl10 rfl rfl rfl ?_
        have hX11:I8 (fun q => q = j) O10 w10 O10 (I7 w10 ⟨rb, 9, none⟩ lv10) := GV (fun e => hj e.symm) hb10.tag rfl
        have hb11:IA O10 (I7 w10 ⟨rb, 9, none⟩ lv10) j rb ({({s with pos := (m:Int) - (r2.length:Int), bad := ((m:Int) - (r2.length:Int)) + 1 + (p:Int), e := e}:LS)with mc := lv10}:LS).cells 148 := hb10.set 9 lv10
        have hn11 := hn10.upd hX11 (by omega) (by omega)
        have hrow11 := hrow10.upd hX11 hjm (fun e => hne e.symm)
        have hU11 := hU10.trans (hX11.mono (fun _ h => .inl h) hz3)
        have hR11 := hR10.upd hX11
        refine G0 ?_
        refine ae (hn11.cellsAdd) ?_
        refine I1 (by kernel_rfl) ?_
        have hUz := J5 hU11 hT (S' := fun q => q = j ∨ q = jm) (fun b hb => by rcases hb with hb | hb | hb; exact Jk hb; exact Jj hb; have := hT b; omega) hz2
        exact aG rfl ⟨lowT O10 T, lv10, _, _, _, hUz, hR11.lowT T, hb11.lowT hjT, rfl, hne7, by dsimp only; omega⟩
    ·have hM:rT kn r = .bad r2.length 4 := by rw[hMK, if_neg hc]
     rw[hM]
     refine aO rfl ((ug _ 61 (by decide) hc)) ?_
     have hbe := hb5.drew
     refine G8 ?_
     refine Il 8 rfl rfl (by kernel_rfl) (by kernel_rfl) ?_
     refine zw (ix rfl) ?_
     refine zw (aq rfl) ?_
     refine zw (RV.fa rfl) ?_
     refine zw (ix rfl) ?_
     refine zw (aq rfl) ?_
     refine zw (RV.fa rfl) ?_
     refine zw (RV.fa rfl) ?_
     refine zw (RV.ld hbe.q1 rfl) ?_
     refine IL ?_
     refine zc Ik (bB O w5.drew j rb ({s with pos := (m:Int) - (r2.length:Int)}:LS) ((m:Int) - (r2.length:Int)) 4 hj he hbe) ?_
     rintro u w6 ⟨hb6, hU6⟩
     refine G0 ?_
     refine ai ?_
     refine IJ ?_
     refine bJ ?_
     exact cC rfl ⟨O, s.mc, _, _, _, hpv ((hUt5.drew).trans (hU6.mono (fun _ h => .inl h) hz3)), hR5.drew.upd hU6, hb6, rfl, by decide, rfl⟩
  ·have hM:rT kn r = .bad (ao r).length (ew kn ((ao r).takeWhile aj)) := by unfold rT; rw[if_neg hnm, if_pos htk]
   rw[hM]
   refine aO rfl ((by simpa using htk)) ?_
   refine G8 ?_
   refine G7 ?_
   refine zv (ix rfl) ?_
   refine zv (aq rfl) ?_
   refine zv (RV.fa rfl) ?_
   refine zv (ix rfl) ?_
   refine zv (ix rfl) ?_
   refine zc Ik (bB O w3 j rb ({s with pos := (m:Int) - (((ao r).dropWhile aj).length:Int)}:LS) ((m:Int) - ((ao r).length:Int)) (ew kn ((ao r).takeWhile aj)) hj he hb3) ?_
   rintro u w4 ⟨hb4, hU4⟩
   refine G0 ?_
   refine ai ?_
   refine IJ ?_
   refine bJ ?_
   exact cC rfl ⟨O, s.mc, _, _, _, hpv (hUt3.trans (hU4.mono (fun _ h => .inl h) hz3)), hR3.upd hU4, hb4, rfl, htk, rfl⟩
end
theorem Gw:Elem IX 25 3 1 8:=⟨J9,by kernel_rfl,zd⟩
inductive LM where
 |ok (l:List Int)
 |bad (p:Nat) (e:Int)
def gq:Nat->List Int->List UInt8->LM
 |0,acc,_=>.ok acc
 |n+1,acc,r=>
  if(ao r).length=0 then .ok acc
  else if(ao r).takeWhile aj=[]then .bad (ao r).length 4
  else match zq ((ao r).takeWhile aj)with
   |none=>.bad (ao r).length 5
   |some c=>gq n (acc++[(c:Int)]) ((ao r).dropWhile aj)
def F4:LM->LM
 |.bad p e=>.bad p e
 |.ok []=>.bad 0 4
 |.ok (a::l)=>.ok (J7 (gx (a::l)))
def cY(r:List UInt8):LM:=F4 (gq (r.length+1) [] r)
theorem qR{x:List UInt8}(h:x.takeWhile aj≠[]):(x.dropWhile aj).length<x.length:=by
 have:=congrArg JF (List.takeWhile_append_dropWhile (p:=aj) (l:=x));rw[Im]at this;have:=J6.2 h;omega
def Fz(m:Nat)(w':GW)(O':Nat->Nat)(ji:Nat)(lv:GU)(bad e:Int):LM->Prop
 |.ok l=>e=0/\Jw encI 3 1 O' w' ji lv l
 |.bad p e'=>e=e'/\e'≠0/\bad=(m:Int)-(p:Int)
theorem oG(O:Nat->Nat)(w:GW)(j rb:Nat)(s:LS)(hj:j≠0)(he:s.e=0)(a0:s.i=true)(h:Jh O w j rb s):
  JI IX 106 [nP rb,.pointer (some ⟨rb,6,none⟩),.pointer (some ⟨rb,10,none⟩)] w fun _ w'=>Jh O w' j rb {s with bad:=s.bg,e:=11}/\I8 (fun k=>k=j) O w O w':=by
 have q0:=h.q10;rw[a0]at q0;have q3:=h.q3;have hd:=h.drew;have a3:I8 (fun k=>k=j) O w O w.drew:=(JR (fun e=>hj e.symm) O w).drew;refine I5 Jz Jp rfl rfl ?_;refine zg ?_;refine zvG (RV.ld q0 rfl) ?_;refine zTG rfl rfl ?_;refine Il 8 rfl rfl zk zk ?_;refine zg ?_;refine zw (RV.ld q3 rfl) ?_;refine IL ?_;refine zc Ik (bB O w.drew j rb s s.bg 11 hj he hd) ?_;rintro u w1 ⟨a1,a2⟩;refine zg ?_;exact cC rfl ⟨a1,a3.trans a2⟩
theorem oF(O:Nat->Nat)(w:GW)(j rb:Nat)(s:LS)(hj:j≠0)(he:s.e=0)(a0:s.k=true)(h:Jh O w j rb s):
  JI IX 106 [nP rb,.pointer (some ⟨rb,7,none⟩),.pointer (some ⟨rb,11,none⟩)] w fun _ w'=>Jh O w' j rb {s with bad:=s.bg,e:=11}/\I8 (fun k=>k=j) O w O w':=by
 have q0:=h.q11;rw[a0]at q0;have q3:=h.q3;have hd:=h.drew;have a3:I8 (fun k=>k=j) O w O w.drew:=(JR (fun e=>hj e.symm) O w).drew;refine I5 Jz Jp rfl rfl ?_;refine zg ?_;refine zvG (RV.ld q0 rfl) ?_;refine zTG rfl rfl ?_;refine Il 8 rfl rfl zk zk ?_;refine zg ?_;refine zw (RV.ld q3 rfl) ?_;refine IL ?_;refine zc Ik (bB O w.drew j rb s s.bg 11 hj he hd) ?_;rintro u w1 ⟨a1,a2⟩;refine zg ?_;exact cC rfl ⟨a1,a3.trans a2⟩
theorem qQ:∀(n:Nat) (a0:List Int) (r:List UInt8) (p:Nat) (e:Int),gq n a0 r=.bad p e->p<=r.length
 |0,_,_,_,_,h=>by cases h
 |n+1,a0,r,p,e,h=>by
  have hs:=cZ r;unfold gq at h
  split at h
  ·cases h
  split at h
  ·cases h;exact hs
  split at h
  ·cases h;exact hs
  have h1:=qQ n _ _ p e h;have h2:=(ln (l:=ao r) aj).length_le;omega
theorem lX{r:List UInt8}{p:Nat}{e:Int}(h:cY r=.bad p e):p<=r.length:=by
 unfold cY at h
 cases hw:gq (r.length+1) [] r with
 |bad q f=>rw[hw]at h;cases h;exact qQ _ _ _ _ _ hw
 |ok l=>
  rw[hw]at h
  cases l with
  |nil=>cases h;exact Iy _
  |cons a l=>cases h
theorem rR(B:Nat)(O:Nat->Nat)(w:GW)(j ji rb:Nat)(s:LS)(m:Nat)(r0:List UInt8)(hR:Jq B O w)(hj:j≠0)(a8:ji≠0)(a9:j≠ji)(hm:m<=s.l.length)(hl:s.l.length<=100000)(d6:s.to=(m:Int))(he:s.e=0)(g1:s.i=false)(g2:s.ig=qH)
  (hr:r0 <:+ s.l.take m) (hp:s.pos=(m:Int)-(r0.length:Int)) (h:Jh O w j rb s) :
  JI IX 106 [nP rb,.pointer (some ⟨rb,6,none⟩),.pointer (some ⟨rb,10,none⟩)] w fun _ w'=>∃O' lv pos bad e,I8 (fun k=>k=j\/k=ji) O w O' w'/\Jq B O' w'/\Jh O' w' j rb {s with pos:=pos,bad:=bad,e:=e,ig:=lv,i:=true}/\Fz m w' O' ji lv bad e (cY r0):=by
 have a0:¬(fun q:Nat=>q=j\/q=ji) 0:=fun e=>by rcases e with e|e;exact hj e.symm;exact a8 e.symm
 have h1:r0.length<=m:=by have:=hr.length_le;simp at this;omega
 have q0:=h.q10;rw[g1]at q0;refine I5 Jz Jp rfl rfl ?_;refine zg ?_;refine zvG (RV.ld q0 rfl) ?_;refine zFG rfl rfl ?_;refine ak (j:=10) h rfl (sizeOf4 _) rfl rfl rfl rfl ?_;have g4:Jh O (w.setCell ⟨rb,10,none⟩ (.bool true)) j rb {s with i:=true}:=JN h 10 _;have f6:I8 (fun k=>k=j) O w O (w.setCell ⟨rb,10,none⟩ (.bool true)):=GV (fun e=>hj e.symm) h.tag rfl;have g7:=hR.upd f6;generalize w.setCell ⟨rb,10,none⟩ (.bool true)=w1 at *;obtain⟨M,d1⟩:∃M,M=gq (r0.length+1) [] r0:=⟨_,rfl⟩
 refine zg ?_;refine zlp (fun y:Nat×List Int×List UInt8×(Nat->Nat)×World×GU=>[(0,nP rb),(1,.pointer (some ⟨rb,6,none⟩))]) (fun y=>y.2.2.2.2.1) (fun y=>Jh y.2.2.2.1 y.2.2.2.2.1 j rb {s with pos:=(m:Int)-(y.2.2.1.length:Int),ig:=y.2.2.2.2.2,i:=true}/\Jw encI 3 1 y.2.2.2.1 y.2.2.2.2.1 ji y.2.2.2.2.2 y.2.1/\y.2.2.1 <:+ s.l.take m/\gq y.1 y.2.1 y.2.2.1=M/\y.2.2.1.length<y.1/\y.2.1.length+y.2.2.1.length<=r0.length/\I8 (fun k=>k=j\/k=ji) O w y.2.2.2.1 y.2.2.2.2.1/\Jq B y.2.2.2.1 y.2.2.2.2.1) (fun y=>y.1) (r0.length+1,[],r0,O,w1,qH) (⟨by dsimp only;rw[<-hp,<-g2];exact g4,Ip _ _ _ _ _ _,hr,d1.symm,Js _,by simp,f6.mono (fun _ h=>.inl h) a0,g7⟩) ?_
 rintro⟨n,d5,r,O1,w2,lv⟩ ⟨f4,b1,b2,a4,hn,g5,f5,f7⟩;dsimp only at f4 b1 b2 a4 hn g5 f5 f7 ⊢;obtain⟨n,rfl⟩:∃q,n=q+1:=⟨n-1,by omega⟩
 have g':=cZ r;unfold gq at a4;refine zg ?_;refine zc J0 (dz O1 w2 j rb ({s with pos:=(m:Int)-((r).length:Int),ig:=lv,i:=true}:LS) m r hj hm hl d6 b2 rfl f4) ?_;rintro v w3 ⟨rfl,b6,e6⟩;have a3:=b1.upd e6 a8 (fun e=>a9 e.symm);have f3:=f7.upd e6;have b9:=f5.trans (e6.mono (fun _ h=>.inl h) a0);refine zg ?_
 by_cases h0:(ao r).length=0
 ·rw[if_pos h0]at a4;refine aN rfl ((decide_eq_false zo)) ?_;have f9:=b6.q6;have d7:=a3.sl;refine zg ?_;refine zv (RV.ld f9 rfl) ?_;refine zvG (Ji (by first|exact d7) J9 rfl) ?_
  rcases d5 with _|⟨a,d5⟩
  ·have hM:cY r0=.bad 0 4:=by unfold cY;rw[<-d1,<-a4];rfl
   rw[hM];refine aO rfl rfl ?_;have d':=b6.q2;dsimp only at d';rw[d6]at d';have hb3d:=b6.drew;have hrow3d:=a3.drew;have hR3d:=f3.drew;have hUt3d:=b9.drew;refine Il 8 rfl rfl zk zk ?_;refine zg ?_;refine zw (RV.ld d' rfl) ?_;refine IL ?_;refine zc Ik (bB O1 w3.drew j rb ({s with pos:=(m:Int)-((ao r).length:Int),ig:=lv,i:=true}:LS) (m:Int) 4 hj he hb3d) ?_;rintro u w7 ⟨b',c5⟩;have a2:=hrow3d.upd c5 a8 (fun e=>a9 e.symm);have e9:=hR3d.upd c5;have e3:=hUt3d.trans (c5.mono (fun _ h=>.inl h) a0);have d9:=JW b';refine zg ?_;refine zv (RV.ld d9 rfl) ?_;refine zc JB (jA e9 a2 a8 zo) ?_;rintro u w8 ⟨a6,a',e8⟩;have b5:=ka b' a' hj a9;have d8:=b5.q6;refine zg ?_;refine zv (RV.ld d8 rfl) ?_;refine zc JA (ek e8 a6 a8 (by rw[dH];omega)) ?_;rintro u w9 ⟨a1,c',e7⟩;have b4:=b5.upd c' hj a9;have a7:=a1.one;refine zg ?_;refine ak (j:=6) b4 rfl (IU _) a7 rfl rfl rfl ?_;have b7:=b4.set 6 u;have a5:I8 (fun k=>k=j) O1 w9 O1 (w9.setCell ⟨rb,6,none⟩ u):=GV (fun e=>hj e.symm) b4.tag rfl;have e1:=((e3.trans (a'.mono (fun _ h=>.inr h) a0)).trans (c'.mono (fun _ h=>.inr h) a0)).trans (a5.mono (fun _ h=>.inl h) a0);refine zg ?_;exact aG rfl ⟨O1,u,_,(m:Int),4,e1,e7.upd a5,b7,⟨rfl,by decide,by simp⟩⟩
  have hM:cY r0=.ok (J7 (gx (a::d5))):=by unfold cY;rw[<-d1,<-a4];rfl
  rw[hM];refine aN rfl ((beq_eq_false_iff_ne.2 (by simp;omega))) ?_;have d9:=JW b6;refine zg ?_;refine zv (RV.ld d9 rfl) ?_;refine zc JB (jA f3 a3 a8 zo) ?_;rintro u w8 ⟨a6,a',e8⟩;have b5:=ka b6 a' hj a9;have d8:=b5.q6;refine zg ?_;refine zv (RV.ld d8 rfl) ?_;refine zc JA (ek e8 a6 a8 (by rw[dH];omega)) ?_;rintro u w9 ⟨a1,c',e7⟩;have b4:=b5.upd c' hj a9;have a7:=a1.one;refine zg ?_;refine ak (j:=6) b4 rfl (IU _) a7 rfl rfl rfl ?_;have b7:=b4.set 6 u;have a5:I8 (fun k=>k=j) O1 w9 O1 (w9.setCell ⟨rb,6,none⟩ u):=GV (fun e=>hj e.symm) b4.tag rfl;have e1:=((b9.trans (a'.mono (fun _ h=>.inr h) a0)).trans (c'.mono (fun _ h=>.inr h) a0)).trans (a5.mono (fun _ h=>.inl h) a0);refine zg ?_;exact aG rfl ⟨O1,u,_,_,_,e1,e7.upd a5,b7,⟨he,a1.upd a5 a8 (fun e=>a9 e.symm)⟩⟩
 rw[if_neg h0]at a4;refine aO rfl ((decide_eq_true zo)) ?_;have f':=b6.q1;have b0:=(aY r).trans b2;refine zg ?_;refine zvG (RV.ld f' rfl) ?_;refine zc Jd (gC O1 w3 j rb ({s with pos:=(m:Int)-((ao r).length:Int),ig:=lv,i:=true}:LS) m (ao r) hj hm hl d6 b0 rfl b6) ?_;rintro v w4 ⟨rfl,g3,e5⟩;have c7:=a3.upd e5 a8 (fun e=>a9 e.symm);have g6:=f3.upd e5;have e4:=b9.trans (e5.mono (fun _ h=>.inl h) a0);refine zg ?_;refine zc call133 (iz ((ao r).takeWhile aj) w4) ?_;rintro v w5 ⟨rfl,g8⟩;have d4:I8 (fun _=>False) O1 w4 O1 w5:=aa (fun h=>h) O1 g8;have d3:=g3.upd d4 hj (fun h=>h);have c6:=c7.upd d4 a8 (fun h=>h);have e':=g6.upd d4;have b8:=e4.trans (d4.mono (fun _ h=>h.elim) a0);refine zg ?_;refine zvG (cA rfl rfl) ?_
 by_cases c9:(ao r).takeWhile aj=[]
 ·rw[if_pos c9]at a4;have hM:cY r0=.bad (ao r).length 4:=by unfold cY;rw[<-d1,<-a4];rfl
  rw[hM];refine zTG rfl ((by simpa using c9)) ?_;refine zc Ik (bB O1 w5 j rb ({s with pos:=(m:Int)-(((ao r).dropWhile aj).length:Int),ig:=lv,i:=true}:LS) ((m:Int)-((ao r).length:Int)) 4 hj he d3) ?_;rintro u w6 ⟨e0,d0⟩;refine zg ?_;exact cC rfl ⟨O1,lv,_,_,_,b8.trans (d0.mono (fun _ h=>.inl h) a0),e'.upd d0,e0,rfl,by decide,rfl⟩
 rw[if_neg c9]at a4;have g9:=qR c9;refine zFG rfl ((by simpa using c9)) ?_
 cases b3:zq ((ao r).takeWhile aj)with
 |none=>
  rw[b3]at a4;have hM:cY r0=.bad (ao r).length 5:=by unfold cY;rw[<-d1,<-a4];rfl
  rw[hM];refine zTG rfl rfl ?_;refine zc Ik (bB O1 w5 j rb ({s with pos:=(m:Int)-(((ao r).dropWhile aj).length:Int),ig:=lv,i:=true}:LS) ((m:Int)-((ao r).length:Int)) 5 hj he d3) ?_;rintro u w6 ⟨e0,d0⟩;refine zg ?_;exact cC rfl ⟨O1,lv,_,_,_,b8.trans (d0.mono (fun _ h=>.inl h) a0),e'.upd d0,e0,rfl,by decide,rfl⟩
 |some c=>
  rw[b3]at a4;dsimp only at a4;have g0:Cm ((ao r).takeWhile aj)=(c:Int):=by unfold Cm;rw[b3]
  rw[g0];refine aN rfl rfl ?_;have f8:=d3.q6;refine zg ?_;refine zvG (RV.ld f8 rfl) ?_;refine K1 Gw c6 e' ((c:Int)) (fun _=>rfl) rfl rfl rfl (by simp[I9,encI]) zo zo zo zd rfl rfl ?_;intro d2 w7 O7 a2 c5 e9;have c8:=a2.one;have b':=d3.upd c5 hj a9;refine zg ?_;refine ak (j:=6) b' rfl (IU _) c8 rfl rfl rfl ?_;have b5:=b'.set 6 d2;have a':I8 (fun k=>k=j) O7 w7 O7 (w7.setCell ⟨rb,6,none⟩ d2):=GV (fun e=>hj e.symm) b'.tag rfl;have e2:=(b8.trans (c5.mono (fun _ h=>.inr h) a0)).trans (a'.mono (fun _ h=>.inl h) a0);refine zg ?_;refine zxd (n,d5++[(c:Int)],(ao r).dropWhile aj,O7,(w7.setCell ⟨rb,6,none⟩ d2),d2) (⟨b5,a2.upd a' a8 (fun e=>a9 e.symm),(ln _).trans b0,a4,by dsimp only;omega,by simp;omega,e2,e9.upd a'⟩)
theorem rQ(B:Nat)(O:Nat->Nat)(w:GW)(j ji rb:Nat)(s:LS)(m:Nat)(r0:List UInt8)(hR:Jq B O w)(hj:j≠0)(a8:ji≠0)(a9:j≠ji)(hm:m<=s.l.length)(hl:s.l.length<=100000)(d6:s.to=(m:Int))(he:s.e=0)(g1:s.k=false)(g2:s.kp=qH)
  (hr:r0 <:+ s.l.take m) (hp:s.pos=(m:Int)-(r0.length:Int)) (h:Jh O w j rb s) :
  JI IX 106 [nP rb,.pointer (some ⟨rb,7,none⟩),.pointer (some ⟨rb,11,none⟩)] w fun _ w'=>∃O' lv pos bad e,I8 (fun k=>k=j\/k=ji) O w O' w'/\Jq B O' w'/\Jh O' w' j rb {s with pos:=pos,bad:=bad,e:=e,kp:=lv,k:=true}/\Fz m w' O' ji lv bad e (cY r0):=by
 have a0:¬(fun q:Nat=>q=j\/q=ji) 0:=fun e=>by rcases e with e|e;exact hj e.symm;exact a8 e.symm
 have h1:r0.length<=m:=by have:=hr.length_le;simp at this;omega
 have q0:=h.q11;rw[g1]at q0;refine I5 Jz Jp rfl rfl ?_;refine zg ?_;refine zvG (RV.ld q0 rfl) ?_;refine zFG rfl rfl ?_;refine ak (j:=11) h rfl (sizeOf4 _) rfl rfl rfl rfl ?_;have g4:Jh O (w.setCell ⟨rb,11,none⟩ (.bool true)) j rb {s with k:=true}:=JN h 11 _;have f6:I8 (fun k=>k=j) O w O (w.setCell ⟨rb,11,none⟩ (.bool true)):=GV (fun e=>hj e.symm) h.tag rfl;have g7:=hR.upd f6;generalize w.setCell ⟨rb,11,none⟩ (.bool true)=w1 at *;obtain⟨M,d1⟩:∃M,M=gq (r0.length+1) [] r0:=⟨_,rfl⟩
 refine zg ?_;refine zlp (fun y:Nat×List Int×List UInt8×(Nat->Nat)×World×GU=>[(0,nP rb),(1,.pointer (some ⟨rb,7,none⟩))]) (fun y=>y.2.2.2.2.1) (fun y=>Jh y.2.2.2.1 y.2.2.2.2.1 j rb {s with pos:=(m:Int)-(y.2.2.1.length:Int),kp:=y.2.2.2.2.2,k:=true}/\Jw encI 3 1 y.2.2.2.1 y.2.2.2.2.1 ji y.2.2.2.2.2 y.2.1/\y.2.2.1 <:+ s.l.take m/\gq y.1 y.2.1 y.2.2.1=M/\y.2.2.1.length<y.1/\y.2.1.length+y.2.2.1.length<=r0.length/\I8 (fun k=>k=j\/k=ji) O w y.2.2.2.1 y.2.2.2.2.1/\Jq B y.2.2.2.1 y.2.2.2.2.1) (fun y=>y.1) (r0.length+1,[],r0,O,w1,qH) (⟨by dsimp only;rw[<-hp,<-g2];exact g4,Ip _ _ _ _ _ _,hr,d1.symm,Js _,by simp,f6.mono (fun _ h=>.inl h) a0,g7⟩) ?_
 rintro⟨n,d5,r,O1,w2,lv⟩ ⟨f4,b1,b2,a4,hn,g5,f5,f7⟩;dsimp only at f4 b1 b2 a4 hn g5 f5 f7 ⊢;obtain⟨n,rfl⟩:∃q,n=q+1:=⟨n-1,by omega⟩
 have g':=cZ r;unfold gq at a4;refine zg ?_;refine zc J0 (dz O1 w2 j rb ({s with pos:=(m:Int)-((r).length:Int),kp:=lv,k:=true}:LS) m r hj hm hl d6 b2 rfl f4) ?_;rintro v w3 ⟨rfl,b6,e6⟩;have a3:=b1.upd e6 a8 (fun e=>a9 e.symm);have f3:=f7.upd e6;have b9:=f5.trans (e6.mono (fun _ h=>.inl h) a0);refine zg ?_
 by_cases h0:(ao r).length=0
 ·rw[if_pos h0]at a4;refine aN rfl ((decide_eq_false zo)) ?_;have f9:=b6.q7;have d7:=a3.sl;refine zg ?_;refine zv (RV.ld f9 rfl) ?_;refine zvG (Ji (by first|exact d7) J9 rfl) ?_
  rcases d5 with _|⟨a,d5⟩
  ·have hM:cY r0=.bad 0 4:=by unfold cY;rw[<-d1,<-a4];rfl
   rw[hM];refine aO rfl rfl ?_;have d':=b6.q2;dsimp only at d';rw[d6]at d';have hb3d:=b6.drew;have hrow3d:=a3.drew;have hR3d:=f3.drew;have hUt3d:=b9.drew;refine Il 8 rfl rfl zk zk ?_;refine zg ?_;refine zw (RV.ld d' rfl) ?_;refine IL ?_;refine zc Ik (bB O1 w3.drew j rb ({s with pos:=(m:Int)-((ao r).length:Int),kp:=lv,k:=true}:LS) (m:Int) 4 hj he hb3d) ?_;rintro u w7 ⟨b',c5⟩;have a2:=hrow3d.upd c5 a8 (fun e=>a9 e.symm);have e9:=hR3d.upd c5;have e3:=hUt3d.trans (c5.mono (fun _ h=>.inl h) a0);have d9:=JV b';refine zg ?_;refine zv (RV.ld d9 rfl) ?_;refine zc JB (jA e9 a2 a8 zo) ?_;rintro u w8 ⟨a6,a',e8⟩;have b5:=ka b' a' hj a9;have d8:=b5.q7;refine zg ?_;refine zv (RV.ld d8 rfl) ?_;refine zc JA (ek e8 a6 a8 (by rw[dH];omega)) ?_;rintro u w9 ⟨a1,c',e7⟩;have b4:=b5.upd c' hj a9;have a7:=a1.one;refine zg ?_;refine ak (j:=7) b4 rfl (IU _) a7 rfl rfl rfl ?_;have b7:=b4.set 7 u;have a5:I8 (fun k=>k=j) O1 w9 O1 (w9.setCell ⟨rb,7,none⟩ u):=GV (fun e=>hj e.symm) b4.tag rfl;have e1:=((e3.trans (a'.mono (fun _ h=>.inr h) a0)).trans (c'.mono (fun _ h=>.inr h) a0)).trans (a5.mono (fun _ h=>.inl h) a0);refine zg ?_;exact aG rfl ⟨O1,u,_,(m:Int),4,e1,e7.upd a5,b7,⟨rfl,by decide,by simp⟩⟩
  have hM:cY r0=.ok (J7 (gx (a::d5))):=by unfold cY;rw[<-d1,<-a4];rfl
  rw[hM];refine aN rfl ((beq_eq_false_iff_ne.2 (by simp;omega))) ?_;have d9:=JV b6;refine zg ?_;refine zv (RV.ld d9 rfl) ?_;refine zc JB (jA f3 a3 a8 zo) ?_;rintro u w8 ⟨a6,a',e8⟩;have b5:=ka b6 a' hj a9;have d8:=b5.q7;refine zg ?_;refine zv (RV.ld d8 rfl) ?_;refine zc JA (ek e8 a6 a8 (by rw[dH];omega)) ?_;rintro u w9 ⟨a1,c',e7⟩;have b4:=b5.upd c' hj a9;have a7:=a1.one;refine zg ?_;refine ak (j:=7) b4 rfl (IU _) a7 rfl rfl rfl ?_;have b7:=b4.set 7 u;have a5:I8 (fun k=>k=j) O1 w9 O1 (w9.setCell ⟨rb,7,none⟩ u):=GV (fun e=>hj e.symm) b4.tag rfl;have e1:=((b9.trans (a'.mono (fun _ h=>.inr h) a0)).trans (c'.mono (fun _ h=>.inr h) a0)).trans (a5.mono (fun _ h=>.inl h) a0);refine zg ?_;exact aG rfl ⟨O1,u,_,_,_,e1,e7.upd a5,b7,⟨he,a1.upd a5 a8 (fun e=>a9 e.symm)⟩⟩
 rw[if_neg h0]at a4;refine aO rfl ((decide_eq_true zo)) ?_;have f':=b6.q1;have b0:=(aY r).trans b2;refine zg ?_;refine zvG (RV.ld f' rfl) ?_;refine zc Jd (gC O1 w3 j rb ({s with pos:=(m:Int)-((ao r).length:Int),kp:=lv,k:=true}:LS) m (ao r) hj hm hl d6 b0 rfl b6) ?_;rintro v w4 ⟨rfl,g3,e5⟩;have c7:=a3.upd e5 a8 (fun e=>a9 e.symm);have g6:=f3.upd e5;have e4:=b9.trans (e5.mono (fun _ h=>.inl h) a0);refine zg ?_;refine zc call133 (iz ((ao r).takeWhile aj) w4) ?_;rintro v w5 ⟨rfl,g8⟩;have d4:I8 (fun _=>False) O1 w4 O1 w5:=aa (fun h=>h) O1 g8;have d3:=g3.upd d4 hj (fun h=>h);have c6:=c7.upd d4 a8 (fun h=>h);have e':=g6.upd d4;have b8:=e4.trans (d4.mono (fun _ h=>h.elim) a0);refine zg ?_;refine zvG (cA rfl rfl) ?_
 by_cases c9:(ao r).takeWhile aj=[]
 ·rw[if_pos c9]at a4;have hM:cY r0=.bad (ao r).length 4:=by unfold cY;rw[<-d1,<-a4];rfl
  rw[hM];refine zTG rfl ((by simpa using c9)) ?_;refine zc Ik (bB O1 w5 j rb ({s with pos:=(m:Int)-(((ao r).dropWhile aj).length:Int),kp:=lv,k:=true}:LS) ((m:Int)-((ao r).length:Int)) 4 hj he d3) ?_;rintro u w6 ⟨e0,d0⟩;refine zg ?_;exact cC rfl ⟨O1,lv,_,_,_,b8.trans (d0.mono (fun _ h=>.inl h) a0),e'.upd d0,e0,rfl,by decide,rfl⟩
 rw[if_neg c9]at a4;have g9:=qR c9;refine zFG rfl ((by simpa using c9)) ?_
 cases b3:zq ((ao r).takeWhile aj)with
 |none=>
  rw[b3]at a4;have hM:cY r0=.bad (ao r).length 5:=by unfold cY;rw[<-d1,<-a4];rfl
  rw[hM];refine zTG rfl rfl ?_;refine zc Ik (bB O1 w5 j rb ({s with pos:=(m:Int)-(((ao r).dropWhile aj).length:Int),kp:=lv,k:=true}:LS) ((m:Int)-((ao r).length:Int)) 5 hj he d3) ?_;rintro u w6 ⟨e0,d0⟩;refine zg ?_;exact cC rfl ⟨O1,lv,_,_,_,b8.trans (d0.mono (fun _ h=>.inl h) a0),e'.upd d0,e0,rfl,by decide,rfl⟩
 |some c=>
  rw[b3]at a4;dsimp only at a4;have g0:Cm ((ao r).takeWhile aj)=(c:Int):=by unfold Cm;rw[b3]
  rw[g0];refine aN rfl rfl ?_;have f8:=d3.q7;refine zg ?_;refine zvG (RV.ld f8 rfl) ?_;refine K1 Gw c6 e' ((c:Int)) (fun _=>rfl) rfl rfl rfl (by simp[I9,encI]) zo zo zo zd rfl rfl ?_;intro d2 w7 O7 a2 c5 e9;have c8:=a2.one;have b':=d3.upd c5 hj a9;refine zg ?_;refine ak (j:=7) b' rfl (IU _) c8 rfl rfl rfl ?_;have b5:=b'.set 7 d2;have a':I8 (fun k=>k=j) O7 w7 O7 (w7.setCell ⟨rb,7,none⟩ d2):=GV (fun e=>hj e.symm) b'.tag rfl;have e2:=(b8.trans (c5.mono (fun _ h=>.inr h) a0)).trans (a'.mono (fun _ h=>.inl h) a0);refine zg ?_;refine zxd (n,d5++[(c:Int)],(ao r).dropWhile aj,O7,(w7.setCell ⟨rb,7,none⟩ d2),d2) (⟨b5,a2.upd a' a8 (fun e=>a9 e.symm),(ln _).trans b0,a4,by dsimp only;omega,by simp;omega,e2,e9.upd a'⟩)
structure St where
 ts:List R3
 li:List Int
 lk:List Int
 hi:Bool
 hk:Bool
inductive RS where
 |go (s:St)
 |bad (p:Nat) (e:Int)
 |other
def Ge(st:St)(d:Nat):LM->RS
 |.ok l=>.go {st with li:=l,hi:=true}
 |.bad p e=>.bad (d-p) e
def Gd(st:St)(d:Nat):LM->RS
 |.ok l=>.go {st with lk:=l,hk:=true}
 |.bad p e=>.bad (d-p) e
def Gc(st:St)(d:Nat):LR->RS
 |.ok t=>.go {st with ts:=st.ts++[t]}
 |.bad p e=>.bad (d+p) e
structure Mem(O:Nat->Nat)(w:GW)(jr ji jk:Nat)(s:LS)(st:St):Prop where
 ru:∃xs,Jw cd 88 7 O w jr s.ru xs/\st.ts.length=xs.length/\xs.length<=40/\∀i,i<xs.length->Rt O w (nth st.ts i) (nth xs i)
 ig:Jw encI 3 1 O w ji s.ig st.li
 kp:Jw encI 3 1 O w jk s.kp st.lk
 fi:s.i=st.hi
 fk:s.k=st.hk
 ni:st.hi=false->s.ig=qH
 nk:st.hk=false->s.kp=qH
theorem Mem.upd{S:Nat->Prop}{O O':Nat->Nat}{w w':GW}{jr ji jk:Nat}{s:LS}{st:St}(h:Mem O w jr ji jk s st)(u:I8 S O w O' w')(h1:jr≠0)(h2:ji≠0)(h3:jk≠0)(g1:¬S jr)(g2:¬S ji)(g3:¬S jk):Mem O' w' jr ji jk s st:=by
 obtain⟨⟨xs,a1,a2,a3,a4⟩,b,c,d,e,f,g⟩:=h;exact⟨⟨xs,a1.upd u h1 g1,a2,a3,fun i hi=>(a4 i hi).upd u⟩,b.upd u h2 g2,c.upd u h3 g3,d,e,f,g⟩
theorem Mem.with{O:Nat->Nat}{w:GW}{jr ji jk:Nat}{s s':LS}{st:St}(h:Mem O w jr ji jk s st)(e1:s'.ru=s.ru)(e2:s'.ig=s.ig)(e3:s'.kp=s.kp)(e4:s'.i=s.i)(e5:s'.k=s.k):Mem O w jr ji jk s' st:=by
 obtain⟨a,b,c,d,e,f,g⟩:=h;exact⟨by rw[e1];exact a,by rw[e2];exact b,by rw[e3];exact c,by rw[e4];exact d,by rw[e5];exact e,by rw[e2];exact f,by rw[e3];exact g⟩
section
variable{kn:Kn}
inductive RK where
 |go (kn:Kn) (st:St)
 |bad (p:Nat) (e:Int)
def nQ(kn:Kn):RS->RK
 |.go st=>.go kn st
 |.bad p e=>.bad p e
 |.other=>.bad 0 0
def FL(kn:Kn)(st:St)(d:Nat):ML->RK
 |.ok x=>.go (kn++[x]) st
 |.bad p e=>.bad (d-p) e
def cI(kn:Kn)(st:St)(a0:List UInt8):RK:=
 if(aZ a0).length=0 then .go kn st
 else if((aZ a0).takeWhile aj==[108,101,116])=true then FL kn st (bt a0).length (rT kn ((aZ a0).dropWhile aj))
 else if((aZ a0).takeWhile aj==[105,103,110,111,114,101])=true then
  (if st.hi=true then .bad ((bt a0).length-(aZ a0).length) 11 else nQ kn (Ge st (bt a0).length (cY ((aZ a0).dropWhile aj))))
 else if((aZ a0).takeWhile aj==[107,101,101,112])=true then
  (if st.hk=true then .bad ((bt a0).length-(aZ a0).length) 11 else nQ kn (Gd st (bt a0).length (cY ((aZ a0).dropWhile aj))))
 else nQ kn (Gc st ((bt a0).length-(aZ a0).length) (if st.ts.length=40 then Jl 0 3 else iO kn (aZ a0)))
def Fy(B:Nat)(O:Nat->Nat)(w w':GW)(j jr ji jk jm rb:Nat)(s:LS)(fr:Nat)(M:RK):Prop:=
 ∃O' s',I8 (fun k=>k=j\/k=jr\/k=ji\/k=jk\/k=jm) O w O' w'/\Jq B O' w'/\Jh O' w' j rb s'/\s'.l=s.l/\
  match M with
  |.go kn' st'=>s'.e=0/\Mem O' w' jr ji jk s' st'/\Mac O' w' jm s'.mc kn'
  |.bad p e=>e≠0/\s'.e=e/\s'.bad=(fr:Int)+(p:Int)
theorem zL{r:List UInt8}{p:Nat}{e:Int}(h:rT kn r=.bad p e):p<=r.length:=by
 have h1:=cZ r;have h2:=(ln (l:=ao r) aj).length_le;have h3:=cZ ((ao r).dropWhile aj);unfold rT at h
 split at h
 ·cases h;omega
 split at h
 ·cases h;omega
 split at h
 ·cases hx:eG kn (ao ((ao r).dropWhile aj)).tail with
  |ok t=>rw[hx]at h;cases h
  |bad q f=>rw[hx]at h;cases h;omega
 cases h;omega
theorem ry(B:Nat)(O:Nat->Nat)(w:GW)(j jr ji jk jm rb:Nat)(s:LS)(fr to:Nat)(a0:List UInt8)(st:St)(hR:Jq B O w)(hj:j≠0)(b8:jr≠0)(b':ji≠0)(b9:jk≠0)(d1:j≠jr)(d0:j≠ji)(c':j≠jk)(h6:jr≠ji)(h5:jr≠jk)(h4:ji≠jk)(b4:jm≠0)(c7:j≠jm)(g4:jr≠jm)(h3:ji≠jm)(e8:jk≠jm)(g6:kn.length<=100000)(j1:fr<=to)(i':to<=s.l.length)(d5:s.l.length<=100000)(he:s.e=0) 
  (f':(s.l.take to).drop fr=a0) (i0:Mem O w jr ji jk s st) (i2:Mac O w jm s.mc kn) (h:Jh O w j rb s) :
  JI IX 73 [nP rb,nI fr,nI to] w fun _ w'=>Fy B O w w' j jr ji jk jm rb s fr (cI kn st a0):=by
 have c5:¬(fun q:Nat=>q=j\/q=jr\/q=ji\/q=jk\/q=jm) 0:=fun e=>by rcases e with e|e|e|e|e;exact hj e.symm;exact b8 e.symm;exact b' e.symm;exact b9 e.symm;exact b4 e.symm
 have h8:¬(fun q:Nat=>q=j) 0:=fun e=>hj e.symm
 have j0:a0.length=to-fr:=by rw[<-f'];simp;omega
 have j9:(aZ a0).length<=(bt a0).length:=cZ _;have j':(bt a0).length<=a0.length:=(Ii (l:=a0) _).length_le;obtain⟨m,i1⟩:∃m,m=fr+(bt a0).length:=⟨_,rfl⟩
 have d4:m<=s.l.length:=zo;have g8:(s.l.take m).drop fr=bt a0:=by
  have h1:bt a0=a0.take (bt a0).length:=List.prefix_iff_eq_take.1 (Ii _);have h2:(a0.take (bt a0).length)=(s.l.take m).drop fr:=by
   conv=>lhs;arg 2;rw[<-f']
   rw[List.take_drop,Ju,IW zo,i1]
  rw[<-h2,<-h1]
 have d6:bt a0 <:+ s.l.take m:=by rw[<-g8];exact List.drop_suffix _ _
 have b2:aZ a0 <:+ s.l.take m:=(aY _).trans d6;have f7:(fr:Int)=(m:Int)-((bt a0).length:Int):=zo;have g7:(m:Int)-((ao (bt a0)).length:Int)=((m-(aZ a0).length:Nat):Int):=by
  have:(ao (bt a0)).length=(aZ a0).length:=rfl;omega
 refine I5 func73 ntmps73 rfl rfl ?_;refine zh ?_
 refine ak (j:=1) h rfl (Jb _) rfl rfl rfl rfl ?_;have i5:=h.s_pos (fr:Int);have j5:I8 (fun k=>k=j) O w O (w.setCell ⟨rb,1,none⟩ (nI (fr:Int))):=GV h8 h.tag rfl;refine zh ?_
 refine ak (j:=2) i5 rfl (Jb _) rfl rfl rfl rfl ?_;have g9:=i5.s_to (to:Int);have j4:I8 (fun k=>k=j) O (w.setCell ⟨rb,1,none⟩ (nI (fr:Int))) O ((w.setCell ⟨rb,1,none⟩ (nI (fr:Int))).setCell ⟨rb,2,none⟩ (nI (to:Int))):=GV h8 i5.tag rfl;have e7:=j5.trans j4;have f8:=i0.upd e7 b8 b' b9 (fun e=>d1 e.symm) (fun e=>d0 e.symm) (fun e=>c' e.symm);have f9:=i2.upd e7 b4 (fun e=>c7 e.symm);have i9:=hR.upd e7;generalize (w.setCell ⟨rb,1,none⟩ (nI (fr:Int))).setCell ⟨rb,2,none⟩ (nI (to:Int))=w2 at *;refine zh ?_
 refine zvH (RV.ld g9.q0 rfl) ?_;refine zv (cQ GZ rfl rfl rfl fr to rfl rfl j1 i') ?_
 rw[show({s with pos:=(fr:Int),to:=(to:Int)}:LS).l=s.l from rfl,f'];refine zc call72 (dj a0 35 w2) ?_;rintro v w9 ⟨rfl,i8⟩;rw[i8];clear i8 w9
 cases hf:a0.findIdx? (· == 35)with
 |none=>
  have hi:qJ a0 35 = -1:=by unfold qJ;rw[hf]
  have i3:=xU hf;rw[hi];obtain rfl:m=to:=by rw[i1,i3,j0];omega
  refine zh ?_;refine aN rfl rfl ?_
  have e0:=f8;have e3:=f9;have i7:=i9;have g2:=e7.mono (S':=fun k=>k=j\/k=jr\/k=ji\/k=jk\/k=jm) (fun _ h=>.inl h) c5;refine zh ?_;refine zc J0 (dz O w2 j rb ({s with pos:=(fr:Int),to:=(m:Int)}:LS) m (bt a0) hj d4 d5 rfl d6 f7 g9) ?_;rintro v w4 ⟨rfl,e5,f5⟩;have c8:=e0.upd f5 b8 b' b9 (fun e=>d1 e.symm) (fun e=>d0 e.symm) (fun e=>c' e.symm);have c9:=e3.upd f5 b4 (fun e=>c7 e.symm);have g':=i7.upd f5;have e6:=g2.trans (f5.mono (fun _ h=>.inl h) c5);refine zh ?_
  by_cases h0:(aZ a0).length=0
  ·have hM:cI kn st a0=.go kn st:=by unfold cI;rw[if_pos h0]
   rw[hM];refine zTH rfl ((by have d3:(ao (bt a0)).length=0:=h0;simp[d3])) ?_;exact cC rfl ⟨O,_,e6,g',e5,rfl,he,c8.with rfl rfl rfl rfl rfl,c9⟩
  have d3:(ao (bt a0)).length=(aZ a0).length:=rfl;refine zFH rfl ((by rw[d3,decide_eq_true zo];rfl)) ?_;refine zvH (RV.ld e5.q1 rfl) ?_;refine ak (j:=3) e5 rfl (Jb _) rfl rfl rfl rfl ?_;have i4:=e5.s_bg ((m:Int)-((ao (bt a0)).length:Int));have f4:I8 (fun k=>k=j) O w4 O (w4.setCell ⟨rb,3,none⟩ (nI ((m:Int)-((ao (bt a0)).length:Int)))):=GV (fun e=>hj e.symm) e5.tag rfl;have d':=c8.upd f4 b8 b' b9 (fun e=>d1 e.symm) (fun e=>d0 e.symm) (fun e=>c' e.symm);have e2:=c9.upd f4 b4 (fun e=>c7 e.symm);have i6:=g'.upd f4;have g1:=e6.trans (f4.mono (fun _ h=>.inl h) c5);generalize w4.setCell ⟨rb,3,none⟩ (nI ((m:Int)-((ao (bt a0)).length:Int)))=w5 at *;refine zh ?_;refine zc Jd (gC O w5 j rb ({s with pos:=((m:Int)-((ao (bt a0)).length:Int)),to:=(m:Int),bg:=((m:Int)-((ao (bt a0)).length:Int))}:LS) m (aZ a0) hj d4 d5 rfl b2 rfl i4) ?_;rintro v w6 ⟨rfl,e9,f3⟩;have a9:=d'.upd f3 b8 b' b9 (fun e=>d1 e.symm) (fun e=>d0 e.symm) (fun e=>c' e.symm);have a':=e2.upd f3 b4 (fun e=>c7 e.symm);have f6:=i6.upd f3;have c6:=g1.trans (f3.mono (fun _ h=>.inl h) c5);have j2:=(ln (l:=aZ a0) aj).length_le;refine zh ?_;refine zvH (cA rfl rfl) ?_
  cases d2:((aZ a0).takeWhile aj==[108,101,116])with
  |true=>
   have hM:cI kn st a0=FL kn st (bt a0).length (rT kn ((aZ a0).dropWhile aj)):=by unfold cI;rw[if_neg h0,if_pos d2]
   rw[hM];refine zTH rfl rfl ?_;refine zc call105 (zK B O w6 j jm rb ({s with pos:=(m:Int)-(((aZ a0).dropWhile aj).length:Int),to:=(m:Int),bg:=((m:Int)-((ao (bt a0)).length:Int))}:LS) m ((aZ a0).dropWhile aj) f6 hj b4 c7 d4 d5 rfl he ((ln _).trans b2) rfl g6 a' e9) ?_;rintro u w7 ⟨O7,v7,pos,bad,e,a5,b7,b1,a7⟩;have a6:=c6.trans (a5.mono (S':=fun k=>k=j\/k=jr\/k=ji\/k=jk\/k=jm) (fun _ h=>by rcases h with h|h;exact .inl h;exact .inr (.inr (.inr (.inr h)))) c5);have d9:=a9.upd a5 b8 b' b9 (fun h=>by rcases h with h|h;exact d1 h.symm;exact g4 h) (fun h=>by rcases h with h|h;exact d0 h.symm;exact h3 h) (fun h=>by rcases h with h|h;exact c' h.symm;exact e8 h);refine zh ?_
   cases hq:rT kn ((aZ a0).dropWhile aj)with
   |ok x=>
    rw[hq]at a7;obtain⟨b6,e1⟩:=a7;exact aG rfl ⟨O7,_,a6,b7,b1,rfl,b6,d9.with rfl rfl rfl rfl rfl,e1⟩
   |bad p e'=>
    rw[hq]at a7;obtain⟨b6,b3,b0⟩:=a7;have d8:=zL hq;exact aG rfl ⟨O7,_,a6,b7,b1,rfl,b3,b6,by dsimp only;rw[b0];omega⟩
  |false=>
  refine zFH rfl rfl ?_;refine zvH (cA rfl rfl) ?_
  cases e4:((aZ a0).takeWhile aj==[105,103,110,111,114,101])with
  |true=>
   refine aO rfl rfl ?_;have hb6d:=e9.drew;have hmem6d:=a9.upd (aa (S:=fun _=>False) (fun h=>h) O (GR w6).drew) b8 b' b9 (fun h=>h) (fun h=>h) (fun h=>h);have hmac6d:=a'.upd (aa (S:=fun _=>False) (fun h=>h) O (GR w6).drew) b4 (fun h=>h);have hR6d:=f6.drew;have hUt6d:=c6.drew;refine Il 8 rfl rfl zk zk ?_
   refine zh ?_;refine IL ?_
   cases b5:st.hi with
   |true=>
    have hM:cI kn st a0=.bad ((bt a0).length-(aZ a0).length) 11:=by unfold cI;rw[if_neg h0,if_neg (by rw[d2];decide),if_pos e4,if_pos b5]
    rw[hM];refine zc II (oG O w6.drew j rb ({s with pos:=(m:Int)-(((aZ a0).dropWhile aj).length:Int),to:=(m:Int),bg:=((m:Int)-((ao (bt a0)).length:Int))}:LS) hj he (hmem6d.fi.trans b5) hb6d) ?_;rintro u w7 ⟨b1,a5⟩;refine zh ?_;exact aG rfl ⟨O,_,hUt6d.trans (a5.mono (fun _ h=>.inl h) c5),hR6d.upd a5,b1,rfl,zd,rfl,by dsimp only;rw[d3];omega⟩
   |false=>
    have hM:cI kn st a0=nQ kn (Ge st (bt a0).length (cY ((aZ a0).dropWhile aj))):=by unfold cI;rw[if_neg h0,if_neg (by rw[d2];decide),if_pos e4,if_neg (by rw[b5];decide)]
    rw[hM];refine zc II (rR B O w6.drew j ji rb ({s with pos:=(m:Int)-(((aZ a0).dropWhile aj).length:Int),to:=(m:Int),bg:=((m:Int)-((ao (bt a0)).length:Int))}:LS) m ((aZ a0).dropWhile aj) hR6d hj b' d0 d4 d5 rfl he (hmem6d.fi.trans b5) (hmem6d.ni b5) ((ln _).trans b2) rfl hb6d) ?_;rintro u w7 ⟨O7,lv,pos,bad,e,a5,b7,b1,a7⟩;have a6:=hUt6d.trans (a5.mono (S':=fun k=>k=j\/k=jr\/k=ji\/k=jk\/k=jm) (fun _ h=>by rcases h with h|h;exact .inl h;exact .inr (.inr (.inl h))) c5);refine zh ?_
    cases hq:cY ((aZ a0).dropWhile aj)with
    |ok l=>
     rw[hq]at a7;obtain⟨b6,a8⟩:=a7;obtain⟨⟨xs,a1,a2,a3,a4⟩,mb,mc,md,me,mf,mg⟩:=hmem6d;exact aG rfl ⟨O7,_,a6,b7,b1,rfl,b6,⟨⟨xs,a1.upd a5 b8 (fun h=>by rcases h with h|h;exact d1 h.symm;exact h6 h),a2,a3,fun i hi=>(a4 i hi).upd a5⟩,a8,mc.upd a5 b9 (fun h=>by rcases h with h|h;exact c' h.symm;exact h4 h.symm),rfl,me,(fun h=>by cases h),mg⟩,hmac6d.upd a5 b4 (fun h=>by rcases h with h|h;exact c7 h.symm;exact h3 h.symm)⟩
    |bad p e'=>
     rw[hq]at a7;obtain⟨b6,b3,b0⟩:=a7;have d8:=lX hq;exact aG rfl ⟨O7,_,a6,b7,b1,rfl,b3,b6,by dsimp only;rw[b0];omega⟩
  |false=>
   refine zFH rfl rfl ?_;refine zvH (cA rfl rfl) ?_
   cases g0:((aZ a0).takeWhile aj==[107,101,101,112])with
   |true=>
    refine aO rfl rfl ?_;have hb6d:=e9.drew;have hmem6d:=a9.upd (aa (S:=fun _=>False) (fun h=>h) O (GR w6).drew) b8 b' b9 (fun h=>h) (fun h=>h) (fun h=>h);have hmac6d:=a'.upd (aa (S:=fun _=>False) (fun h=>h) O (GR w6).drew) b4 (fun h=>h);have hR6d:=f6.drew;have hUt6d:=c6.drew;refine Il 8 rfl rfl zk zk ?_
    refine zh ?_;refine IL ?_
    cases b5:st.hk with
    |true=>
     have hM:cI kn st a0=.bad ((bt a0).length-(aZ a0).length) 11:=by unfold cI;rw[if_neg h0,if_neg (by rw[d2];decide),if_neg (by rw[e4];decide),if_pos g0,if_pos b5]
     rw[hM];refine zc II (oF O w6.drew j rb ({s with pos:=(m:Int)-(((aZ a0).dropWhile aj).length:Int),to:=(m:Int),bg:=((m:Int)-((ao (bt a0)).length:Int))}:LS) hj he (hmem6d.fk.trans b5) hb6d) ?_;rintro u w7 ⟨b1,a5⟩;refine zh ?_;exact aG rfl ⟨O,_,hUt6d.trans (a5.mono (fun _ h=>.inl h) c5),hR6d.upd a5,b1,rfl,zd,rfl,by dsimp only;rw[d3];omega⟩
    |false=>
     have hM:cI kn st a0=nQ kn (Gd st (bt a0).length (cY ((aZ a0).dropWhile aj))):=by unfold cI;rw[if_neg h0,if_neg (by rw[d2];decide),if_neg (by rw[e4];decide),if_pos g0,if_neg (by rw[b5];decide)]
     rw[hM];refine zc II (rQ B O w6.drew j jk rb ({s with pos:=(m:Int)-(((aZ a0).dropWhile aj).length:Int),to:=(m:Int),bg:=((m:Int)-((ao (bt a0)).length:Int))}:LS) m ((aZ a0).dropWhile aj) hR6d hj b9 c' d4 d5 rfl he (hmem6d.fk.trans b5) (hmem6d.nk b5) ((ln _).trans b2) rfl hb6d) ?_;rintro u w7 ⟨O7,lv,pos,bad,e,a5,b7,b1,a7⟩;have a6:=hUt6d.trans (a5.mono (S':=fun k=>k=j\/k=jr\/k=ji\/k=jk\/k=jm) (fun _ h=>by rcases h with h|h;exact .inl h;exact .inr (.inr (.inr (.inl h)))) c5);refine zh ?_
     cases hq:cY ((aZ a0).dropWhile aj)with
     |ok l=>
      rw[hq]at a7;obtain⟨b6,a8⟩:=a7;obtain⟨⟨xs,a1,a2,a3,a4⟩,mb,mc,md,me,mf,mg⟩:=hmem6d;exact aG rfl ⟨O7,_,a6,b7,b1,rfl,b6,⟨⟨xs,a1.upd a5 b8 (fun h=>by rcases h with h|h;exact d1 h.symm;exact h5 h),a2,a3,fun i hi=>(a4 i hi).upd a5⟩,mb.upd a5 b' (fun h=>by rcases h with h|h;exact d0 h.symm;exact h4 h),a8,md,rfl,mf,(fun h=>by cases h)⟩,hmac6d.upd a5 b4 (fun h=>by rcases h with h|h;exact c7 h.symm;exact e8 h.symm)⟩
     |bad p e'=>
      rw[hq]at a7;obtain⟨b6,b3,b0⟩:=a7;have d8:=lX hq;exact aG rfl ⟨O7,_,a6,b7,b1,rfl,b3,b6,by dsimp only;rw[b0];omega⟩
   |false=>
    have hM:cI kn st a0=nQ kn (Gc st ((bt a0).length-(aZ a0).length) (if st.ts.length=40 then Jl 0 3 else iO kn (aZ a0))):=by unfold cI;rw[if_neg h0,if_neg (by rw[d2];decide),if_neg (by rw[e4];decide),if_neg (by rw[g0];decide)]
    refine aN rfl rfl ?_;obtain⟨xs,d7,g5,h',h9⟩:=a9.ru;refine zh ?_
    refine zc call107 (ri B O w6 j jr rb ({s with pos:=(m:Int)-(((aZ a0).dropWhile aj).length:Int),to:=(m:Int),bg:=((m:Int)-((ao (bt a0)).length:Int))}:LS) m (aZ a0) xs f6 hj b8 d1 d4 d5 rfl g7 he b4 c7 g4 a' b2 d7 h' e9) ?_;rintro v w7 ⟨O7,rv,a5,b7,a7⟩;have a6:=c6.trans (a5.mono (S':=fun k=>k=j\/k=jr\/k=ji\/k=jk\/k=jm) (fun _ h=>by rcases h with h|h;exact .inl h;exact .inr (.inl h)) c5);refine zh ?_
    rw[hM,g5]
    cases hq:(if xs.length=40 then Jl 0 3 else iO kn (aZ a0))with
    |ok t=>
     rw[hq]at a7;obtain⟨x,a8,g3,b1⟩:=a7;have j6:xs.length≠40:=fun e=>by rw[if_pos e]at hq;cases hq
     obtain⟨_,mb,mc,md,me,mf,mg⟩:=a9;obtain⟨q1,q2,q3,q4⟩:=JE (ts:=st.ts) a8 g5 zo (fun i hi=>(h9 i hi).upd a5) g3;exact aG rfl ⟨O7,_,a6,b7,b1,rfl,he,⟨⟨xs++[x],q1,q2,q3,q4⟩,mb.upd a5 b' (fun h=>by rcases h with h|h;exact d0 h.symm;exact h6 h.symm),mc.upd a5 b9 (fun h=>by rcases h with h|h;exact c' h.symm;exact h5 h.symm),md,me,mf,mg⟩,a'.upd a5 b4 (fun h=>by rcases h with h|h;exact c7 h.symm;exact g4 h.symm)⟩
    |bad p e=>
     rw[hq]at a7;obtain⟨b3,b1⟩:=a7;exact aG rfl ⟨O7,_,a6,b7,b1,rfl,b3,rfl,by dsimp only;rw[d3];omega⟩
 |some k=>
  have hi:qJ a0 35=(k:Nat):=by unfold qJ;rw[hf]
  obtain⟨i3,j8⟩:=xT hf;rw[hi];have j7:m=fr+k:=by rw[i1,i3];simp;omega
  refine zh ?_;refine zTH rfl ((decide_eq_true zo)) ?_
  refine ak (j:=2) g9 rfl (Jb _) rfl rfl rfl rfl ?_;rw[show(fr:Int)+((k:Nat):Int)=(m:Int)from by omega];have j3:=g9.s_to (m:Int);have h7:I8 (fun k=>k=j) O w2 O (w2.setCell ⟨rb,2,none⟩ (nI (m:Int))):=GV h8 g9.tag rfl;have e0:=f8.upd h7 b8 b' b9 (fun e=>d1 e.symm) (fun e=>d0 e.symm) (fun e=>c' e.symm);have e3:=f9.upd h7 b4 (fun e=>c7 e.symm);have i7:=i9.upd h7;have g2:=(e7.trans h7).mono (S':=fun k=>k=j\/k=jr\/k=ji\/k=jk\/k=jm) (fun _ h=>.inl h) c5;generalize w2.setCell ⟨rb,2,none⟩ (nI (m:Int))=w3 at *;refine zh ?_
  refine zc J0 (dz O w3 j rb ({s with pos:=(fr:Int),to:=(m:Int)}:LS) m (bt a0) hj d4 d5 rfl d6 f7 j3) ?_;rintro v w4 ⟨rfl,e5,f5⟩;have c8:=e0.upd f5 b8 b' b9 (fun e=>d1 e.symm) (fun e=>d0 e.symm) (fun e=>c' e.symm);have c9:=e3.upd f5 b4 (fun e=>c7 e.symm);have g':=i7.upd f5;have e6:=g2.trans (f5.mono (fun _ h=>.inl h) c5);refine zh ?_
  by_cases h0:(aZ a0).length=0
  ·have hM:cI kn st a0=.go kn st:=by unfold cI;rw[if_pos h0]
   rw[hM];refine zTH rfl ((by have d3:(ao (bt a0)).length=0:=h0;simp[d3])) ?_;exact cC rfl ⟨O,_,e6,g',e5,rfl,he,c8.with rfl rfl rfl rfl rfl,c9⟩
  have d3:(ao (bt a0)).length=(aZ a0).length:=rfl;refine zFH rfl ((by rw[d3,decide_eq_true zo];rfl)) ?_;refine zvH (RV.ld e5.q1 rfl) ?_;refine ak (j:=3) e5 rfl (Jb _) rfl rfl rfl rfl ?_;have i4:=e5.s_bg ((m:Int)-((ao (bt a0)).length:Int));have f4:I8 (fun k=>k=j) O w4 O (w4.setCell ⟨rb,3,none⟩ (nI ((m:Int)-((ao (bt a0)).length:Int)))):=GV (fun e=>hj e.symm) e5.tag rfl;have d':=c8.upd f4 b8 b' b9 (fun e=>d1 e.symm) (fun e=>d0 e.symm) (fun e=>c' e.symm);have e2:=c9.upd f4 b4 (fun e=>c7 e.symm);have i6:=g'.upd f4;have g1:=e6.trans (f4.mono (fun _ h=>.inl h) c5);generalize w4.setCell ⟨rb,3,none⟩ (nI ((m:Int)-((ao (bt a0)).length:Int)))=w5 at *;refine zh ?_;refine zc Jd (gC O w5 j rb ({s with pos:=((m:Int)-((ao (bt a0)).length:Int)),to:=(m:Int),bg:=((m:Int)-((ao (bt a0)).length:Int))}:LS) m (aZ a0) hj d4 d5 rfl b2 rfl i4) ?_;rintro v w6 ⟨rfl,e9,f3⟩;have a9:=d'.upd f3 b8 b' b9 (fun e=>d1 e.symm) (fun e=>d0 e.symm) (fun e=>c' e.symm);have a':=e2.upd f3 b4 (fun e=>c7 e.symm);have f6:=i6.upd f3;have c6:=g1.trans (f3.mono (fun _ h=>.inl h) c5);have j2:=(ln (l:=aZ a0) aj).length_le;refine zh ?_;refine zvH (cA rfl rfl) ?_
  cases d2:((aZ a0).takeWhile aj==[108,101,116])with
  |true=>
   have hM:cI kn st a0=FL kn st (bt a0).length (rT kn ((aZ a0).dropWhile aj)):=by unfold cI;rw[if_neg h0,if_pos d2]
   rw[hM];refine zTH rfl rfl ?_;refine zc call105 (zK B O w6 j jm rb ({s with pos:=(m:Int)-(((aZ a0).dropWhile aj).length:Int),to:=(m:Int),bg:=((m:Int)-((ao (bt a0)).length:Int))}:LS) m ((aZ a0).dropWhile aj) f6 hj b4 c7 d4 d5 rfl he ((ln _).trans b2) rfl g6 a' e9) ?_;rintro u w7 ⟨O7,v7,pos,bad,e,a5,b7,b1,a7⟩;have a6:=c6.trans (a5.mono (S':=fun k=>k=j\/k=jr\/k=ji\/k=jk\/k=jm) (fun _ h=>by rcases h with h|h;exact .inl h;exact .inr (.inr (.inr (.inr h)))) c5);have d9:=a9.upd a5 b8 b' b9 (fun h=>by rcases h with h|h;exact d1 h.symm;exact g4 h) (fun h=>by rcases h with h|h;exact d0 h.symm;exact h3 h) (fun h=>by rcases h with h|h;exact c' h.symm;exact e8 h);refine zh ?_
   cases hq:rT kn ((aZ a0).dropWhile aj)with
   |ok x=>
    rw[hq]at a7;obtain⟨b6,e1⟩:=a7;exact aG rfl ⟨O7,_,a6,b7,b1,rfl,b6,d9.with rfl rfl rfl rfl rfl,e1⟩
   |bad p e'=>
    rw[hq]at a7;obtain⟨b6,b3,b0⟩:=a7;have d8:=zL hq;exact aG rfl ⟨O7,_,a6,b7,b1,rfl,b3,b6,by dsimp only;rw[b0];omega⟩
  |false=>
  refine zFH rfl rfl ?_;refine zvH (cA rfl rfl) ?_
  cases e4:((aZ a0).takeWhile aj==[105,103,110,111,114,101])with
  |true=>
   refine aO rfl rfl ?_;have hb6d:=e9.drew;have hmem6d:=a9.upd (aa (S:=fun _=>False) (fun h=>h) O (GR w6).drew) b8 b' b9 (fun h=>h) (fun h=>h) (fun h=>h);have hmac6d:=a'.upd (aa (S:=fun _=>False) (fun h=>h) O (GR w6).drew) b4 (fun h=>h);have hR6d:=f6.drew;have hUt6d:=c6.drew;refine Il 8 rfl rfl zk zk ?_
   refine zh ?_;refine IL ?_
   cases b5:st.hi with
   |true=>
    have hM:cI kn st a0=.bad ((bt a0).length-(aZ a0).length) 11:=by unfold cI;rw[if_neg h0,if_neg (by rw[d2];decide),if_pos e4,if_pos b5]
    rw[hM];refine zc II (oG O w6.drew j rb ({s with pos:=(m:Int)-(((aZ a0).dropWhile aj).length:Int),to:=(m:Int),bg:=((m:Int)-((ao (bt a0)).length:Int))}:LS) hj he (hmem6d.fi.trans b5) hb6d) ?_;rintro u w7 ⟨b1,a5⟩;refine zh ?_;exact aG rfl ⟨O,_,hUt6d.trans (a5.mono (fun _ h=>.inl h) c5),hR6d.upd a5,b1,rfl,zd,rfl,by dsimp only;rw[d3];omega⟩
   |false=>
    have hM:cI kn st a0=nQ kn (Ge st (bt a0).length (cY ((aZ a0).dropWhile aj))):=by unfold cI;rw[if_neg h0,if_neg (by rw[d2];decide),if_pos e4,if_neg (by rw[b5];decide)]
    rw[hM];refine zc II (rR B O w6.drew j ji rb ({s with pos:=(m:Int)-(((aZ a0).dropWhile aj).length:Int),to:=(m:Int),bg:=((m:Int)-((ao (bt a0)).length:Int))}:LS) m ((aZ a0).dropWhile aj) hR6d hj b' d0 d4 d5 rfl he (hmem6d.fi.trans b5) (hmem6d.ni b5) ((ln _).trans b2) rfl hb6d) ?_;rintro u w7 ⟨O7,lv,pos,bad,e,a5,b7,b1,a7⟩;have a6:=hUt6d.trans (a5.mono (S':=fun k=>k=j\/k=jr\/k=ji\/k=jk\/k=jm) (fun _ h=>by rcases h with h|h;exact .inl h;exact .inr (.inr (.inl h))) c5);refine zh ?_
    cases hq:cY ((aZ a0).dropWhile aj)with
    |ok l=>
     rw[hq]at a7;obtain⟨b6,a8⟩:=a7;obtain⟨⟨xs,a1,a2,a3,a4⟩,mb,mc,md,me,mf,mg⟩:=hmem6d;exact aG rfl ⟨O7,_,a6,b7,b1,rfl,b6,⟨⟨xs,a1.upd a5 b8 (fun h=>by rcases h with h|h;exact d1 h.symm;exact h6 h),a2,a3,fun i hi=>(a4 i hi).upd a5⟩,a8,mc.upd a5 b9 (fun h=>by rcases h with h|h;exact c' h.symm;exact h4 h.symm),rfl,me,(fun h=>by cases h),mg⟩,hmac6d.upd a5 b4 (fun h=>by rcases h with h|h;exact c7 h.symm;exact h3 h.symm)⟩
    |bad p e'=>
     rw[hq]at a7;obtain⟨b6,b3,b0⟩:=a7;have d8:=lX hq;exact aG rfl ⟨O7,_,a6,b7,b1,rfl,b3,b6,by dsimp only;rw[b0];omega⟩
  |false=>
   refine zFH rfl rfl ?_;refine zvH (cA rfl rfl) ?_
   cases g0:((aZ a0).takeWhile aj==[107,101,101,112])with
   |true=>
    refine aO rfl rfl ?_;have hb6d:=e9.drew;have hmem6d:=a9.upd (aa (S:=fun _=>False) (fun h=>h) O (GR w6).drew) b8 b' b9 (fun h=>h) (fun h=>h) (fun h=>h);have hmac6d:=a'.upd (aa (S:=fun _=>False) (fun h=>h) O (GR w6).drew) b4 (fun h=>h);have hR6d:=f6.drew;have hUt6d:=c6.drew;refine Il 8 rfl rfl zk zk ?_
    refine zh ?_;refine IL ?_
    cases b5:st.hk with
    |true=>
     have hM:cI kn st a0=.bad ((bt a0).length-(aZ a0).length) 11:=by unfold cI;rw[if_neg h0,if_neg (by rw[d2];decide),if_neg (by rw[e4];decide),if_pos g0,if_pos b5]
     rw[hM];refine zc II (oF O w6.drew j rb ({s with pos:=(m:Int)-(((aZ a0).dropWhile aj).length:Int),to:=(m:Int),bg:=((m:Int)-((ao (bt a0)).length:Int))}:LS) hj he (hmem6d.fk.trans b5) hb6d) ?_;rintro u w7 ⟨b1,a5⟩;refine zh ?_;exact aG rfl ⟨O,_,hUt6d.trans (a5.mono (fun _ h=>.inl h) c5),hR6d.upd a5,b1,rfl,zd,rfl,by dsimp only;rw[d3];omega⟩
    |false=>
     have hM:cI kn st a0=nQ kn (Gd st (bt a0).length (cY ((aZ a0).dropWhile aj))):=by unfold cI;rw[if_neg h0,if_neg (by rw[d2];decide),if_neg (by rw[e4];decide),if_pos g0,if_neg (by rw[b5];decide)]
     rw[hM];refine zc II (rQ B O w6.drew j jk rb ({s with pos:=(m:Int)-(((aZ a0).dropWhile aj).length:Int),to:=(m:Int),bg:=((m:Int)-((ao (bt a0)).length:Int))}:LS) m ((aZ a0).dropWhile aj) hR6d hj b9 c' d4 d5 rfl he (hmem6d.fk.trans b5) (hmem6d.nk b5) ((ln _).trans b2) rfl hb6d) ?_;rintro u w7 ⟨O7,lv,pos,bad,e,a5,b7,b1,a7⟩;have a6:=hUt6d.trans (a5.mono (S':=fun k=>k=j\/k=jr\/k=ji\/k=jk\/k=jm) (fun _ h=>by rcases h with h|h;exact .inl h;exact .inr (.inr (.inr (.inl h)))) c5);refine zh ?_
     cases hq:cY ((aZ a0).dropWhile aj)with
     |ok l=>
      rw[hq]at a7;obtain⟨b6,a8⟩:=a7;obtain⟨⟨xs,a1,a2,a3,a4⟩,mb,mc,md,me,mf,mg⟩:=hmem6d;exact aG rfl ⟨O7,_,a6,b7,b1,rfl,b6,⟨⟨xs,a1.upd a5 b8 (fun h=>by rcases h with h|h;exact d1 h.symm;exact h5 h),a2,a3,fun i hi=>(a4 i hi).upd a5⟩,mb.upd a5 b' (fun h=>by rcases h with h|h;exact d0 h.symm;exact h4 h),a8,md,rfl,mf,(fun h=>by cases h)⟩,hmac6d.upd a5 b4 (fun h=>by rcases h with h|h;exact c7 h.symm;exact e8 h.symm)⟩
     |bad p e'=>
      rw[hq]at a7;obtain⟨b6,b3,b0⟩:=a7;have d8:=lX hq;exact aG rfl ⟨O7,_,a6,b7,b1,rfl,b3,b6,by dsimp only;rw[b0];omega⟩
   |false=>
    have hM:cI kn st a0=nQ kn (Gc st ((bt a0).length-(aZ a0).length) (if st.ts.length=40 then Jl 0 3 else iO kn (aZ a0))):=by unfold cI;rw[if_neg h0,if_neg (by rw[d2];decide),if_neg (by rw[e4];decide),if_neg (by rw[g0];decide)]
    refine aN rfl rfl ?_;obtain⟨xs,d7,g5,h',h9⟩:=a9.ru;refine zh ?_
    refine zc call107 (ri B O w6 j jr rb ({s with pos:=(m:Int)-(((aZ a0).dropWhile aj).length:Int),to:=(m:Int),bg:=((m:Int)-((ao (bt a0)).length:Int))}:LS) m (aZ a0) xs f6 hj b8 d1 d4 d5 rfl g7 he b4 c7 g4 a' b2 d7 h' e9) ?_;rintro v w7 ⟨O7,rv,a5,b7,a7⟩;have a6:=c6.trans (a5.mono (S':=fun k=>k=j\/k=jr\/k=ji\/k=jk\/k=jm) (fun _ h=>by rcases h with h|h;exact .inl h;exact .inr (.inl h)) c5);refine zh ?_
    rw[hM,g5]
    cases hq:(if xs.length=40 then Jl 0 3 else iO kn (aZ a0))with
    |ok t=>
     rw[hq]at a7;obtain⟨x,a8,g3,b1⟩:=a7;have j6:xs.length≠40:=fun e=>by rw[if_pos e]at hq;cases hq
     obtain⟨_,mb,mc,md,me,mf,mg⟩:=a9;obtain⟨q1,q2,q3,q4⟩:=JE (ts:=st.ts) a8 g5 zo (fun i hi=>(h9 i hi).upd a5) g3;exact aG rfl ⟨O7,_,a6,b7,b1,rfl,he,⟨⟨xs++[x],q1,q2,q3,q4⟩,mb.upd a5 b' (fun h=>by rcases h with h|h;exact d0 h.symm;exact h6 h.symm),mc.upd a5 b9 (fun h=>by rcases h with h|h;exact c' h.symm;exact h5 h.symm),md,me,mf,mg⟩,a'.upd a5 b4 (fun h=>by rcases h with h|h;exact c7 h.symm;exact g4 h.symm)⟩
    |bad p e=>
     rw[hq]at a7;obtain⟨b3,b1⟩:=a7;exact aG rfl ⟨O7,_,a6,b7,b1,rfl,b3,rfl,by dsimp only;rw[d3];omega⟩
end
inductive TK where
 |ok (st:St)
 |bad (p:Nat) (e:Int)
def oH:Nat->Kn->St->Nat->List UInt8->TK
 |0,_,_,_,_=>.bad 0 3
 |n+1,kn,st,fr,r=>
  match cI kn st (dM r)with
  |.bad p e=>.bad (fr+p) e
  |.go kn' st'=>if(dM r).length=r.length then .ok st' else oH n kn' st' (fr+(dM r).length+1) (r.drop ((dM r).length+1))
def st0:St:=⟨[],[],[],false,false⟩
def jK(l:List UInt8):TK:=if 4096<l.length then .bad 0 3 else oH (l.length+1) [] st0 0 l
theorem yX{kn a0:Kn}{st a1:St}{a2:List UInt8}(h:cI kn st a2=.go a0 a1):a0.length<=kn.length+1:=by
 have hl:∀ {R:RS},nQ kn R=.go a0 a1->a0.length<=kn.length+1:=fun {R} h=>by
  cases R with
  |go s=>cases h;omega
  |bad p e=>cases h
  |other=>cases h
 unfold cI at h
 split at h
 ·cases h;omega
 split at h
 ·unfold FL at h
  split at h
  ·cases h;simp
  cases h
 split at h
 ·split at h
  ·cases h
  exact hl h
 split at h
 ·split at h
  ·cases h
  exact hl h
 exact hl h
def LoopK(l:List UInt8)(M:TK)(O:Nat->Nat)(w:GW)(jr ji jk jm:Nat)(n fr:Nat)(kn:Kn)(st:St)(s:LS):Prop:=
 (fr<=l.length/\s.e=0/\l.length-fr<n/\oH n kn st fr (l.drop fr)=M/\Mem O w jr ji jk s st/\Mac O w jm s.mc kn/\kn.length<=fr)\/(fr=l.length+1/\s.e=0/\M=.ok st/\Mem O w jr ji jk s st)\/
 (∃p e,e≠0/\s.e=e/\s.bad=((p:Nat):Int)/\M=.bad p e)
theorem LoopK.next{l:List UInt8}{M:TK}{B j jr ji jk jm rb n fr:Nat}{O:Nat->Nat}{w w':GW}{kn:Kn}{st:St}{s:LS}(a3:fr<=l.length)(hn:l.length-fr<n+1)(hM:oH (n+1) kn st fr (l.drop fr)=M)(a2:kn.length<=fr) 
  (hP:Fy B O w w' j jr ji jk jm rb s fr (cI kn st (dM (l.drop fr)))) :
  ∃O' s' n' kn' st',I8 (fun k=>k=j\/k=jr\/k=ji\/k=jk\/k=jm) O w O' w'/\Jq B O' w'/\Jh O' w' j rb s'/\s'.l=s.l/\n'<n+1/\LoopK l M O' w' jr ji jk jm n' (fr+(dM (l.drop fr)).length+1) kn' st' s':=by
 obtain⟨O',s',hU,hR,hb,e1,hq⟩:=hP;have a0:(dM (l.drop fr)).length<=l.length-fr:=by
  have:=(Ii (l:=l.drop fr) (fun b=>!(b==10))).length_le;simpa[dM]using this
 have a4:(l.drop fr).length=l.length-fr:=by simp
 unfold oH at hM;refine⟨O',s',?_⟩
 cases hr:cI kn st (dM (l.drop fr))with
 |bad p e=>
  rw[hr]at hq hM;obtain⟨q1,q2,q3⟩:=hq;exact⟨0,kn,st,hU,hR,hb,e1,zo,.inr (.inr ⟨fr+p,e,q1,q2,by rw[q3];simp,hM.symm⟩)⟩
 |go kn' st'=>
  have a1:=yX hr;rw[hr]at hq hM;dsimp only at hM;obtain⟨q1,q2,q3⟩:=hq
  split at hM
  ·rename_i he;exact⟨0,kn',st',hU,hR,hb,e1,zo,.inr (.inl ⟨zo,q1,hM.symm,q2⟩)⟩
  rename_i he;exact⟨n,kn',st',hU,hR,hb,e1,zo,.inl ⟨zo,q1,zo,by rw[<-hM,List.drop_drop,Nat.add_assoc],q2,q3,zo⟩⟩
def Fw(w:GW)(v:GU):TK->Prop
 |.ok st=>∃tv,v=.tuple #[tv,nI 0,nI 0]/\Tx w tv st.li st.lk st.ts
 |.bad p e=>v=.tuple #[vW qH qH qH,nI (p:Int),nI e]/\e≠0
theorem Mem.tx{O:Nat->Nat}{w:GW}{jr ji jk:Nat}{s:LS}{st:St}(h:Mem O w jr ji jk s st):Tx w (vW s.ig s.kp s.ru) st.li st.lk st.ts:=by
 obtain⟨xs,a1,a2,a3,a4⟩:=h.ru;exact⟨s.ig,s.kp,s.ru,xs,rfl,h.ig.sl,h.kp.sl,a1.sl,a2,fun i hi=>(a4 i hi).weak fun _ _=>rfl⟩
theorem tp(l:List UInt8)(B:Nat)(O:Nat->Nat)(w:GW)(hR:Jq B O w)(g0:l.length<=1000000000):JI IX 44 [.string (bs l)] w fun v w'=>IY w w'/\Fw w' v (jK l):=by
 obtain⟨T,g3,hT⟩:=hR.bound;have a6:¬(fun q:Nat=>T<=q) 0:=fun e=>by omega
 have c6:∀b,¬T<=O b:=fun b=>by have:=hT b;omega
 refine I5 func44 ntmps44 rfl rfl ?_;refine zg ?_
 refine ar hR T zo (Ib _) rfl ?_;intro xb w1 O1 b8 f6 f8 g5;have b6:I8 (fun q=>T<=q) O w O1 w1:=f6.mono (fun _ h=>I6 h.symm) a6;refine zg ?_
 refine zvG (bZ GZ rfl) ?_
 by_cases hl:4096<l.length
 ·have hM:jK l=.bad 0 3:=by unfold jK;rw[if_pos hl]
  rw[hM];refine zTG rfl ((decide_eq_true zo)) ?_;refine zv (aE FG (Ib _) rfl (by first|rfl|(simp only[I2,Iq];rfl)) rfl rfl) ?_;refine zsa (us:=(#[nS,nS,nS]:Array GU)) b8 (I4 _) ?_;have a7:=b8.setRow (us:=(#[nS,nS,nS]:Array GU));have a4:I8 (fun k=>k=T) O1 w1 O1 (w1.setRow xb (#[nS,nS,nS]:Array GU)):=G9 zo b8.tag rfl;refine zg ?_;refine cu rfl rfl rfl rfl a7.cellsAdd (IH _) (I4 _) ⟨aD (b6.trans (a4.mono (fun _ h=>I6 h.symm) a6)) c6,rfl,by decide⟩
 have f9:jK l=oH (l.length+1) [] st0 0 l:=by unfold jK;rw[if_neg hl]
 refine zFG rfl ((decide_eq_false zo)) ?_;refine zv (aE FZ (zeroValue145 _) rfl (by first|rfl|(simp only[I2,Iq];rfl)) rfl rfl) ?_
 refine zv (IB (vs:=[(0,.agg #[.string (bs l),nI 0,nI 0,nI 0,nI 0,nI 0])]) (cells:=(⟨l,0,0,0,0,0,nS,nS,nS,nS,false,false⟩:LS).cells) FY (zeroValue148 _) rfl zk) ?_;refine aF f8 (T+1) zo rfl rfl ?_
 intro rb w2 O2 d2 e5 f7 g4;have f5:Jh O2 w2 (T+1) rb ⟨l,0,0,0,0,0,nS,nS,nS,nS,false,false⟩:=d2;have e7:=b8.upd e5 zo zo;have d6:=b6.trans (e5.mono (fun _ h=>by rw[h];omega) a6);refine zg ?_;refine zlp (fun y:Nat×Nat×Kn×St×(Nat->Nat)×World×LS=>[(0,.string (bs l)),(2,nP xb),(5,nP rb),(6,nI (y.2.1:Nat))]) (fun y=>y.2.2.2.2.2.1) (fun y=>IA y.2.2.2.2.1 y.2.2.2.2.2.1 T xb (#[nS,nS,nS]:Array GU) 49/\Jh y.2.2.2.2.1 y.2.2.2.2.2.1 (T+1) rb y.2.2.2.2.2.2/\y.2.2.2.2.2.2.l=l/\I8 (fun q=>T<=q) O w y.2.2.2.2.1 y.2.2.2.2.2.1/\Jq B y.2.2.2.2.1 y.2.2.2.2.2.1/\y.2.1<=10000000/\LoopK l (jK l) y.2.2.2.2.1 y.2.2.2.2.2.1 (T+2) (T+3) (T+4) (T+5) y.1 y.2.1 y.2.2.1 y.2.2.2.1 y.2.2.2.2.2.2) (fun y=>y.1) (l.length+1,0,[],st0,O2,w2,⟨l,0,0,0,0,0,nS,nS,nS,nS,false,false⟩) (⟨e7,f5,rfl,d6,f7,by dsimp only;omega,.inl ⟨by dsimp only;omega,rfl,by dsimp only;omega,by rw[f9];rfl,⟨⟨[],Ip _ _ _ _ _ _,rfl,by simp,fun i hi=>absurd hi (by simp)⟩,Ip _ _ _ _ _ _,Ip _ _ _ _ _ _,rfl,rfl,fun _=>rfl,fun _=>rfl⟩,Mac.nil _ _ _,Iy _⟩⟩) ?_;rintro⟨n,fr,kn,st,O1,w3,s⟩ ⟨a2,a3,a5,a1,d8,f4,e6⟩;dsimp only at a2 a3 a5 a1 d8 f4 e6 ⊢
 rcases e6 with⟨c5,he,e1,b1,a0,b4,e3⟩|⟨c5,he,b1,a0⟩|⟨p,e,b9,d0,a',b1⟩
 ·obtain⟨n,rfl⟩:∃m,n=m+1:=⟨n-1,by omega⟩
  have g2:(dM (l.drop fr)).length<=l.length-fr:=by
   have:=(Ii (l:=l.drop fr) (fun b=>!(b==10))).length_le;simpa[dM]using this
  have q5:=a3.q5;rw[he]at q5;refine zg ?_;refine zvG (bZ GZ rfl) ?_;refine au (d:=21) rfl (b':=true) ((decide_eq_true zo)) ?_;refine zg ?_;refine zvG (RV.ld q5 rfl) ?_;refine zTG rfl rfl ?_;refine zvG (bZ GZ rfl) ?_;refine zv (jv GZ rfl rfl fr rfl c5) ?_;refine zc call72 (dj (l.drop fr) 10 w3) ?_;rintro v w9 ⟨rfl,e0⟩;rw[e0];clear e0 w9
  cases hf:(l.drop fr).findIdx? (· == 10)with
  |none=>
   have hi:qJ (l.drop fr) 10 = -1:=by unfold qJ;rw[hf]
   have e2:=congrArg JF (xo hf);rw[List.length_drop]at e2;rw[hi,show((l.length:Nat):Int)=((fr+(dM (l.drop fr)).length:Nat):Int)from by omega];refine zg ?_;refine zFG rfl rfl ?_;refine zc call73 (ry B O1 w3 (T+1) (T+2) (T+3) (T+4) (T+5) rb s fr (fr+(dM (l.drop fr)).length) (dM (l.drop fr)) st d8 zo zo zo zo zo zo zo zo zo zo zo zo zo zo zo zo zo (by rw[a5];omega) (by rw[a5];omega) he (by rw[a5];exact rS l fr) a0 b4 a3) ?_;rintro v w4 d9;obtain⟨O4,s4,n4,c8,c7,b7,d7,d1,g1,a9,d'⟩:=LoopK.next c5 e1 b1 e3 d9;have c9:=ka a2 b7 zo zo;have b0:=a1.trans (b7.mono (fun _ h=>by rcases h with h|h|h|h|h<;>rw[h]<;>omega) a6);refine zg ?_;refine zvG (IT rfl rfl (Io zo)) ?_;refine zx (n4,fr+(dM (l.drop fr)).length+1,c8,c7,O4,w4,s4) (⟨c9,d1,g1.trans a5,b0,d7,by dsimp only;omega,d'⟩) (a9)
  |some k=>
   have hi:qJ (l.drop fr) 10=(k:Nat):=by unfold qJ;rw[hf]
   have e2:=xn hf;rw[hi];refine zg ?_;refine zTG rfl ((decide_eq_true zo)) ?_;refine zvG (IT rfl rfl (Io zo)) ?_;rw[show(fr:Int)+((k:Nat):Int)=((fr+(dM (l.drop fr)).length:Nat):Int)from by omega];refine zc call73 (ry B O1 w3 (T+1) (T+2) (T+3) (T+4) (T+5) rb s fr (fr+(dM (l.drop fr)).length) (dM (l.drop fr)) st d8 zo zo zo zo zo zo zo zo zo zo zo zo zo zo zo zo zo (by rw[a5];omega) (by rw[a5];omega) he (by rw[a5];exact rS l fr) a0 b4 a3) ?_;rintro v w4 d9;obtain⟨O4,s4,n4,c8,c7,b7,d7,d1,g1,a9,d'⟩:=LoopK.next c5 e1 b1 e3 d9;have c9:=ka a2 b7 zo zo;have b0:=a1.trans (b7.mono (fun _ h=>by rcases h with h|h|h|h|h<;>rw[h]<;>omega) a6);refine zg ?_;refine zvG (IT rfl rfl (Io zo)) ?_;refine zx (n4,fr+(dM (l.drop fr)).length+1,c8,c7,O4,w4,s4) (⟨c9,d1,g1.trans a5,b0,d7,by dsimp only;omega,d'⟩) (a9)
 ·have q5:=a3.q5;rw[he]at q5;refine zg ?_;refine zvG (bZ GZ rfl) ?_;refine au (d:=21) rfl (b':=false) ((decide_eq_false zo)) ?_;rw[b1];have q6:=a3.q6;have q7:=a3.q7;have q8:=a3.q8;have f':=a0.tx;have f3:=a0.ig.one;have e':=a0.kp.one;obtain⟨xs,e8,_,_,_⟩:=a0.ru;have e9:=e8.one;refine zg ?_;refine zFG rfl rfl ?_;refine zvG (RV.ld q5 rfl) ?_;refine zFG rfl rfl ?_;refine zv (ah (us:=[s.ig,s.kp,s.ru]) (yn q6 q7 q8) (IH _) (I4 _) rfl) ?_;refine zsb (us:=#[s.ig,s.kp,s.ru]) a2 (I4 _) (by simp only[I2,f3,e',e9];rfl) ?_;have a7:=a2.setRow (us:=#[s.ig,s.kp,s.ru]);have a4:I8 (fun k=>k=T) O1 w3 O1 (w3.setRow xb #[s.ig,s.kp,s.ru]):=G9 zo a2.tag rfl;have d3:=a1.trans (a4.mono (fun _ h=>I6 h.symm) a6);have b3:=a0.upd a4 zo zo zo zo zo zo;refine zg ?_;refine cu rfl rfl rfl rfl a7.cellsAdd (IH _) (I4 _) ⟨aD d3 c6,_,rfl,b3.tx⟩
 rw[b1];have q5:=a3.q5;rw[d0]at q5;have q4:=a3.q4;rw[a']at q4;have c':((e==0):Bool)=false:=by simpa using b9
 have b2:((e != 0):Bool)=true:=by simpa using b9
 cases e4:decide ((fr:Int)<=(l.length:Int))with
 |false=>
  refine zg ?_;refine zvG (bZ GZ rfl) ?_
  refine au (d:=21) rfl (b':=false) (e4) ?_;refine zg ?_
  refine zFG rfl rfl ?_;refine zvG (RV.ld q5 rfl) ?_
  refine aO rfl (b2) ?_;have d4:w3.drew.cell? ⟨rb,4,none⟩=some (nI (p:Nat)):=q4;have d5:w3.drew.cell? ⟨rb,5,none⟩=some (nI e):=q5;refine zg ?_
  refine aL (fun W=>W.cell? ⟨rb,4,none⟩=some (nI (p:Nat))/\W.cell? ⟨rb,5,none⟩=some (nI e)) 14 rfl zk ?_;refine zin ⟨d4,d5⟩ fun zS=>?_
  refine zr 0 rfl zS (fun _=>aE FG (Ib _) rfl (by first|rfl|(simp only[I2,Iq];rfl)) rfl rfl) ?_;refine zrm 1 rfl zS rfl ?_
  refine zr 2 rfl zS (fun _=>aq rfl) ?_;refine zrf 3 rfl zS rfl ?_
  refine zrf 4 rfl zS rfl ?_;refine zt 5 rfl zS (fun w1 a8=>RV.ld a8.1 rfl) ?_
  refine zrm 6 rfl zS rfl ?_;refine zr 7 rfl zS (fun _=>aq rfl) ?_
  refine zrf 8 rfl zS rfl ?_;refine zrf 9 rfl zS rfl ?_
  refine zt 10 rfl zS (fun w1 a8=>RV.ld a8.2 rfl) ?_;refine G4 11 zk rfl ?_
  refine zsa (us:=#[nS,nS,nS]) a2.drew (I4 _) ?_;have a7:=IS (us:=#[nS,nS,nS]) a2.drew;have a4:I8 (fun k=>k=T) O1 w3.drew O1 (w3.drew.setRow xb #[nS,nS,nS]):=G9 zo a2.tag rfl;have b5:=(Iz a3).upd a4 zo zo;have z5:=b5.q5;rw[d0]at z5;have z4:=b5.q4;rw[a']at z4;refine zg ?_
  refine zaf (⟨z4,z5⟩) fun zS=>?_
  refine zra 12 rfl zS rfl ?_;refine zra 13 rfl zS rfl ?_
  refine I1 zk ?_;refine zg ?_
  refine cu rfl rfl rfl rfl a7.cellsAdd (IH _) (I4 _) ⟨aD ((a1.drew).trans (a4.mono (fun _ h=>I6 h.symm) a6)) c6,rfl,b9⟩
 |true=>
  refine zg ?_;refine zvG (bZ GZ rfl) ?_
  refine au (d:=21) rfl (b':=true) (e4) ?_;refine zg ?_
  refine zvG (RV.ld q5 rfl) ?_;refine zFG rfl (c') ?_
  refine zvG (RV.ld q5 rfl) ?_;refine aO rfl (b2) ?_
  have d4:w3.drew.cell? ⟨rb,4,none⟩=some (nI (p:Nat)):=q4;have d5:w3.drew.cell? ⟨rb,5,none⟩=some (nI e):=q5;refine zg ?_;refine aL (fun W=>W.cell? ⟨rb,4,none⟩=some (nI (p:Nat))/\W.cell? ⟨rb,5,none⟩=some (nI e)) 14 rfl zk ?_;refine zin ⟨d4,d5⟩ fun zS=>?_
  refine zr 0 rfl zS (fun _=>aE FG (Ib _) rfl (by first|rfl|(simp only[I2,Iq];rfl)) rfl rfl) ?_;refine zrm 1 rfl zS rfl ?_
  refine zr 2 rfl zS (fun _=>aq rfl) ?_;refine zrf 3 rfl zS rfl ?_
  refine zrf 4 rfl zS rfl ?_;refine zt 5 rfl zS (fun w1 a8=>RV.ld a8.1 rfl) ?_
  refine zrm 6 rfl zS rfl ?_;refine zr 7 rfl zS (fun _=>aq rfl) ?_
  refine zrf 8 rfl zS rfl ?_;refine zrf 9 rfl zS rfl ?_
  refine zt 10 rfl zS (fun w1 a8=>RV.ld a8.2 rfl) ?_;refine G4 11 zk rfl ?_
  refine zsa (us:=#[nS,nS,nS]) a2.drew (I4 _) ?_;have a7:=IS (us:=#[nS,nS,nS]) a2.drew;have a4:I8 (fun k=>k=T) O1 w3.drew O1 (w3.drew.setRow xb #[nS,nS,nS]):=G9 zo a2.tag rfl;have b5:=(Iz a3).upd a4 zo zo;have z5:=b5.q5;rw[d0]at z5;have z4:=b5.q4;rw[a']at z4;refine zg ?_
  refine zaf (⟨z4,z5⟩) fun zS=>?_
  refine zra 12 rfl zS rfl ?_;refine zra 13 rfl zS rfl ?_
  refine I1 zk ?_;refine zg ?_
  refine cu rfl rfl rfl rfl a7.cellsAdd (IH _) (I4 _) ⟨aD ((a1.drew).trans (a4.mono (fun _ h=>I6 h.symm) a6)) c6,rfl,b9⟩
theorem kD:∀(n:Nat),n<=1000000->∀(t:Nd),nsz t<=n->∀(B:Nat) (O:Nat->Nat) (x:N3) (w:GW),Jq B O w->Nt (fun _=>0) w t x->JI IX 38 [nv x] w fun v w'=>∃y,v=nv y/\Nt O w' t y/\IY w w'
 |0,_,t,hn=>by have:=dB t;omega
 |n+1,b9,.mk k c kids,hn=>by
  intro B O x w hR h;obtain⟨T,j3,hT⟩:=hR.bound;have b3:∀b,¬T<=O b:=fun b=>by have:=hT b;omega
  obtain⟨xs,hs,hf,hl,hk⟩:=h.kids;simp only[Nd.kids]at hl hk;obtain⟨x0,x1,sv⟩:=x;obtain rfl:k=x0:=(congrArg Prod.fst h.ones).symm;obtain rfl:c=x1:=(congrArg (fun q:N3=>q.2.1) h.ones).symm;dsimp only at hs hf;have j2:=eC kids;simp only[nsz]at hn;have a':¬(fun q:Nat=>T<=q) 0:=fun e=>zo
  refine I5 func38 ntmps38 rfl rfl ?_;refine zh ?_
  refine aF hR (T+1) zo rfl rfl ?_;intro nb w1 O1 h9 i5 i9 j6;refine ar i9 T zo (IC _) rfl ?_
  intro xb w2 O2 h5 h1 i8 j5;have g4:=h9.upd h1 zo zo;have n0:w2.cell? (nA nb 0)=some (nI k):=g4.cell 0 rfl;have n1:w2.cell? (nA nb 1)=some (nI c):=g4.cell 1 rfl;refine zh ?_;refine zv (aE uS (IC _) rfl (by first|rfl|(simp only[I2,Iq];rfl)) rfl rfl) ?_;refine ar i8 (T+2) zo (IC _) rfl ?_;intro ob w3 O3 g2 i4 i7 j4;refine zsa (us:=#[nI k,nI c,nS]) g2 (Is _) ?_;have h7:=g2.setRow (us:=#[nI k,nI c,nS]);have h0:I8 (fun q=>q=T+2) O3 w3 O3 (w3.setRow ob #[nI k,nI c,nS]):=G9 zo g2.tag rfl;have d7:=i4.trans h0;have i6:=i7.upd h0;have h8:=g4.upd d7 zo zo;have h4:=h5.upd d7 zo zo;have g5:I8 (fun q=>T<=q) O w O3 _:=((i5.mono (fun _ h=>by rw[h];omega) a').trans (h1.mono (fun _ h=>by rw[h];omega) a')).trans (d7.mono (fun _ h=>by rw[h];omega) a');generalize w3.setRow ob #[nI k,nI c,nS]=w4 at *;refine zh ?_
  refine zlp (fun y:Nat×(Nat->Nat)×World×GU×List N3=>[(1,nP nb),(2,nP xb),(3,nP ob),(4,nI y.1)]) (fun y=>y.2.2.1) (fun y=>y.1<=xs.length/\IA y.2.1 y.2.2.1 (T+1) nb #[nI k,nI c,sv] 79/\IA y.2.1 y.2.2.1 T xb #[nI 0,nI 0,nS] 86/\IA y.2.1 y.2.2.1 (T+2) ob #[nI k,nI c,y.2.2.2.1] 86/\Jw aX 86 3 y.2.1 y.2.2.1 (T+3) y.2.2.2.1 y.2.2.2.2/\y.2.2.2.2.length=y.1/\(∀m,m<y.1->Nt y.2.1 y.2.2.1 (nth kids m) (nth y.2.2.2.2 m))/\I8 (fun q=>T<=q) O w y.2.1 y.2.2.1/\Jq B y.2.1 y.2.2.1) (fun y=>xs.length-y.1) (0,O3,w4,nS,[]) (⟨Iy _,h8,h4,h7,Ip _ _ _ _ _ _,rfl,fun m hm=>absurd hm (Jt m),g5,i6⟩) ?_;rintro⟨i,O1',d',lv,zs⟩ ⟨hi,d3,b6,d2,b2,d1,g0,b',d9⟩;dsimp only at hi d3 b6 d2 b2 d1 g0 b' d9 ⊢;have g8:=aD b' b3;have j0:=hs.ext g8;have c2:d'.cell? (nA nb 2)=some sv:=d3.cell 2 rfl;refine zh ?_
  refine zC ?_ ?_
  ·intro d4;replace d4:i<xs.length:=dT d4;have g':=hk i d4;have i':=g'.one;have j1:=cj kids i zo;have g3:=d3.drew;have g9:=b6.drew;have g1:=d2.drew;have c6:=b2.drew;have g6:=d9.drew;have e3:∀m,m<i->Nt O1' d'.drew (nth kids m) (nth zs m):=fun m hm=>(g0 m hm).drew
   have d5:=b'.drew;have h2:=aD d5 b3;have d8:=G1 (g3.cell 2 rfl) h2;refine zh ?_;refine aL (fun W=>W.cell? ⟨nb,2,none⟩=some sv/\IY w W) 12 rfl zk ?_;refine zrf 0 rfl d8 rfl ?_;refine zrf 2 rfl d8 rfl ?_;refine zt 3 rfl d8 (fun w1 e6=>RV.ld e6.1 rfl) ?_;refine zrm 4 rfl d8 rfl ?_;refine zt 5 rfl d8 (fun w1 e6=>Ia (by first|exact hs.ext e6.2) underlying77 (It _) rfl rfl _ rfl zo) ?_;refine zt 6 rfl d8 (fun w1 e6=>ah (us:=aX (nth xs i)) (fun j u hu=>(hs.ext e6.2).cell d4 hu) (Jc _) (It _) rfl) ?_;generalize d'.drew=wD at *;have i3:wD.cell? (nA ob 2)=some lv:=g1.cell 2 rfl;have c':=kD n zo (nth kids i) zo B O1' (nth xs i) wD g6 (g'.ext h2);refine bG 1 7 zk rfl rfl ?_ ?_
   ·refine zvH (RV.ld i3 rfl) ?_;refine ae d8 ?_
    refine G4 7 zk rfl ?_;refine zc J3 c' ?_
    rintro v w5 ⟨z,rfl,f6,g7⟩;have b0:I8 (fun _=>False) O1' wD O1' w5:=aa (fun h=>h) O1' g7;have e1:=ka g3 b0 zo (fun h=>h);have f7:=ka g9 b0 zo (fun h=>h);have e9:=ka g1 b0 zo (fun h=>h);have b1:=JK c6 b0 zo (fun h=>h);have f':=Jg g6 b0;have b8:∀m,m<i->Nt O1' w5 (nth kids m) (nth zs m):=fun m hm=>(e3 m hm).upd b0
    have b4:=J1 d5 (b0.mono (fun _ h=>h.elim) a');have f9:=G1 (e1.cell 2 rfl) (aD b4 b3);refine zh ?_;refine ae f9 ?_;refine G4 8 zk rfl ?_;refine aI elN (enc:=aX) z rfl rfl rfl zd rfl ?_;intro w6 h6 f5;have a1:I8 (fun _=>False) O1' w5 O1' w6:=aa (fun h=>h) O1' f5;have b9:=e1.upd a1 zo (fun h=>h);have e5:=f7.upd a1 zo (fun h=>h);have e0:=e9.upd a1 zo (fun h=>h);have a5:=b1.upd a1 zo (fun h=>h);have f4:=f'.upd a1;have b5:∀m,m<i->Nt O1' w6 (nth kids m) (nth zs m):=fun m hm=>(b8 m hm).upd a1
    have c5:=f6.upd a1;have a9:=b4.trans (a1.mono (fun _ h=>h.elim) a');have e2:=G1 (b9.cell 2 rfl) (aD a9 b3);refine zh ?_;refine ae e2 ?_;have a6:∀u∈[z],∀c∈aX u,c.oneCell'=true:=fun u hu=>by
     rw[G5.1 hu];exact gR c5.one
    refine G4 9 zk rfl ?_;refine aA elN a5 f4 h6 (by simp) rfl rfl (fun _ _=>rfl) a6 (by simp;omega) (by simp;omega) zo rfl ?_
    intro a3 w7 O7 a0 a4 f3;have e7:=a0.one;have c9:=ka b9 a4 zo zo;have b7:=ka e0 a4 zo zo;have e4:=ka e5 a4 zo zo;have a8:=a9.trans (a4.mono (fun _ h=>by rw[h];omega) a');have d0:=G1 (c9.cell 2 rfl) (aD a8 b3);refine zh ?_;refine ae d0 ?_;refine zrf 10 rfl d0 rfl ?_;refine G4 11 zk rfl ?_;refine ak (j:=2) b7 rfl (JG _) e7 rfl rfl rfl ?_;have e8:IA O7 (w7.setCell ⟨ob,2,none⟩ a3) (T+2) ob #[nI k,nI c,a3] 86:=b7.set 2 a3;have a2:I8 (fun q=>q=T+2) O7 w7 O7 (w7.setCell ⟨ob,2,none⟩ a3):=GV zo b7.tag rfl;have c8:=c9.upd a2 zo zo;have a7:=a8.trans (a2.mono (fun _ h=>by rw[h];omega) a');have e':=G1 (c8.cell 2 rfl) (aD a7 b3);refine zh ?_;refine ae e' ?_;refine I1 zk ?_;refine zh ?_;refine zxd (i+1,O7,(w7.setCell ⟨ob,2,none⟩ a3),a3,zs++[z]) (⟨d4,c8,e4.upd a2 zo zo,e8,a0.upd a2 zo zo,by simp[d1],fun m hm=>?_,a7,f3.upd a2⟩);dsimp only at hm ⊢
    by_cases e:m<i
    ·rw[az (xs:=zs++[z]) (by simp;omega),G6 zo,<-az zo];exact((b5 m e).upd a4).upd a2
    obtain rfl:m=zs.length:=zo;rw[az (xs:=zs++[z]) (by simp),G2 zo];simp only[Ig,GT];rw[d1];exact(c5.upd a4).upd a2
   refine zc J3 c' ?_;rintro v w5 ⟨z,rfl,f6,g7⟩;have b0:I8 (fun _=>False) O1' wD O1' w5:=aa (fun h=>h) O1' g7;have e1:=ka g3 b0 zo (fun h=>h);have f7:=ka g9 b0 zo (fun h=>h);have e9:=ka g1 b0 zo (fun h=>h);have b1:=JK c6 b0 zo (fun h=>h);have f':=Jg g6 b0;have b8:∀m,m<i->Nt O1' w5 (nth kids m) (nth zs m):=fun m hm=>(e3 m hm).upd b0
   have b4:=J1 d5 (b0.mono (fun _ h=>h.elim) a');have f9:=G1 (e1.cell 2 rfl) (aD b4 b3);refine zh ?_;refine ae f9 ?_;have i2:w5.cell? (nA ob 2)=some lv:=e9.cell 2 rfl;refine bG 1 8 zk rfl rfl ?_ ?_
   ·refine zvH (RV.ld i2 rfl) ?_;refine ae f9 ?_
    refine G4 8 zk rfl ?_;refine aI elN (enc:=aX) z rfl rfl rfl zd rfl ?_
    intro w6 h6 f5;have a1:I8 (fun _=>False) O1' w5 O1' w6:=aa (fun h=>h) O1' f5;have b9:=e1.upd a1 zo (fun h=>h);have e5:=f7.upd a1 zo (fun h=>h);have e0:=e9.upd a1 zo (fun h=>h);have a5:=b1.upd a1 zo (fun h=>h);have f4:=f'.upd a1;have b5:∀m,m<i->Nt O1' w6 (nth kids m) (nth zs m):=fun m hm=>(b8 m hm).upd a1
    have c5:=f6.upd a1;have a9:=b4.trans (a1.mono (fun _ h=>h.elim) a');have e2:=G1 (b9.cell 2 rfl) (aD a9 b3);refine zh ?_;refine ae e2 ?_;have a6:∀u∈[z],∀c∈aX u,c.oneCell'=true:=fun u hu=>by
     rw[G5.1 hu];exact gR c5.one
    refine G4 9 zk rfl ?_;refine aA elN a5 f4 h6 (by simp) rfl rfl (fun _ _=>rfl) a6 (by simp;omega) (by simp;omega) zo rfl ?_
    intro a3 w7 O7 a0 a4 f3;have e7:=a0.one;have c9:=ka b9 a4 zo zo;have b7:=ka e0 a4 zo zo;have e4:=ka e5 a4 zo zo;have a8:=a9.trans (a4.mono (fun _ h=>by rw[h];omega) a');have d0:=G1 (c9.cell 2 rfl) (aD a8 b3);refine zh ?_;refine ae d0 ?_;refine zrf 10 rfl d0 rfl ?_;refine G4 11 zk rfl ?_;refine ak (j:=2) b7 rfl (JG _) e7 rfl rfl rfl ?_;have e8:IA O7 (w7.setCell ⟨ob,2,none⟩ a3) (T+2) ob #[nI k,nI c,a3] 86:=b7.set 2 a3;have a2:I8 (fun q=>q=T+2) O7 w7 O7 (w7.setCell ⟨ob,2,none⟩ a3):=GV zo b7.tag rfl;have c8:=c9.upd a2 zo zo;have a7:=a8.trans (a2.mono (fun _ h=>by rw[h];omega) a');have e':=G1 (c8.cell 2 rfl) (aD a7 b3);refine zh ?_;refine ae e' ?_;refine I1 zk ?_;refine zh ?_;refine zxd (i+1,O7,(w7.setCell ⟨ob,2,none⟩ a3),a3,zs++[z]) (⟨d4,c8,e4.upd a2 zo zo,e8,a0.upd a2 zo zo,by simp[d1],fun m hm=>?_,a7,f3.upd a2⟩);dsimp only at hm ⊢
    by_cases e:m<i
    ·rw[az (xs:=zs++[z]) (by simp;omega),G6 zo,<-az zo];exact((b5 m e).upd a4).upd a2
    obtain rfl:m=zs.length:=zo;rw[az (xs:=zs++[z]) (by simp),G2 zo];simp only[Ig,GT];rw[d1];exact(c5.upd a4).upd a2
   refine aI elN (enc:=aX) z rfl rfl rfl zd rfl ?_;intro w6 h6 f5;have a1:I8 (fun _=>False) O1' w5 O1' w6:=aa (fun h=>h) O1' f5;have b9:=e1.upd a1 zo (fun h=>h);have e5:=f7.upd a1 zo (fun h=>h);have e0:=e9.upd a1 zo (fun h=>h);have a5:=b1.upd a1 zo (fun h=>h);have f4:=f'.upd a1;have b5:∀m,m<i->Nt O1' w6 (nth kids m) (nth zs m):=fun m hm=>(b8 m hm).upd a1
   have c5:=f6.upd a1;have a9:=b4.trans (a1.mono (fun _ h=>h.elim) a');have e2:=G1 (b9.cell 2 rfl) (aD a9 b3);refine zh ?_;refine ae e2 ?_;have i1:w6.cell? (nA ob 2)=some lv:=e0.cell 2 rfl;refine G4 1 zk rfl ?_;refine zvH (RV.ld i1 rfl) ?_;refine ae e2 ?_;have a6:∀u∈[z],∀c∈aX u,c.oneCell'=true:=fun u hu=>by
    rw[G5.1 hu];exact gR c5.one
   refine G4 9 zk rfl ?_;refine aA elN a5 f4 h6 (by simp) rfl rfl (fun _ _=>rfl) a6 (by simp;omega) (by simp;omega) zo rfl ?_
   intro a3 w7 O7 a0 a4 f3;have e7:=a0.one;have c9:=ka b9 a4 zo zo;have b7:=ka e0 a4 zo zo;have e4:=ka e5 a4 zo zo;have a8:=a9.trans (a4.mono (fun _ h=>by rw[h];omega) a');have d0:=G1 (c9.cell 2 rfl) (aD a8 b3);refine zh ?_;refine ae d0 ?_;refine zrf 10 rfl d0 rfl ?_;refine G4 11 zk rfl ?_;refine ak (j:=2) b7 rfl (JG _) e7 rfl rfl rfl ?_;have e8:IA O7 (w7.setCell ⟨ob,2,none⟩ a3) (T+2) ob #[nI k,nI c,a3] 86:=b7.set 2 a3;have a2:I8 (fun q=>q=T+2) O7 w7 O7 (w7.setCell ⟨ob,2,none⟩ a3):=GV zo b7.tag rfl;have c8:=c9.upd a2 zo zo;have a7:=a8.trans (a2.mono (fun _ h=>by rw[h];omega) a');have e':=G1 (c8.cell 2 rfl) (aD a7 b3);refine zh ?_;refine ae e' ?_;refine I1 zk ?_;refine zh ?_;refine zxd (i+1,O7,(w7.setCell ⟨ob,2,none⟩ a3),a3,zs++[z]) (⟨d4,c8,e4.upd a2 zo zo,e8,a0.upd a2 zo zo,by simp[d1],fun m hm=>?_,a7,f3.upd a2⟩);dsimp only at hm ⊢
   by_cases e:m<i
   ·rw[az (xs:=zs++[z]) (by simp;omega),G6 zo,<-az zo];exact((b5 m e).upd a4).upd a2
   obtain rfl:m=zs.length:=zo;rw[az (xs:=zs++[z]) (by simp),G2 zo];simp only[Ig,GT];rw[d1];exact(c5.upd a4).upd a2
  intro i0;obtain rfl:i=xs.length:=dF i0;have h':=b2.one;refine zh ?_;refine zv (ah (us:=aX ((k,c,lv):N3)) d2.cellsAdd (Jy _) (Is _) rfl) ?_;refine zsb (us:=#[nI k,nI c,lv]) b6 (Is _) (bV (x:=(k,c,lv)) h') ?_;have h3:=b6.setRow (us:=#[nI k,nI c,lv]);have f8:I8 (fun q=>q=T) O1' d' O1' (d'.setRow xb #[nI k,nI c,lv]):=G9 zo b6.tag rfl;have c7:=b2.upd f8 zo zo;have d6:=b'.trans (f8.mono (fun _ h=>by rw[h];omega) a');have hN:Nt O (d'.setRow xb #[nI k,nI c,lv]) (.mk k c kids) (k,c,lv):=
   .mk c7.sl (c7.freeT zo (fun b=>by have:=hT b;omega) (d9.upd f8) d6) zo (fun m hm=>((g0 m zo).upd f8).low d6)
  refine zh ?_;refine aJ rfl rfl (h3.cellsAdd) (Jy _) (Is _) (⟨(k,c,lv),rfl,hN,aD d6 b3⟩)
def RulesO(O:Nat->Nat)(w:GW)(rv:GU)(ts:List R3):Prop:=∃zs,Sl cd 7 w rv zs/\Free O w rv/\ts.length=zs.length/\∀i,i<zs.length->Rt O w (nth ts i) (nth zs i)
theorem CE(li lk:List Int)(ts:List R3)(xs:List X3)(ig kp ru:GU)(B:Nat)(O:Nat->Nat)(w:GW)(j0:Jq B O w)(h1:Sl encI 1 w ig li)(h2:Sl encI 1 w kp lk)(h3:Sl cd 7 w ru xs)(h4:ts.length=xs.length)(h5:∀i,i<xs.length->Rt (fun _=>0) w (nth ts i) (nth xs i))(hf:Few li lk ts):JI IX 15 [vW ig kp ru] w fun u w'=>∃rv,u=vW ig kp rv/\RulesO O w' rv ts/\IY w w':=by
 obtain⟨f1,f2,f3,f4⟩:=hf;have o1:=h1.one;have o2:=h2.one;have o3:=h3.one;obtain⟨T,k9,hT⟩:=j0.bound;have b6:∀b,¬T<=O b:=fun b=>by have:=hT b;omega
 have b3:¬(fun q:Nat=>T<=q) 0:=fun e=>zo
 refine I5 func15 ntmps15 rfl rfl ?_;refine zh ?_
 refine aF j0 T zo rfl rfl ?_;intro nb w1 O1 j7 k2 k6 l1;refine ar k6 (T+1) zo (Ib _) rfl ?_
 intro xb w2 O2 j3 i' k5 l0;have i3:=j7.upd i' zo zo;have n0:w2.cell? (nA nb 0)=some ig:=i3.cell 0 rfl;have n1:w2.cell? (nA nb 1)=some kp:=i3.cell 1 rfl;refine zh ?_;refine zv (aE FG (Ib _) rfl (by simp only[I2,o1,o2];rfl) rfl rfl) ?_;refine ar k5 (T+2) zo (Ib _) rfl ?_;intro ob w3 O3 i1 k1 k4 k';refine zsb (us:=#[ig,kp,nS]) i1 (I4 _) (by simp only[I2,o1,o2];rfl) ?_;have j5:=i1.setRow (us:=#[ig,kp,nS]);have i9:I8 (fun q=>q=T+2) O3 w3 O3 (w3.setRow ob #[ig,kp,nS]):=G9 zo i1.tag rfl;have f8:=k1.trans i9;have k3:=k4.upd i9;have j6:=i3.upd f8 zo zo;have j2:=j3.upd f8 zo zo;have i4:I8 (fun q=>T<=q) O w O3 _:=((k2.mono (fun _ h=>by rw[h];omega) b3).trans (i'.mono (fun _ h=>by rw[h];omega) b3)).trans (f8.mono (fun _ h=>by rw[h];omega) b3);generalize w3.setRow ob #[ig,kp,nS]=w4 at *;refine zh ?_
 refine zlp (fun y:Nat×(Nat->Nat)×World×GU×List X3=>[(1,nP nb),(2,nP xb),(3,nP ob),(4,nI y.1)]) (fun y=>y.2.2.1) (fun y=>y.1<=xs.length/\IA y.2.1 y.2.2.1 T nb #[ig,kp,ru] 44/\IA y.2.1 y.2.2.1 (T+1) xb #[nS,nS,nS] 49/\IA y.2.1 y.2.2.1 (T+2) ob #[ig,kp,y.2.2.2.1] 49/\Jw cd 88 7 y.2.1 y.2.2.1 (T+3) y.2.2.2.1 y.2.2.2.2/\y.2.2.2.2.length=y.1/\(∀m,m<y.1->Rt y.2.1 y.2.2.1 (nth ts m) (nth y.2.2.2.2 m))/\I8 (fun q=>T<=q) O w y.2.1 y.2.2.1/\Jq B y.2.1 y.2.2.1) (fun y=>xs.length-y.1) (0,O3,w4,nS,[]) (⟨Iy _,j6,j2,j5,Ip _ _ _ _ _ _,rfl,fun m hm=>absurd hm (Jt m),i4,k3⟩) ?_;rintro⟨i,O1,g4,lv,zs⟩ ⟨hi,f6,d2,f5,c9,d8,h',d',g3⟩;dsimp only at hi f6 d2 f5 c9 d8 h' d' g3 ⊢;have i7:=aD d' b6;have k8:=h3.ext i7;have c2:g4.cell? (nA nb 2)=some ru:=f6.cell 2 rfl;refine zh ?_
 refine zC ?_ ?_
 ·intro b4;replace b4:i<xs.length:=dT b4;obtain⟨z1,z2⟩:=f4 i zo;have i2:=f6.drew;have i8:=d2.drew;have i0:=f5.drew;have e1:=c9.drew;have h9:=g3.drew;have g9:∀m,m<i->Rt O1 g4.drew (nth ts m) (nth zs m):=fun m hm=>(h' m hm).ext (GR g4).drew
  have f7:=d'.drew;have i5:=aD f7 b6;have b7:=G1 (i2.cell 2 rfl) i5;have j9:∀W,IY w W->∀(j:Nat) (u:GU),(aX (nth xs i).1)[j]? = some u->W.cell? (((adr ru 7 i).add 0).add j)=some u:=fun W hE j u hu=>by
   have e:(((adr ru 7 i).add 0).add j)=(adr ru 7 i).add j:=by rw[JD,Nat.zero_add]
   rw[e];refine hE.cell (h3.cell b4 ?_);simp only[aX]at hu
   match j,hu with
   |0,hu=>exact hu
   |1,hu=>exact hu
   |2,hu=>exact hu
  have j4:∀W,IY w W->∀(j:Nat) (u:GU),(aX (nth xs i).2.1)[j]? = some u->W.cell? (((adr ru 7 i).add 3).add j)=some u:=fun W hE j u hu=>by
   have e:(((adr ru 7 i).add 3).add j)=(adr ru 7 i).add (3+j):=by rw[JD]
   rw[e];refine hE.cell (h3.cell b4 ?_);simp only[aX]at hu
   match j,hu with
   |0,hu=>exact hu
   |1,hu=>exact hu
   |2,hu=>exact hu
  obtain⟨a6,h0⟩:∃b,b=(nth xs i).2.2:=⟨_,rfl⟩
  have k0:∀W,IY w W->W.cell? ((adr ru 7 i).add 6)=some (.bool a6):=fun W hE=>by rw[h0];exact hE.cell (h3.cell b4 rfl)
  refine zh ?_;refine aL (fun W=>W.cell? ⟨nb,2,none⟩=some ru/\IY w W) 27 rfl zk ?_
  refine zrf 0 rfl b7 rfl ?_;refine zrf 2 rfl b7 rfl ?_
  refine zt 3 rfl b7 (fun w1 b9=>RV.ld b9.1 rfl) ?_;refine zrm 4 rfl b7 rfl ?_
  refine zt 5 rfl b7 (fun w1 b9=>Ia (h3.ext b9.2) Iv (J2 _) rfl rfl i rfl b4) ?_;refine zrf 6 rfl b7 rfl ?_
  refine zt 7 rfl b7 (fun w1 b9=>ah (us:=aX (nth xs i).1) (j9 _ b9.2) (Jc _) (It _) rfl) ?_;refine zrf 9 rfl b7 rfl ?_
  refine zt 10 rfl b7 (fun w1 b9=>RV.ld b9.1 rfl) ?_;refine zrm 11 rfl b7 rfl ?_
  refine zt 12 rfl b7 (fun w1 b9=>Ia (h3.ext b9.2) Iv (J2 _) rfl rfl i rfl b4) ?_;refine zrf 13 rfl b7 rfl ?_
  refine zt 14 rfl b7 (fun w1 b9=>ah (us:=aX (nth xs i).2.1) (j4 _ b9.2) (Jc _) (It _) rfl) ?_;refine zrf 16 rfl b7 rfl ?_
  refine zt 17 rfl b7 (fun w1 b9=>RV.ld b9.1 rfl) ?_;refine zrm 18 rfl b7 rfl ?_
  refine zt 19 rfl b7 (fun w1 b9=>Ia (h3.ext b9.2) Iv (J2 _) rfl rfl i rfl b4) ?_;refine zrf 20 rfl b7 rfl ?_
  refine zt 21 rfl b7 (fun w1 b9=>RV.ld (k0 _ b9.2) rfl) ?_;generalize g4.drew=wD at *;refine bG 1 8 zk rfl rfl ?_ ?_
  ·refine zvH (RV.ld (i0.cell 2 rfl) rfl) ?_;refine ae b7 ?_
   refine G4 8 zk rfl ?_;refine zc J3 (kD 1000000 (If _) (nth ts i).1 zo B O1 (nth xs i).1 wD h9 ((h5 i b4).1.ext i5)) ?_
   rintro v5 w5 ⟨y1,rfl,h6,i6⟩;have c6:I8 (fun _=>False) O1 wD O1 w5:=aa (fun h=>h) O1 i6;have g7:=i2.upd c6 zo (fun h=>h);have h8:=i8.upd c6 zo (fun h=>h);have g':=i0.upd c6 zo (fun h=>h);have c8:=e1.upd c6 zo (fun h=>h);have g2:=h9.upd c6;have d7:∀m,m<i->Rt O1 w5 (nth ts m) (nth zs m):=fun m hm=>(g9 m hm).upd c6
   have d1:=f7.trans (c6.mono (fun _ h=>h.elim) b3);have f':=G1 (g7.cell 2 rfl) (aD d1 b6);refine zh ?_;refine ae f' ?_;refine G4 15 zk rfl ?_;refine zc J3 (kD 1000000 (If _) (nth ts i).2.1 zo B O1 (nth xs i).2.1 w5 g2 ((h5 i b4).2.1.ext f'.2)) ?_;rintro v6 w6 ⟨y2,rfl,g5,e5⟩;have d0:=h6.upd (aa (S:=fun _=>False) (fun h=>h) O1 e5);have b0:I8 (fun _=>False) O1 w5 O1 w6:=aa (fun h=>h) O1 e5;have d9:=g7.upd b0 zo (fun h=>h);have g6:=h8.upd b0 zo (fun h=>h);have e':=g'.upd b0 zo (fun h=>h);have b5:=c8.upd b0 zo (fun h=>h);have g8:=g2.upd b0;have c':∀m,m<i->Rt O1 w6 (nth ts m) (nth zs m):=fun m hm=>(d7 m hm).upd b0
   have b8:=d1.trans (b0.mono (fun _ h=>h.elim) b3);have e0:=G1 (d9.cell 2 rfl) (aD b8 b6);refine zh ?_;refine ae e0 ?_;refine zr 22 rfl e0 (fun _=>IB (vs:=[(0,nv y1),(1,nv y2),(2,.bool a6)]) (cells:=(cd (y1,y2,a6)).toArray) D9 (Jm _) rfl zk) ?_;refine G4 23 zk rfl ?_;refine aI elR (enc:=cd) (y1,y2,a6) rfl rfl rfl zd rfl ?_;intro w7 h7 c7;have a8:=d0.upd (aa (S:=fun _=>False) (fun h=>h) O1 c7);have a7:=g5.upd (aa (S:=fun _=>False) (fun h=>h) O1 c7);have a2:I8 (fun _=>False) O1 w6 O1 w7:=aa (fun h=>h) O1 c7;have d5:=d9.upd a2 zo (fun h=>h);have e7:=g6.upd a2 zo (fun h=>h);have e3:=e'.upd a2 zo (fun h=>h);have a9:=b5.upd a2 zo (fun h=>h);have g1:=g8.upd a2;have b':∀m,m<i->Rt O1 w7 (nth ts m) (nth zs m):=fun m hm=>(c' m hm).upd a2
   have b2:=b8.trans (a2.mono (fun _ h=>h.elim) b3);have e4:=G1 (d5.cell 2 rfl) (aD b2 b6);refine zh ?_;refine ae e4 ?_;have a':∀u∈[((y1,y2,a6):X3)],∀c∈cd u,c.oneCell'=true:=fun u hu=>by
    rw[G5.1 hu];exact bL a8.one a7.one
   refine G4 24 zk rfl ?_;refine aA elR a9 g1 h7 (by simp) rfl rfl (fun _ _=>rfl) a' (by simp;omega) (by simp;omega) zo rfl ?_
   intro a5 w8 O8 a1 a4 g0;have e8:=a1.one;have d4:=ka d5 a4 zo zo;have c5:=ka e3 a4 zo zo;have e6:=ka e7 a4 zo zo;have b1:=b2.trans (a4.mono (fun _ h=>by rw[h];omega) b3);have d6:=G1 (d4.cell 2 rfl) (aD b1 b6);refine zh ?_;refine ae d6 ?_;refine zrf 25 rfl d6 rfl ?_;refine G4 26 zk rfl ?_;refine ak (j:=2) c5 rfl (Jo _) e8 rfl rfl rfl ?_;have e9:IA O8 (w8.setCell ⟨ob,2,none⟩ a5) (T+2) ob #[ig,kp,a5] 49:=c5.set 2 a5;have a0:I8 (fun q=>q=T+2) O8 w8 O8 (w8.setCell ⟨ob,2,none⟩ a5):=GV zo c5.tag rfl;have d3:=d4.upd a0 zo zo;have a3:=b1.trans (a0.mono (fun _ h=>by rw[h];omega) b3);have f9:=G1 (d3.cell 2 rfl) (aD a3 b6);refine zh ?_;refine ae f9 ?_;refine I1 zk ?_;refine zh ?_;refine zxd (i+1,O8,(w8.setCell ⟨ob,2,none⟩ a5),a5,zs++[((y1,y2,a6):X3)]) (⟨b4,d3,e6.upd a0 zo zo,e9,a1.upd a0 zo zo,by simp[d8],fun m hm=>?_,a3,g0.upd a0⟩);dsimp only at hm ⊢
   by_cases e:m<i
   ·rw[az (xs:=zs++[((y1,y2,a6):X3)]) (by simp;omega),G6 zo,<-az zo];exact((b' m e).upd a4).upd a0
   obtain rfl:m=zs.length:=zo;rw[az (xs:=zs++[((y1,y2,a6):X3)]) (by simp),G2 zo];simp only[Ig,GT];rw[d8];exact⟨(a8.upd a4).upd a0,(a7.upd a4).upd a0,h0.trans (h5 i b4).2.2⟩
  refine zc J3 (kD 1000000 (If _) (nth ts i).1 zo B O1 (nth xs i).1 wD h9 ((h5 i b4).1.ext i5)) ?_;rintro v5 w5 ⟨y1,rfl,h6,i6⟩;have c6:I8 (fun _=>False) O1 wD O1 w5:=aa (fun h=>h) O1 i6;have g7:=i2.upd c6 zo (fun h=>h);have h8:=i8.upd c6 zo (fun h=>h);have g':=i0.upd c6 zo (fun h=>h);have c8:=e1.upd c6 zo (fun h=>h);have g2:=h9.upd c6;have d7:∀m,m<i->Rt O1 w5 (nth ts m) (nth zs m):=fun m hm=>(g9 m hm).upd c6
  have d1:=f7.trans (c6.mono (fun _ h=>h.elim) b3);have f':=G1 (g7.cell 2 rfl) (aD d1 b6);refine zh ?_;refine ae f' ?_;refine bG 1 15 zk rfl rfl ?_ ?_
  ·refine zvH (RV.ld (g'.cell 2 rfl) rfl) ?_;refine ae f' ?_
   refine G4 15 zk rfl ?_;refine zc J3 (kD 1000000 (If _) (nth ts i).2.1 zo B O1 (nth xs i).2.1 w5 g2 ((h5 i b4).2.1.ext f'.2)) ?_
   rintro v6 w6 ⟨y2,rfl,g5,e5⟩;have d0:=h6.upd (aa (S:=fun _=>False) (fun h=>h) O1 e5);have b0:I8 (fun _=>False) O1 w5 O1 w6:=aa (fun h=>h) O1 e5;have d9:=g7.upd b0 zo (fun h=>h);have g6:=h8.upd b0 zo (fun h=>h);have e':=g'.upd b0 zo (fun h=>h);have b5:=c8.upd b0 zo (fun h=>h);have g8:=g2.upd b0;have c':∀m,m<i->Rt O1 w6 (nth ts m) (nth zs m):=fun m hm=>(d7 m hm).upd b0
   have b8:=d1.trans (b0.mono (fun _ h=>h.elim) b3);have e0:=G1 (d9.cell 2 rfl) (aD b8 b6);refine zh ?_;refine ae e0 ?_;refine zr 22 rfl e0 (fun _=>IB (vs:=[(0,nv y1),(1,nv y2),(2,.bool a6)]) (cells:=(cd (y1,y2,a6)).toArray) D9 (Jm _) rfl zk) ?_;refine G4 23 zk rfl ?_;refine aI elR (enc:=cd) (y1,y2,a6) rfl rfl rfl zd rfl ?_;intro w7 h7 c7;have a8:=d0.upd (aa (S:=fun _=>False) (fun h=>h) O1 c7);have a7:=g5.upd (aa (S:=fun _=>False) (fun h=>h) O1 c7);have a2:I8 (fun _=>False) O1 w6 O1 w7:=aa (fun h=>h) O1 c7;have d5:=d9.upd a2 zo (fun h=>h);have e7:=g6.upd a2 zo (fun h=>h);have e3:=e'.upd a2 zo (fun h=>h);have a9:=b5.upd a2 zo (fun h=>h);have g1:=g8.upd a2;have b':∀m,m<i->Rt O1 w7 (nth ts m) (nth zs m):=fun m hm=>(c' m hm).upd a2
   have b2:=b8.trans (a2.mono (fun _ h=>h.elim) b3);have e4:=G1 (d5.cell 2 rfl) (aD b2 b6);refine zh ?_;refine ae e4 ?_;have a':∀u∈[((y1,y2,a6):X3)],∀c∈cd u,c.oneCell'=true:=fun u hu=>by
    rw[G5.1 hu];exact bL a8.one a7.one
   refine G4 24 zk rfl ?_;refine aA elR a9 g1 h7 (by simp) rfl rfl (fun _ _=>rfl) a' (by simp;omega) (by simp;omega) zo rfl ?_
   intro a5 w8 O8 a1 a4 g0;have e8:=a1.one;have d4:=ka d5 a4 zo zo;have c5:=ka e3 a4 zo zo;have e6:=ka e7 a4 zo zo;have b1:=b2.trans (a4.mono (fun _ h=>by rw[h];omega) b3);have d6:=G1 (d4.cell 2 rfl) (aD b1 b6);refine zh ?_;refine ae d6 ?_;refine zrf 25 rfl d6 rfl ?_;refine G4 26 zk rfl ?_;refine ak (j:=2) c5 rfl (Jo _) e8 rfl rfl rfl ?_;have e9:IA O8 (w8.setCell ⟨ob,2,none⟩ a5) (T+2) ob #[ig,kp,a5] 49:=c5.set 2 a5;have a0:I8 (fun q=>q=T+2) O8 w8 O8 (w8.setCell ⟨ob,2,none⟩ a5):=GV zo c5.tag rfl;have d3:=d4.upd a0 zo zo;have a3:=b1.trans (a0.mono (fun _ h=>by rw[h];omega) b3);have f9:=G1 (d3.cell 2 rfl) (aD a3 b6);refine zh ?_;refine ae f9 ?_;refine I1 zk ?_;refine zh ?_;refine zxd (i+1,O8,(w8.setCell ⟨ob,2,none⟩ a5),a5,zs++[((y1,y2,a6):X3)]) (⟨b4,d3,e6.upd a0 zo zo,e9,a1.upd a0 zo zo,by simp[d8],fun m hm=>?_,a3,g0.upd a0⟩);dsimp only at hm ⊢
   by_cases e:m<i
   ·rw[az (xs:=zs++[((y1,y2,a6):X3)]) (by simp;omega),G6 zo,<-az zo];exact((b' m e).upd a4).upd a0
   obtain rfl:m=zs.length:=zo;rw[az (xs:=zs++[((y1,y2,a6):X3)]) (by simp),G2 zo];simp only[Ig,GT];rw[d8];exact⟨(a8.upd a4).upd a0,(a7.upd a4).upd a0,h0.trans (h5 i b4).2.2⟩
  refine zc J3 (kD 1000000 (If _) (nth ts i).2.1 zo B O1 (nth xs i).2.1 w5 g2 ((h5 i b4).2.1.ext f'.2)) ?_;rintro v6 w6 ⟨y2,rfl,g5,e5⟩;have d0:=h6.upd (aa (S:=fun _=>False) (fun h=>h) O1 e5);have b0:I8 (fun _=>False) O1 w5 O1 w6:=aa (fun h=>h) O1 e5;have d9:=g7.upd b0 zo (fun h=>h);have g6:=h8.upd b0 zo (fun h=>h);have e':=g'.upd b0 zo (fun h=>h);have b5:=c8.upd b0 zo (fun h=>h);have g8:=g2.upd b0;have c':∀m,m<i->Rt O1 w6 (nth ts m) (nth zs m):=fun m hm=>(d7 m hm).upd b0
  have b8:=d1.trans (b0.mono (fun _ h=>h.elim) b3);have e0:=G1 (d9.cell 2 rfl) (aD b8 b6);refine zh ?_;refine ae e0 ?_;refine zr 22 rfl e0 (fun _=>IB (vs:=[(0,nv y1),(1,nv y2),(2,.bool a6)]) (cells:=(cd (y1,y2,a6)).toArray) D9 (Jm _) rfl zk) ?_;refine bG 1 23 zk rfl rfl ?_ ?_
  ·refine zvH (RV.ld (e'.cell 2 rfl) rfl) ?_;refine ae e0 ?_
   refine G4 23 zk rfl ?_;refine aI elR (enc:=cd) (y1,y2,a6) rfl rfl rfl zd rfl ?_
   intro w7 h7 c7;have a8:=d0.upd (aa (S:=fun _=>False) (fun h=>h) O1 c7);have a7:=g5.upd (aa (S:=fun _=>False) (fun h=>h) O1 c7);have a2:I8 (fun _=>False) O1 w6 O1 w7:=aa (fun h=>h) O1 c7;have d5:=d9.upd a2 zo (fun h=>h);have e7:=g6.upd a2 zo (fun h=>h);have e3:=e'.upd a2 zo (fun h=>h);have a9:=b5.upd a2 zo (fun h=>h);have g1:=g8.upd a2;have b':∀m,m<i->Rt O1 w7 (nth ts m) (nth zs m):=fun m hm=>(c' m hm).upd a2
   have b2:=b8.trans (a2.mono (fun _ h=>h.elim) b3);have e4:=G1 (d5.cell 2 rfl) (aD b2 b6);refine zh ?_;refine ae e4 ?_;have a':∀u∈[((y1,y2,a6):X3)],∀c∈cd u,c.oneCell'=true:=fun u hu=>by
    rw[G5.1 hu];exact bL a8.one a7.one
   refine G4 24 zk rfl ?_;refine aA elR a9 g1 h7 (by simp) rfl rfl (fun _ _=>rfl) a' (by simp;omega) (by simp;omega) zo rfl ?_
   intro a5 w8 O8 a1 a4 g0;have e8:=a1.one;have d4:=ka d5 a4 zo zo;have c5:=ka e3 a4 zo zo;have e6:=ka e7 a4 zo zo;have b1:=b2.trans (a4.mono (fun _ h=>by rw[h];omega) b3);have d6:=G1 (d4.cell 2 rfl) (aD b1 b6);refine zh ?_;refine ae d6 ?_;refine zrf 25 rfl d6 rfl ?_;refine G4 26 zk rfl ?_;refine ak (j:=2) c5 rfl (Jo _) e8 rfl rfl rfl ?_;have e9:IA O8 (w8.setCell ⟨ob,2,none⟩ a5) (T+2) ob #[ig,kp,a5] 49:=c5.set 2 a5;have a0:I8 (fun q=>q=T+2) O8 w8 O8 (w8.setCell ⟨ob,2,none⟩ a5):=GV zo c5.tag rfl;have d3:=d4.upd a0 zo zo;have a3:=b1.trans (a0.mono (fun _ h=>by rw[h];omega) b3);have f9:=G1 (d3.cell 2 rfl) (aD a3 b6);refine zh ?_;refine ae f9 ?_;refine I1 zk ?_;refine zh ?_;refine zxd (i+1,O8,(w8.setCell ⟨ob,2,none⟩ a5),a5,zs++[((y1,y2,a6):X3)]) (⟨b4,d3,e6.upd a0 zo zo,e9,a1.upd a0 zo zo,by simp[d8],fun m hm=>?_,a3,g0.upd a0⟩);dsimp only at hm ⊢
   by_cases e:m<i
   ·rw[az (xs:=zs++[((y1,y2,a6):X3)]) (by simp;omega),G6 zo,<-az zo];exact((b' m e).upd a4).upd a0
   obtain rfl:m=zs.length:=zo;rw[az (xs:=zs++[((y1,y2,a6):X3)]) (by simp),G2 zo];simp only[Ig,GT];rw[d8];exact⟨(a8.upd a4).upd a0,(a7.upd a4).upd a0,h0.trans (h5 i b4).2.2⟩
  refine aI elR (enc:=cd) (y1,y2,a6) rfl rfl rfl zd rfl ?_;intro w7 h7 c7;have a8:=d0.upd (aa (S:=fun _=>False) (fun h=>h) O1 c7);have a7:=g5.upd (aa (S:=fun _=>False) (fun h=>h) O1 c7);have a2:I8 (fun _=>False) O1 w6 O1 w7:=aa (fun h=>h) O1 c7;have d5:=d9.upd a2 zo (fun h=>h);have e7:=g6.upd a2 zo (fun h=>h);have e3:=e'.upd a2 zo (fun h=>h);have a9:=b5.upd a2 zo (fun h=>h);have g1:=g8.upd a2;have b':∀m,m<i->Rt O1 w7 (nth ts m) (nth zs m):=fun m hm=>(c' m hm).upd a2
  have b2:=b8.trans (a2.mono (fun _ h=>h.elim) b3);have e4:=G1 (d5.cell 2 rfl) (aD b2 b6);refine zh ?_;refine ae e4 ?_;refine G4 1 zk rfl ?_;refine zvH (RV.ld (e3.cell 2 rfl) rfl) ?_;refine ae e4 ?_;have a':∀u∈[((y1,y2,a6):X3)],∀c∈cd u,c.oneCell'=true:=fun u hu=>by
   rw[G5.1 hu];exact bL a8.one a7.one
  refine G4 24 zk rfl ?_;refine aA elR a9 g1 h7 (by simp) rfl rfl (fun _ _=>rfl) a' (by simp;omega) (by simp;omega) zo rfl ?_
  intro a5 w8 O8 a1 a4 g0;have e8:=a1.one;have d4:=ka d5 a4 zo zo;have c5:=ka e3 a4 zo zo;have e6:=ka e7 a4 zo zo;have b1:=b2.trans (a4.mono (fun _ h=>by rw[h];omega) b3);have d6:=G1 (d4.cell 2 rfl) (aD b1 b6);refine zh ?_;refine ae d6 ?_;refine zrf 25 rfl d6 rfl ?_;refine G4 26 zk rfl ?_;refine ak (j:=2) c5 rfl (Jo _) e8 rfl rfl rfl ?_;have e9:IA O8 (w8.setCell ⟨ob,2,none⟩ a5) (T+2) ob #[ig,kp,a5] 49:=c5.set 2 a5;have a0:I8 (fun q=>q=T+2) O8 w8 O8 (w8.setCell ⟨ob,2,none⟩ a5):=GV zo c5.tag rfl;have d3:=d4.upd a0 zo zo;have a3:=b1.trans (a0.mono (fun _ h=>by rw[h];omega) b3);have f9:=G1 (d3.cell 2 rfl) (aD a3 b6);refine zh ?_;refine ae f9 ?_;refine I1 zk ?_;refine zh ?_;refine zxd (i+1,O8,(w8.setCell ⟨ob,2,none⟩ a5),a5,zs++[((y1,y2,a6):X3)]) (⟨b4,d3,e6.upd a0 zo zo,e9,a1.upd a0 zo zo,by simp[d8],fun m hm=>?_,a3,g0.upd a0⟩);dsimp only at hm ⊢
  by_cases e:m<i
  ·rw[az (xs:=zs++[((y1,y2,a6):X3)]) (by simp;omega),G6 zo,<-az zo];exact((b' m e).upd a4).upd a0
  obtain rfl:m=zs.length:=zo;rw[az (xs:=zs++[((y1,y2,a6):X3)]) (by simp),G2 zo];simp only[Ig,GT];rw[d8];exact⟨(a8.upd a4).upd a0,(a7.upd a4).upd a0,h0.trans (h5 i b4).2.2⟩
 intro j';obtain rfl:i=xs.length:=by have:=of_decide_eq_false j';omega
 have j8:=c9.one;refine zh ?_;refine zv (ah (us:=[ig,kp,lv]) f5.cellsAdd (IH _) (I4 _) rfl) ?_;refine zsb (us:=#[ig,kp,lv]) d2 (I4 _) (by simp only[I2,o1,o2,j8];rfl) ?_;have j1:=d2.setRow (us:=#[ig,kp,lv]);have a0:I8 (fun q=>q=T+1) O1 g4 O1 (g4.setRow xb #[ig,kp,lv]):=G9 zo d2.tag rfl;have e2:=c9.upd a0 zo zo;have a3:=d'.trans (a0.mono (fun _ h=>by rw[h];omega) b3);have k7:=aD a3 b6;refine zh ?_;refine aJ rfl rfl (j1.cellsAdd) (IH _) (I4 _) (⟨lv,rfl,⟨zs,e2.sl,e2.freeT zo (fun b=>by have:=hT b;omega) (g3.upd a0) a3,zo,fun m hm=>((h' m zo).upd a0).weak (fun b e=>a3.z0 b e)⟩,k7⟩)
theorem PostC.shape{B:Nat}{w:GW}{v:GU}{li lk:List Int}{ts:List R3}(h:Jr B w v li lk ts):∃cs:List GU,∃e:Int,v=.tuple #[.agg cs.toArray,nI e]/\cs.length=17/\(cs.all I9=true):=by
 rcases h with⟨_,rfl⟩|⟨_,⟨a,b,a1,a0,u,_,_,_,_,_,_,rfl,hT,_⟩|⟨_,rfl⟩⟩
 ·exact⟨_,1,rfl,rfl,rfl⟩
 ·obtain⟨gv,lc,rc,rfl,h1,h2,h3⟩:=hT;obtain⟨ll,lo⟩:=h2.one;obtain⟨rl,ro⟩:=h3.one;refine⟨_,0,rfl,by simp[ll,rl],?_⟩;rw[IQ];intro x hx;simp only[Ic,GS,Ij,or_false]at hx
  rcases hx with(hx|hx)|hx
  ·rcases hx with rfl|rfl|rfl|rfl|rfl
   ·rfl
   ·rfl
   ·rfl
   ·rfl
   exact h1.one
  ·exact lo x hx
  exact ro x hx
 exact⟨_,7,rfl,rfl,rfl⟩
theorem TabV.ext{w w':GW}{v:GU}{t:K4}(h:K2 w v t)(e:IY w w'):K2 w' v t:=by
 obtain⟨gv,lc,rc,rfl,h1,h2,h3⟩:=h;exact⟨gv,lc,rc,rfl,h1.ext e,h2.ext e,h3.ext e⟩
theorem TabN.mono{B B':Nat}{v:GU}(h:TabN B v)(hb:B'<=B):TabN B' v:=fun cs e x hx=>(h cs e x hx).mono hb
theorem PostC.ext{B B':Nat}{w w':GW}{v:GU}{li lk:List Int}{ts:List R3}(h:Jr B w v li lk ts)(e:IY w w')(hb:B'<=B):Jr B' w' v li lk ts:=by
 rcases h with h|⟨h0,⟨a,b,a1,a0,u,h1,h2,h3,h4,h5,h6,h7,hT,hN⟩|h⟩
 ·exact .inl h
 ·exact .inr ⟨h0,.inl ⟨a,b,a1,a0,u,h1,h2,h3,h4,h5,h6,h7,hT.ext e,hN.mono hb⟩⟩
 exact .inr ⟨h0,.inr h⟩
theorem PostC.upd{B:Nat}{S:Nat->Prop}{O O':Nat->Nat}{w0 w w':GW}{v:GU}{li lk:List Int}{ts:List R3}(h:Jr w0.heap.size w v li lk ts)(r:Jq B O w0)(u:I8 S O w O' w'):Jr w0.heap.size w' v li lk ts:=by
 rcases h with h|⟨h0,⟨a,b,a1,a0,x,h1,h2,h3,h4,h5,h6,h7,hT,hN⟩|h⟩
 ·exact .inl h
 ·refine .inr ⟨h0,.inl ⟨a,b,a1,a0,x,h1,h2,h3,h4,h5,h6,h7,?_,hN⟩⟩;obtain⟨gv,lc,rc,rfl,k1,k2,k3⟩:=hT;have hn:=hN _ rfl;have n1:NewV w0.heap.size gv:=hn gv (by simp);exact⟨gv,lc,rc,rfl,k1.upd (n1.free k1 (fun x _=>by simp) r) u,k2.upd (fun x hx=>hn x (by simp[hx])) r u,k3.upd (fun x hx=>hn x (by simp[hx])) r u⟩
 exact .inr ⟨h0,.inr h⟩
def Fx(B:Nat)(w:GW)(v:GU):TK->Prop
 |.bad p e=>v=.tuple #[.agg tab0,nI (p:Int),nI e]/\e≠0
 |.ok st=>∃(cs:List GU) (e:Int),v=.tuple #[.agg cs.toArray,nI 0,nI e]/\Jr B w (.tuple #[.agg cs.toArray,nI e]) st.li st.lk st.ts
theorem nH(l:List UInt8)(w:GW)(b9:l.length<=1000000000):JI IX 18 [.string (bs l)] w fun v w'=>IY w w'/\Fx w.heap.size w' v (jK l):=by
 refine I5 func18 ntmps18 rfl rfl ?_;refine zh ?_
 refine ar (aw w) 1 zo (Ih _) rfl ?_;intro cb w1 O1 a8 b8 b5 d0;refine zh ?_
 refine zc call44 (tp l w.heap.size O1 w1 b5 b9) ?_;rintro v w2 ⟨a7,hP⟩;have d2:=b5.ext a7;have hz:¬(0=1):=zo
 cases hM:jK l with
 |bad p e=>
  rw[hM]at hP;obtain⟨rfl,he⟩:=hP;refine zh ?_;refine ar (aw w2) 1 zo (Ib _) rfl ?_;intro tb w3 O3 a1 b4 c8 c';refine zsa (us:=#[qH,qH,qH]) a1 (I4 _) ?_;have a0:=(b4.trans (G9 (us:=#[qH,qH,qH]) zd a1.tag rfl)).ext;generalize w3.setRow tb #[qH,qH,qH]=w4 at *;have c5:=aa (S:=fun q=>q=1) hz O1 (a7.trans a0);have a4:=a8.upd (aa (S:=fun _=>False) (fun h=>h) O1 (a7.trans a0)) zd (fun h=>h);refine zh ?_;refine zTH rfl ((by simpa using he)) ?_;refine zvH (IB (cells:=tab0) zi (Ih _) rfl rfl) ?_;refine zsa (us:=tab0) a4 (I0 _) ?_;have b3:=a4.setRow (us:=tab0);have c7:I8 (fun j=>j=1) O1 w4 O1 (w4.setRow cb tab0):=G9 zd a4.tag rfl;refine zh ?_;refine cu rfl rfl rfl rfl (b3.cellsAdd) (Iw _) (I0 _) (⟨((b8.trans c5).trans c7).ext,rfl,he⟩)
 |ok st=>
  rw[hM]at hP;obtain⟨tv,rfl,hx⟩:=hP;obtain⟨ta,a5,tc,xs,rfl,x1,x2,x3,_⟩:=hx.ex;have o1:=x1.one;have o2:=x2.one;have o3:=x3.one;refine zh ?_;refine ar (aw w2) 1 zo (Ib _) rfl ?_;intro tb w3 O3 a1 b4 c8 c';refine zsb (us:=#[ta,a5,tc]) a1 (I4 _) (by simp[o1,o2,o3]) ?_;have b1:=a1.setRow (us:=#[ta,a5,tc]);have a0:=(b4.trans (G9 (us:=#[ta,a5,tc]) zd a1.tag rfl)).ext;generalize w3.setRow tb #[ta,a5,tc]=w4 at *;refine zh ?_;refine zFH rfl rfl ?_;refine zv (ah (us:=[ta,a5,tc]) b1.cellsAdd (IH _) (I4 _) rfl) ?_;refine zc call14 (mW st.li st.lk st.ts (vW ta a5 tc) w4 (hx.ext a0)) ?_;rintro v w5 ⟨c9,hC⟩;obtain⟨cs,e,rfl,a6,b6⟩:=hC.shape;refine zh ?_;refine ar (aw w5) 1 zo (Ih _) rfl ?_;intro xb w6 O6 a2 c6 d1 d3;refine aR (us:=cs.toArray) a2 (show cs.toArray.size=17 from by simpa using a6) (by rw[show cs.toArray.size=17 from by simpa using a6];exact I0 _) (by simpa using b6) rfl rfl rfl ?_;have b0:=a2.setRow (us:=cs.toArray);have a9:=(c6.trans (G9 (us:=cs.toArray) zd a2.tag rfl)).ext;generalize w6.setRow xb cs.toArray=w7 at *;have a':=((a7.trans a0).trans c9).trans a9;have b':=aa (S:=fun q=>q=1) hz O1 a';have a3:=a8.upd (aa (S:=fun _=>False) (fun h=>h) O1 a') zd (fun h=>h);refine zh ?_;refine zvH (ah (us:=cs) (by simpa using b0.cellsAdd) (Iw _) (by rw[a6];exact I0 _) rfl) ?_
  refine aR (us:=cs.toArray) a3 (show cs.toArray.size=17 from by simpa using a6) (by rw[show cs.toArray.size=17 from by simpa using a6];exact I0 _) (by simpa using b6) rfl rfl rfl ?_;have b2:=a3.setRow (us:=cs.toArray);have b7:I8 (fun j=>j=1) O1 w7 O1 (w7.setRow cb cs.toArray):=G9 zd a3.tag rfl;refine zh ?_
  refine cu rfl rfl rfl rfl (us:=cs) (by simpa using b2.cellsAdd) (Iw _) (by rw[a6];exact I0 _) ⟨((b8.trans b').trans b7).ext,cs,e,rfl,((hC.ext a9 (If _)).upd (b5.ext (a7.trans a0)) b7).ext (GR _) (((d0.trans a7).trans a0).size)⟩
theorem yK(li lk:List Int)(ts:List R3)(v:GU)(w:GW)(h:Tx w v li lk ts):JI IX 13 [v] w fun u w'=>∃g,u=.bool g/\IY w w'/\(g=true->Few li lk ts/\ts.length<=8):=by
 obtain⟨ig,kp,ru,xs,rfl,h1,h2,h3,h4,h5⟩:=h;have o1:=h1.one;have o2:=h2.one;have o3:=h3.one;refine I5 func13 ntmps13 rfl rfl ?_;refine zh ?_;refine aF (aw w) 1 zo rfl rfl ?_;intro xb w1 O1 a' b8 b9 a2;have b5:Tx w1 (vW ig kp ru) li lk ts:=⟨⟨ig,kp,ru,xs,rfl,h1.ext a2,h2.ext a2,h3.ext a2,h4,fun i hi=>(h5 i hi).ext a2⟩⟩
 have c2:w1.cell? (nA xb 2)=some ru:=a'.cell 2 rfl;refine zh ?_;refine zv (ah (us:=[ig,kp,ru]) a'.cellsAdd (isAgg45 _) (sizeOf45 _) rfl) ?_;refine zc call31 (Af li lk ts (vW ig kp ru) w1 b5) ?_;rintro _ w2 ⟨g,rfl,a6,hg⟩;have g3:=h3.ext (a2.trans a6);refine zh ?_;refine bY (fun w1=>_=w1) (decide ((8:Int)<(xs.length:Int))) 4 (rfl) rfl rfl rfl rfl rfl ?_ ?_
 ·intro a1;refine zh ?_;refine zvH (RV.ld (a6.cell c2) rfl) ?_;refine nE 7 5 (rfl) a1
 rintro _ rfl;refine zh ?_;refine zC ?_ ?_
 ·intro hc;refine zh ?_;refine af rfl rfl (⟨false,rfl,a2.trans a6,fun e=>by cases e⟩)
 intro hc;simp only[J4,decide_eq_false_iff_not]at hc;obtain⟨b4,b7⟩:=hc;have a9:=hg b4;have h8:ts.length<=8:=zo;have a7:=a2.trans a6;refine zh ?_;refine zlp (fun y:Nat×Nat×GW=>[(1,nP xb),(3,nI (y.2.1:Nat)),(4,nI y.1)]) (fun y=>y.2.2) (fun y=>y.1<=xs.length/\y.2.1<=302*y.1/\IY w2 y.2.2) (fun y=>xs.length-y.1) (0,0,w2) (⟨Iy _,by dsimp only;omega,GR _⟩) ?_;rintro⟨i,s,w3⟩ ⟨hi,a5,a4⟩;dsimp only at hi a5 a4 ⊢;have d2:=(a6.trans a4).cell c2;have a8:=g3.ext a4;refine zh ?_;refine bx (fun w1=>_=w1) (decide ((s:Int)<=60)) 2 (rfl) rfl rfl rfl rfl rfl ?_ ?_
 ·intro b1;refine zh ?_;refine nE 18 3 (rfl) b1
 rintro _ rfl;refine zh ?_;refine zC ?_ ?_
 ·intro hc;simp only[Bool.and_eq_true,decide_eq_true_eq]at hc;have a3:i<xs.length:=zo;have b0:=(h5 i a3).ext (a7.trans a4);have b3:∀W,IY w3 W->∀(j:Nat) (u:GU),(aX (nth xs i).1)[j]? = some u->W.cell? (((adr ru 7 i).add 0).add j)=some u:=fun W hE=>(rj (a8.ext hE) a3).1
  have b2:∀W,IY w3 W->∀(j:Nat) (u:GU),(aX (nth xs i).2.1)[j]? = some u->W.cell? (((adr ru 7 i).add 3).add j)=some u:=fun W hE=>(rj (a8.ext hE) a3).2.1
  refine zh ?_;refine vN (IY w3) zk zk ((GR w3).drew) ?_
  refine iX (fun w1 a0=>ix rfl) rfl ?_;refine iX (fun w1 a0=>IM 2 JQ rfl rfl (sizeOf42 _) zd rfl) rfl ?_
  refine iX (fun w1 a0=>K5 (by first|exact a0.cell d2) (isAgg42 _) rfl) rfl ?_;refine iX (fun w1 a0=>ix rfl) rfl ?_
  refine iX (fun w1 a0=>Ia (a8.ext a0) Iv (J2 _) rfl rfl i rfl a3) rfl ?_;refine iX (fun w1 a0=>IM 0 JP rfl rfl (It _) zd rfl) rfl ?_
  refine iX (fun w1 a0=>ah (us:=aX (nth xs i).1) (b3 _ a0) (Jc _) (It _) rfl) rfl ?_;refine K0 call32 rfl (fun w1 a0=>(gA (nsz (nth ts i).1) (nth ts i).1 (If _) (nth xs i).1 _ 60 (b0.1.ext a0) zd).mono fun v w' h=>⟨h.1,a0.trans h.2⟩) rfl ?_
  refine iX (fun w1 a0=>IT rfl rfl (Io zo)) rfl ?_;refine iX (fun w1 a0=>IM 2 JQ rfl rfl (sizeOf42 _) zd rfl) rfl ?_
  refine iX (fun w1 a0=>K5 (by first|exact a0.cell d2) (isAgg42 _) rfl) rfl ?_;refine iX (fun w1 a0=>ix rfl) rfl ?_
  refine iX (fun w1 a0=>Ia (a8.ext a0) Iv (J2 _) rfl rfl i rfl a3) rfl ?_;refine iX (fun w1 a0=>IM 3 JP rfl rfl (It _) zd rfl) rfl ?_
  refine iX (fun w1 a0=>ah (us:=aX (nth xs i).2.1) (b2 _ a0) (Jc _) (It _) rfl) rfl ?_;refine K0 call32 rfl (fun w1 a0=>(gA (nsz (nth ts i).2.1) (nth ts i).2.1 (If _) (nth xs i).2.1 _ 60 (b0.2.1.ext a0) zd).mono fun v w' h=>⟨h.1,a0.trans h.2⟩) rfl ?_
  refine iX (fun w1 a0=>IT rfl rfl (Io zo)) rfl ?_;refine iX (fun w1 a0=>GX rfl) rfl ?_
  refine WQ.nil ?_;intro w4 b6;refine zh ?_
  rw[show(s:Int)+((min (nsz (nth ts i).1) (60+1):Nat):Int)+((min (nsz (nth ts i).2.1) (60+1):Nat):Int)=((s+(min (nsz (nth ts i).1) 61+min (nsz (nth ts i).2.1) 61):Nat):Int)from by omega];refine zxd (i+1,s+(min (nsz (nth ts i).1) 61+min (nsz (nth ts i).2.1) 61),w4) (⟨a3,by dsimp only;omega,a4.trans b6⟩)
 intro hc;refine zh ?_;refine af rfl rfl (⟨_,rfl,a7.trans a4,fun _=>⟨a9,h8⟩⟩)
def BN(x:Int):List Int->List Int
 |[]=>[x]
 |y::r=>if x<y then x::y::r else if x=y then y::r else y::BN x r
def sG(l:List Int):List Int:=l.foldr BN []
theorem qg(x z:Int):∀l:List Int,z∈BN x l↔z=x\/z∈l
 |[]=>by simp[BN]
 |y::r=>by
  unfold BN
  split
  ·simp
  split
  ·rename_i h;subst h;simp
  rw[GS,qg x z r,GS]
  constructor
  ·rintro(h|h|h)
   ·exact .inr (.inl h)
   ·exact .inl h
   exact .inr (.inr h)
  rintro(h|h|h)
  ·exact .inr (.inl h)
  ·exact .inl h
  exact .inr (.inr h)
theorem zY(x:Int):∀l:List Int,l.Pairwise (· < ·)->(BN x l).Pairwise (· < ·)
 |[],_=>by simp[BN]
 |y::r,h=>by
  obtain⟨h1,h2⟩:=Ie.1 h;unfold BN
  split
  ·rename_i hxy;refine Ie.2 ⟨fun z hz=>?_,h⟩
   rcases GS.1 hz with rfl|hz
   ·exact hxy
   have:=h1 z hz;omega
  split
  ·exact h
  refine Ie.2 ⟨fun z hz=>?_,zY x r h2⟩
  rcases(qg x z r).1 hz with rfl|hz
  ·omega
  exact h1 z hz
theorem nc(l:List Int):(∀x,x∈sG l↔x∈l)/\(sG l).Pairwise (· < ·):=by
 induction l with
 |nil=>exact⟨fun x=>Iff.rfl,.nil⟩
 |cons a l ih=>
  refine⟨fun x=>?_,zY a _ ih.2⟩;show x∈BN a (sG l)↔_;rw[qg,ih.1,GS]
theorem Cn:∀(a b:List Int),a.Pairwise (· < ·)->b.Pairwise (· < ·)->(∀x,x∈a↔x∈b)->a=b
 |[],[],_,_,_=>rfl
 |[],y::r,_,_,h=>absurd ((h y).2 (by simp)) (by simp)
 |x::a,[],_,_,h=>absurd ((h x).1 (by simp)) (by simp)
 |x::a,y::b,ha,hb,h=>by
  obtain⟨a1,a2⟩:=Ie.1 ha;obtain⟨b1,b2⟩:=Ie.1 hb;have a4:x=y:=by
   rcases GS.1 ((h x).1 (by simp))with e|e
   ·exact e
   rcases GS.1 ((h y).2 (by simp))with e'|e'
   ·exact e'.symm
   have:=a1 y e';have:=b1 x e;omega
  subst a4;congr 1;refine Cn a b a2 b2 fun z=>?_
  have hz:=h z;simp only[GS]at hz
  constructor
  ·intro a3
   rcases hz.1 (.inr a3)with e|e
   ·subst e;exact absurd (a1 z a3) zo
   exact e
  intro a0
  rcases hz.2 (.inr a0)with e|e
  ·subst e;exact absurd (b1 z a0) zo
  exact e
theorem B2(l:List Int):oZ l=sG l:=Cn _ _ (vE l) (nc l).2 fun x=>by rw[sE,(nc l).1]
def D5(se:Bool)(g:Gr)(s:List Int)(m:Int):List Int:=sG (D8 se g s m)
theorem step_eq(se:Bool)(g:Gr):cP se g=D5 se g:=funext fun _=>funext fun _=>B2 _
def stK(se:Bool)(ts:List Nd):Option (List (List Nat)×List Nat):=if dr ts=0 then Cq (D5 se (qI ts)) (dG (qI ts))else none
theorem stM_eq(se:Bool)(ts:List Nd):stM se ts=stK se ts:=by unfold stM stK;rw[step_eq]
abbrev pc:List R3:=[(.mk 0 1 [],.mk 0 2 [],false)]
theorem sM:∃st,jK Ct=.ok st/\st.ts=pc/\st.li=[]/\st.lk=[]:=⟨⟨pc,[],[],false,false⟩,by kernel_rfl,rfl,rfl,rfl⟩
theorem ui:ez [] [] pc=true:=by decide +kernel
theorem AF:(stM true (rU pc)).isSome=true:=by rw[stM_eq];decide +kernel
theorem AE:(stM false (lu pc)).isSome=true:=by rw[stM_eq];decide +kernel
theorem PostC.made{B:Nat}{w:GW}{v:GU}{li lk:List Int}{ts:List R3}(h:Jr B w v li lk ts):
  (∃e:Int,e≠0/\v=.tuple #[.agg tab0,nI e]/\((e=1/\ez li lk ts=false)\/(e=7/\ez li lk ts=true/\(stM true (rU ts)=none\/stM false (lu ts)=none))))\/
  ∃a b a1 a0 gv lc rc,Made li lk ts a b a1 a0/\v=.tuple #[.agg (bS (lK li lk ts a b a1 a0).ig (lK li lk ts a b a1 a0).kp (lK li lk ts a b a1 a0).br (lK li lk ts a b a1 a0).rules gv lc rc).toArray,nI 0]/\
   Ints w gv (lK li lk ts a b a1 a0).groups/\JY w lc (lK li lk ts a b a1 a0).left (lK li lk ts a b a1 a0).lt/\JY w rc (lK li lk ts a b a1 a0).right (lK li lk ts a b a1 a0).rt/\DM B (gv::(lc++rc)):=by
 rcases h with⟨h0,rfl⟩|⟨h0,⟨a,b,a1,a0,u,h1,h2,h3,h4,h5,h6,rfl,hT,hN⟩|⟨h1,rfl⟩⟩
 ·exact .inl ⟨1,zd,rfl,.inl ⟨rfl,h0⟩⟩
 ·obtain⟨gv,lc,rc,rfl,k1,k2,k3⟩:=hT;have hn:=hN _ rfl;exact .inr ⟨a,b,a1,a0,gv,lc,rc,⟨h0,h1,h2,h3,h4,h5,h6⟩,rfl,k1,k2,k3,fun x hx=>hn x (by simp only[Ic,GS,Ij,or_false]at hx ⊢;rcases hx with hx|hx|hx<;>simp[hx])⟩
 exact .inl ⟨7,zd,rfl,.inr ⟨rfl,h0,h1⟩⟩
theorem ud{t:K4}(h:bq t=true):(mT t).length<=100000000/\13<=(mT t).length:=by
 have hB:=gE h;obtain⟨h1,h2⟩:=jf h;obtain⟨s1,s2,s3⟩:=oy h;have a0:=hB.r;have n1:=cJ (n:=t.rules.toNat) zo;have n2:=cJ s1;have n3:=cJ s2;have n4:=cJ s3;have n5:=gL (Ck (xs:=t.groups) (by have:=hB.g.1;omega) fun n hn=>by have:=hB.g.2 n hn;omega);have n6:=pM hB.l h1;have n7:=pM hB.rt h2;have n8:0<(dK t.rules.toNat).length:=J6.2 (C7 _);have e:(vI t).length=4+(DJ (yZ t)).length:=by unfold vI;rw[Im];rfl
 rw[lZ,e];simp only[DJ,yZ,Im];omega
theorem ng(w:GW):JI IX 6 [] w fun v w'=>v=.bool true/\IY w w':=by
 obtain⟨st,c7,c6,c9,c8⟩:=sM;refine I5 func6 ntmps6 rfl rfl ?_;refine zg ?_;refine zc call18 (nH Ct w zd) ?_;rintro v w1 ⟨d7,hP⟩;rw[c7]at hP;obtain⟨cs,e,rfl,hC⟩:=hP;rw[c6,c9,c8]at hC
 rcases hC.made with⟨e',e0,hv,b3⟩|⟨a,b,d9,d8,gv,lc,rc,hM,hv,k1,k2,k3,hn⟩
 ·exfalso
  rcases b3 with⟨_,h1⟩|⟨_,_,h1|h1⟩
  ·rw[ui]at h1;cases h1
  ·have:=AF;rw[h1]at this;cases this
  have:=AE;rw[h1]at this;cases this
 have hi:=hM.inv;generalize lK [] [] pc a b d9 d8=t at *;have c':cs=bS t.ig t.kp t.br t.rules gv lc rc/\e=0:=by
  simp only[Iu,IR,IG,IF,IE,and_true,true_and]at hv;simpa using hv
 obtain⟨rfl,rfl⟩:=c';have b0:bq t=true:=hi.right;obtain⟨a6,b1⟩:(bS t.ig t.kp t.br t.rules gv lc rc).length=17/\(bS t.ig t.kp t.br t.rules gv lc rc).all I9=true:=by
  obtain⟨e5,e',h1,h2,h3⟩:=hC.shape;simp only[Iu,IR,IG,IF,IE,and_true,true_and]at h1;rw[h1.1];exact⟨h2,h3⟩
 have a1:=a6;obtain⟨c5,d'⟩:=ud b0;refine zg ?_;refine ar (aw w1) 7 zo (Ih _) rfl ?_;intro tb w2 O2 a3 d4 e2 e4;refine aR (us:=(bS t.ig t.kp t.br t.rules gv lc rc).toArray) a3 (show(bS t.ig t.kp t.br t.rules gv lc rc).toArray.size=17 from by simpa using a1) (by rw[show(bS t.ig t.kp t.br t.rules gv lc rc).toArray.size=17 from by simpa using a1];exact I0 _) b1 rfl rfl rfl ?_;have a':=a3.setRow (us:=(bS t.ig t.kp t.br t.rules gv lc rc).toArray);have d3:=d4.trans (G9 (us:=(bS t.ig t.kp t.br t.rules gv lc rc).toArray) zd a3.tag rfl);generalize w2.setRow tb (bS t.ig t.kp t.br t.rules gv lc rc).toArray=w3 at *;have a8:=d3.ext;have b6:∀W,IY w3 W->∀(j:Nat) (u:GU),(bS t.ig t.kp t.br t.rules gv lc rc)[j]? = some u->W.cell? (nA tb j)=some u:=fun W e j u hu=>e.cell (by simpa using a'.cellsAdd j u (by simpa using hu))
 have b8:∀W,IY w3 W->K2 W (.agg (bS t.ig t.kp t.br t.rules gv lc rc).toArray) t:=fun W e=>⟨gv,lc,rc,rfl,k1.ext (a8.trans e),k2.ext (a8.trans e),k3.ext (a8.trans e)⟩
 refine zg ?_;refine zv (ah (us:=bS t.ig t.kp t.br t.rules gv lc rc) (b6 w3 (GR _)) (Iw _) (by rw[a1];exact I0 _) rfl) ?_
 refine zc call8 (oW t _ w3 (b8 w3 (GR _))) ?_;rintro _ w4 ⟨d6,⟨h0,_⟩|⟨_,bv,rfl,b7,_⟩⟩
 ·rw[b0]at h0;cases h0
 refine zg ?_;refine zc call7 (kT (mT t) bv w4 b7 c5) ?_
 rintro u5 w5 ⟨b9,hD⟩;rw[AA b0]at hD;obtain⟨tv,rfl,g2,l2,r2,rfl,m1,m2,m3⟩:=hD;have a0:(bS t.ig t.kp t.br t.rules g2 l2 r2).length=17:=by simp[m2.one.1,m3.one.1]
 have a5:(bS t.ig t.kp t.br t.rules g2 l2 r2).all I9=true:=by
  refine IQ.2 fun x hx=>?_
  rcases Ic.1 hx with hx|hx
  ·rcases Ic.1 hx with hx|hx
   ·simp only[GS,Ij,or_false]at hx
    rcases hx with rfl|rfl|rfl|rfl|rfl<;>first|rfl|exact m1.one
   exact m2.one.2 x hx
  exact m3.one.2 x hx
 have b4:=d6.trans b9;refine zg ?_;refine ar (aw w5) 8 zo (Ih _) rfl ?_;intro ub w6 O6 a2 d2 e1 e3;refine aR (us:=(bS t.ig t.kp t.br t.rules g2 l2 r2).toArray) a2 (show(bS t.ig t.kp t.br t.rules g2 l2 r2).toArray.size=17 from by simpa using a0) (by rw[show(bS t.ig t.kp t.br t.rules g2 l2 r2).toArray.size=17 from by simpa using a0];exact I0 _) a5 rfl rfl rfl ?_;have a9:=a2.setRow (us:=(bS t.ig t.kp t.br t.rules g2 l2 r2).toArray);have d1:=d2.trans (G9 (us:=(bS t.ig t.kp t.br t.rules g2 l2 r2).toArray) zd a2.tag rfl);generalize w6.setRow ub (bS t.ig t.kp t.br t.rules g2 l2 r2).toArray=w7 at *;have a7:=d1.ext;have a4:=b4.trans a7;have b2:∀(j:Nat) (u:GU),(bS t.ig t.kp t.br t.rules g2 l2 r2)[j]? = some u->w7.cell? (nA ub j)=some u:=fun j u hu=>by simpa using a9.cellsAdd j u (by simpa using hu)
 have d0:=b7.ext (b9.trans a7);refine zg ?_;refine zc call11 (yC [] (nS) w7 (Ip mU 0 1 (fun _=>0) w7 0).sl) ?_;rintro _ w8 ⟨rfl,b5⟩;rw[b5];clear b5;rw[show sU []=14695981039346656037 from rfl];refine zg ?_;refine au (d:=25) rfl (b':=true) (rfl) ?_;refine zg ?_;refine au (d:=29) rfl (b':=true) (rfl) ?_;refine zg ?_;refine au (d:=33) rfl (b':=true) (rfl) ?_;refine zg ?_;refine zvG (Ji (by first|exact d0) I3 rfl) ?_;refine au (d:=38) rfl (b':=true) ((decide_eq_true zo)) ?_;refine zg ?_;refine zvG (ah (us:=bS t.ig t.kp t.br t.rules gv lc rc) (b6 w7 a4) (Iw _) (by rw[a1];exact I0 _) rfl) ?_;refine zvG (ah (us:=bS t.ig t.kp t.br t.rules g2 l2 r2) b2 (Iw _) (by rw[a0];exact I0 _) rfl) ?_;refine zc call16 (mr t _ _ w7 (b8 w7 a4) ⟨g2,l2,r2,rfl,m1.ext a7,m2.ext a7,m3.ext a7⟩) ?_;rintro _ w9 ⟨rfl,d5⟩;refine zg ?_;refine af rfl rfl (⟨rfl,((d7.trans a8).trans a4).trans d5⟩)
theorem RulesO.tx{w:GW}{ig kp rv:GU}{li lk:List Int}{ts:List R3}(h1:Sl encI 1 w ig li)(h2:Sl encI 1 w kp lk)(h:RulesO (fun _=>0) w rv ts):Tx w (vW ig kp rv) li lk ts:=by
 obtain⟨zs,h3,_,h4,h5⟩:=h;exact⟨ig,kp,rv,zs,rfl,h1,h2,h3,h4,h5⟩
theorem Bc{w:GW}{t:K4}{gv:GU}{lc rc:List GU}(h1:Ints w gv t.groups)(h2:JY w lc t.left t.lt)(h3:JY w rc t.right t.rt):
  (bS t.ig t.kp t.br t.rules gv lc rc).length=17/\(bS t.ig t.kp t.br t.rules gv lc rc).all I9=true:=by
 refine⟨by simp[h2.one.1,h3.one.1],IQ.2 fun x hx=>?_⟩
 rcases Ic.1 hx with hx|hx
 ·rcases Ic.1 hx with hx|hx
  ·simp only[GS,Ij,or_false]at hx
   rcases hx with rfl|rfl|rfl|rfl|rfl<;>first|rfl|exact h1.one
  exact h2.one.2 x hx
 exact h3.one.2 x hx
theorem BX{l:List UInt8}{e:Int}(h:oe l=.error e):(e=10/\12<=l.length/\l.take 4=hdrW/\cM (l.take (l.length-8))≠l)\/(e=4/\¬(12<=l.length/\l.take 4=hdrW/\cM (l.take (l.length-8))≠l)):=by
 unfold oe at h
 split at h
 ·rename_i hc
  cases h
  exact .inr ⟨rfl,fun k=>hc.elim (fun h=>zo) (fun h=>h k.2.1)⟩
 rename_i hc;have a1:12<=l.length:=Nat.le_of_not_lt fun h=>hc (.inl h)
 have a0:l.take 4=hdrW:=JU fun h=>hc (.inr h)
 split at h
 ·rename_i hs
  cases h
  exact .inl ⟨rfl,a1,a0,hs⟩
 rename_i hs;refine .inr ⟨?_,fun k=>hs k.2.2⟩
 split at h
 ·split at h
  ·cases h;rfl
  cases h
 cases h;rfl
theorem yj(a:Int):K7.wrap a=(((a % (2^64)).toNat:Nat):Int):=by
 simp[K6,K9,K8];omega
theorem GI{a b:UInt8}:a.toNat ^^^ b.toNat=(a ^^^ b).toNat:=(Je a b).symm
theorem BY{l:List UInt8}{t:K4}(h:oe l=.ok t):12<=l.length/\cM (l.take (l.length-8))=l:=⟨by
 have h0:=Au h;have:=(ud h0.2).2
 rw[<-h0.1]at this;omega,xH h⟩
theorem DecP.shape{w:GW}{u:GU}{x:Except Int K4}(h:DecP w u x):∃(cs:List GU) (e:Int),u=.tuple #[.agg cs.toArray,nI e]/\cs.length=17/\cs.all I9=true/\(∀e',x=.error e'->e=e')/\(∀t,x=.ok t->e=0/\K2 w (.agg cs.toArray) t):=by
 cases x with
 |error e=>exact⟨tab0.toList,e,h,rfl,rfl,fun e' he=>by cases he;rfl,fun t ht=>by cases ht⟩
 |ok t=>
  obtain⟨tv,rfl,gv,lc,rc,rfl,h1,h2,h3⟩:=h;obtain⟨k1,k2⟩:=Bc h1 h2 h3;exact⟨_,0,rfl,k1,k2,fun e' he=>(by cases he),fun t' ht=>(by cases ht;exact⟨rfl,gv,lc,rc,rfl,h1,h2,h3⟩)⟩
theorem nF(li lk:List Int)(ts:List R3)(at':Int)(by':UInt8)(v:GU)(w:GW)(h:Tx w v li lk ts)(_ : -9223372036854775808 ≤ at' ∧ at' ≤ 9223372036854775807):
  JI IX 4 [v, nI at', .int .u8 (by'.toNat:Int)] w fun u w' => u = .bool true ∧ IY w w' := by
 obtain⟨ig, kp, ru, xs, rfl, h1, h2, h3, h4, h5⟩ := h
 refine I5 func4 ntmps4 rfl rfl ?_
 refine G8 ?_
 refine G7 ?_
 refine aF (aw w) 1 (by omega) rfl rfl ?_
 intro xb w1 O1 hx1 hU1 hR1 hE1
 have hTx:∀W, IY w W → Tx W (vW ig kp ru) li lk ts := fun W e => ⟨⟨ig, kp, ru, xs, rfl, h1.ext e, h2.ext e, h3.ext e, h4, fun i hi => (h5 i hi).ext e⟩⟩
 have ac:∀W, IY w1 W → ∀(j:Nat) (u:GU), [ig, kp, ru][j]? = some u → W.cell? (nA xb j) = some u := fun W e j u hu => e.cell (hx1.cellsAdd j u hu)
 refine zv (GX rfl) ?_
 refine G0 ?_
 refine ai ?_
 refine G8 ?_
 refine G8 ?_
 refine G7 ?_
 refine zv (ah (us := [ig, kp, ru]) (ac w1 (GR _)) (isAgg44 _) (sizeOf44 _) rfl) ?_
 refine zc call13 (yK li lk ts (vW ig kp ru) w1 (hTx w1 hE1)) ?_
 rintro _ w2 ⟨g, rfl, hE2, hg⟩
 have hE12 := hE1.trans hE2
 refine zv (JL rfl) ?_
 refine zv (ix rfl) ?_
 refine bY (IY w2) (!true) 2 (GR w2) rfl rfl rfl rfl rfl ?_ ?_
 ·skip
  intro a2
  refine bM rfl ?_
  refine zc call6 (ng w2) ?_
  rintro _ w3 ⟨rfl, hE3⟩
  refine bM rfl ?_
  refine zv (JL rfl) ?_
  refine G0 ?_
  refine cH (tA := 20) 3 (hE3) rfl rfl rfl (fun v hv => (JJ hv).symm.trans (congrArg Value.bool a2)) rfl
 intro w3 hE3
 have hE03 := hE12.trans hE3
 refine G0 ?_
 refine ai ?_
 refine zC ?_ ?_
 ·intro hc
  refine G8 ?_
  refine G7 ?_
  refine zc call6 (ng w3) ?_
  rintro _ w4 ⟨rfl, hE4⟩
  refine zv (GX rfl) ?_
  refine G0 ?_
  refine ai ?_
  refine IJ ?_
  refine bJ ?_
  refine af rfl rfl (⟨rfl, hE03.trans hE4⟩)
 ·intro hc
  simp only[J4, Bool.not_eq_false']at hc
  obtain⟨hg1, _⟩ := hc
  obtain⟨hfew, h8⟩ := hg hg1
  refine Ir ?_
  refine ai ?_
  refine G8 ?_
  refine G7 ?_
  refine zv (ah (us := [ig, kp, ru]) (ac w3 (hE2.trans hE3)) (isAgg44 _) (sizeOf44 _) rfl) ?_
  refine zc call15 (CE li lk ts xs ig kp ru w3.heap.size (fun _ => 0) w3 (aw w3) (h1.ext hE03) (h2.ext hE03) (h3.ext hE03) h4 (fun i hi => (h5 i hi).ext hE03) hfew) ?_
  rintro _ w4 ⟨rv, rfl, hrv, hE4⟩
  have hE04 := hE03.trans hE4
  refine zc call14 (mW li lk ts (vW ig kp rv) w4 (RulesO.tx (h1.ext hE04) (h2.ext hE04) hrv)) ?_
  rintro cv w5 ⟨hE5, hC⟩
  have hE05 := hE04.trans hE5
  obtain⟨cs, e, rfl, hcl, hc1⟩ := hC.shape
  refine zv (ix rfl) ?_
  refine zv (GY rfl rfl) ?_
  refine zv (GY rfl rfl) ?_
  refine ar (aw w5) 1 (by omega) (Ih _) rfl ?_
  intro tb w6 O6 htb6 hU6 hR6 hE6
  refine aR (us := cs.toArray) htb6 (show cs.toArray.size = 17 from by simpa using hcl) (by rw[show cs.toArray.size = 17 from by simpa using hcl]; exact I0 _) (by simpa using hc1) rfl rfl rfl ?_
  have htb7 := htb6.setRow (us := cs.toArray)
  have hE57 := (hU6.trans (G9 (us := cs.toArray) (by decide) htb6.tag rfl)).ext
  generalize w6.setRow tb cs.toArray = w7 at *
  have hE07 := hE05.trans hE57
  have tc:∀W, IY w7 W → ∀(j:Nat) (u:GU), cs[j]? = some u → W.cell? (nA tb j) = some u := fun W e j u hu => e.cell (by
   have := htb7.cellsAdd j u
   simpa using this (by simpa using hu))
  rcases hC.made with⟨e', he', hv, hbad⟩ | ⟨a, b, clA, clB, gv, lc, rc, hM, hv, k1, k2, k3, hn⟩
  ·have hee:e = e' := by simp at hv; exact hv.2
   subst hee
   refine zv (GX rfl) ?_
   refine G0 ?_
   refine ai ?_
   refine G8 ?_
   refine G8 ?_
   refine G7 ?_
   refine zv (ix rfl) ?_
   refine zv (IK rfl rfl) ?_
   refine G0 ?_
   refine ai ?_
   refine aO rfl ((by simpa using he')) ?_
   refine G8 ?_
   refine G7 ?_
   refine zv (GX rfl) ?_
   refine G0 ?_
   refine ai ?_
   refine IJ ?_
   refine bJ ?_
   refine af rfl rfl (⟨rfl, hE07⟩)
  have hi := hM.inv
  generalize lK li lk ts a b clA clB = t at *
  have hcs:cs = bS t.ig t.kp t.br t.rules gv lc rc ∧ e = 0 := by
   simp only[Iu, IR, IG, IF, IE, and_true, true_and, ]at hv
   simpa using hv
  obtain⟨rfl, rfl⟩ := hcs
  have hrt:bq t = true := hi.right
  obtain⟨le1, le2⟩ := ud hrt
  have hTV:∀W, IY w7 W → K2 W (.agg (bS t.ig t.kp t.br t.rules gv lc rc).toArray) t := fun W e => ⟨gv, lc, rc, rfl, k1.ext (hE57.trans e), k2.ext (hE57.trans e), k3.ext (hE57.trans e)⟩
  refine zv (GX rfl) ?_
  refine G0 ?_
  refine ai ?_
  refine G8 ?_
  refine G8 ?_
  refine G7 ?_
  refine zv (ix rfl) ?_
  refine zv (IK rfl rfl) ?_
  refine G0 ?_
  refine ai ?_
  refine aN rfl rfl ?_
  refine Ir ?_
  refine ai ?_
  refine G8 ?_
  refine G7 ?_
  refine zv (ah (us := bS t.ig t.kp t.br t.rules gv lc rc) (tc w7 (GR _)) (Iw _) (by rw[hcl]; exact I0 _) rfl) ?_
  refine zc call8 (oW t _ w7 (hTV w7 (GR _))) ?_
  rintro _ w8 ⟨hE8, ⟨h0, _⟩ | ⟨_, bv, rfl, hbv, _⟩⟩
  ·rw[hrt]at h0; cases h0
  obtain⟨b, hb⟩:∃b, b = mT t := ⟨_, rfl⟩
  rw[← hb]at hbv le1 le2
  have hE08 := hE07.trans hE8
  refine zv (ix rfl) ?_
  refine zv (GY rfl rfl) ?_
  refine zv (GY rfl rfl) ?_
  refine zv (GX rfl) ?_
  refine zv (GX rfl) ?_
  refine G0 ?_
  refine ai ?_
  refine G8 ?_
  refine G8 ?_
  refine G7 ?_
  refine zv (ix rfl) ?_
  refine zv (IK rfl rfl) ?_
  refine zv (ix rfl) ?_
  refine au (d := 40) rfl (b' := false) (rfl) ?_
  refine bM rfl ?_
  refine zv (ix rfl) ?_
  refine bM rfl ?_
  refine zv (Ji (by first | exact hbv) I3 rfl) ?_
  refine bM rfl ?_
  refine zv (RV.lss rfl rfl) ?_
  refine zv (bh rfl rfl) ?_
  refine G0 ?_
  refine ai ?_
  refine aN rfl ((decide_eq_false (by omega))) ?_
  obtain⟨k, hk⟩:∃k:Nat, k = (at' % (2^64)).toNat % b.length := ⟨_, rfl⟩
  have hkl:k < b.length := by rw[hk]; exact Nat.mod_lt _ (by omega)
  have ha0:0 ≤ at' % (2^64) := Int.emod_nonneg _ (by decide)
  have ha1:at' % (2^64) < 2^64 := Int.emod_lt_of_pos _ (by decide)
  refine Ir ?_
  refine ai ?_
  refine G8 ?_
  refine G7 ?_
  refine zv (ix rfl) ?_
  refine zv (dP (v' := .int .u64 (((at' % (2^64)).toNat:Nat):Int)) (iM Jn Ja rfl) (by rw[yj])) ?_
  refine zv (ix rfl) ?_
  refine zv (Ji (by first | exact hbv) I3 rfl) ?_
  refine zv (dm Jn Ja rfl (Fit.u64 (by omega))) ?_
  refine zv (dP (v' := .int .u64 ((k:Nat):Int)) (RV.rem rfl rfl (by omega)) (by rw[hk]; rfl)) ?_
  refine zv (dm Ja Jn rfl (Io (by omega))) ?_
  refine zv (GX rfl) ?_
  refine G0 ?_
  refine ai ?_
  refine G8 ?_
  refine G7 ?_
  refine fj elW mU (aw w8) 1 (by decide) rfl ?_
  intro v9 w9 O9 hrow9 hU9 hR9
  have hb9 := hbv.ext hU9.ext
  refine zv (ix rfl) ?_
  refine cf elW hrow9 hR9 hb9 rfl rfl (fun _ _ => rfl) (fun u _ c hc => by rw[G5.1 hc]; rfl) (by simp; omega) (by simp; omega) (by decide) rfl ?_
  intro cv w10 O10 hrow10 hU10 hR10
  rw[List.nil_append]at hrow10
  have hU810 := hU9.trans hU10
  have m1:w10.cell? (adr cv 1 k) = some (.int .u8 ((nth b k).toNat:Int)) := hrow10.sl.ld hkl
  have hcx:Value.int .u8 (((nth b k).toNat ^^^ by'.toNat:Nat):Int) = lS (nth b k ^^^ by') := by rw[GI]
  refine zv (GX rfl) ?_
  refine G0 ?_
  refine ai ?_
  refine G8 ?_
  refine G7 ?_
  refine zv (ix rfl) ?_
  refine zv (ix rfl) ?_
  refine zv (ix rfl) ?_
  refine zv (ix rfl) ?_
  refine zv (Ia hrow10.sl I3 (IZ _) rfl rfl k rfl hkl) ?_
  refine zv (RV.ld m1 rfl) ?_
  refine zv (ix rfl) ?_
  refine zv (dP (v' := lS (nth b k ^^^ by')) (uz (a := (nth b k).toNat) (b := by'.toNat) rfl rfl rfl rfl (by have := (nth b k).toNat_lt; show((nth b k).toNat:Int) ≤ 255; omega) (by have := by'.toNat_lt; show(by'.toNat:Int) ≤ 255; omega)) hcx) ?_
  refine zv (Ia hrow10.sl I3 (IZ _) rfl rfl k rfl hkl) ?_
  refine WL.storeAt (val := lS) hrow10 k hkl (nth b k ^^^ by') (IZ _) rfl (by decide) rfl rfl rfl rfl ?_
  intro w11 hrow11 hU11
  have hE811 := (hU810.trans hU11).ext
  have hcl2:(b.set k (nth b k ^^^ by')).length ≤ 100000000 := by rw[List.length_set]; exact le1
  refine G0 ?_
  refine ai ?_
  refine G8 ?_
  refine G7 ?_
  refine zv (ix rfl) ?_
  refine zc call7 (kT (b.set k (nth b k ^^^ by')) cv w11 hrow11.sl hcl2) ?_
  rintro _ w12 ⟨hE12', hD12⟩
  obtain⟨cs1, e1, rfl, c1l, c1o, hbad1, hok1⟩ := hD12.shape
  refine zv (ix rfl) ?_
  refine zv (GY rfl rfl) ?_
  refine zv (GY rfl rfl) ?_
  refine ar (aw w12) 8 (by omega) (Ih _) rfl ?_
  intro yb w13 O13 hyb13 hU13 hR13 hE13
  refine aR (us := cs1.toArray) hyb13 (show cs1.toArray.size = 17 from by simpa using c1l) (by rw[show cs1.toArray.size = 17 from by simpa using c1l]; exact I0 _) (by simpa using c1o) rfl rfl rfl ?_
  have hyb14 := hyb13.setRow (us := cs1.toArray)
  have hE1214 := (hU13.trans (G9 (us := cs1.toArray) (by decide) hyb13.tag rfl)).ext
  generalize w13.setRow yb cs1.toArray = w14 at *
  have yc:∀W, IY w14 W → ∀(j:Nat) (u:GU), cs1[j]? = some u → W.cell? (nA yb j) = some u := fun W e j u hu => e.cell (by simpa using hyb14.cellsAdd j u (by simpa using hu))
  have hE814 := (hE811.trans hE12').trans hE1214
  have hb14 := hbv.ext hE814
  have hs14:Sl mU 1 w14 (cn bv 1 0 k) (b.take k) := by have := hb14.slice (lo := 0) (hi := k) (by omega) (by omega); rwa[Jv]at this
  refine zv (GX rfl) ?_
  refine G0 ?_
  refine ai ?_
  refine G8 ?_
  refine G7 ?_
  refine zv (ix rfl) ?_
  refine zv (ix rfl) ?_
  refine zv (dW hb14 I3 (IZ _) rfl rfl k rfl (by omega)) ?_
  refine zc call7 (kT (b.take k) _ w14 hs14 (by rw[IP]; omega)) ?_
  rintro _ w15 ⟨hE15, hD15⟩
  obtain⟨cs2, e2, rfl, c2l, c2o, hbad2, hok2⟩ := hD15.shape
  refine zv (ix rfl) ?_
  refine zv (GY rfl rfl) ?_
  refine zv (GY rfl rfl) ?_
  refine ar (aw w15) 8 (by omega) (Ih _) rfl ?_
  intro zb w16 O16 hzb16 hU16 hR16 hE16
  refine aR (us := cs2.toArray) hzb16 (show cs2.toArray.size = 17 from by simpa using c2l) (by rw[show cs2.toArray.size = 17 from by simpa using c2l]; exact I0 _) (by simpa using c2o) rfl rfl rfl ?_
  have hE1517 := (hU16.trans (G9 (us := cs2.toArray) (by decide) hzb16.tag rfl)).ext
  generalize w16.setRow zb cs2.toArray = w17 at *
  have hE1417 := hE15.trans hE1517
  have hE817 := hE814.trans hE1417
  have hE717 := hE8.trans hE817
  have hE017 := hE07.trans hE717
  have hb17 := hbv.ext hE817
  refine zv (GX rfl) ?_
  refine G0 ?_
  refine ai ?_
  refine G8 ?_
  refine G8 ?_
  refine G7 ?_
  refine zv (ix rfl) ?_
  refine zv (RV.eql rfl rfl) ?_
  refine G0 ?_
  refine ai ?_
  by_cases h0:by' = 0
  ·have hset:b.set k (nth b k ^^^ by') = b := by rw[h0, UInt8.xor_zero, az hkl, List.set_getElem_self]
   obtain⟨rfl, hT12⟩ := hok1 t (by rw[hset, hb]; exact AA hrt)
   refine aO rfl ((by rw[h0]; rfl)) ?_
   refine G8 ?_
   refine G7 ?_
   refine zv (ix rfl) ?_
   refine zv (RV.eql rfl rfl) ?_
   refine zv (ix rfl) ?_
   refine au (d := 80) rfl (b' := true) (rfl) ?_
   refine bM rfl ?_
   refine zv (ah (us := cs1) (yc w17 hE1417) (Iw _) (by rw[c1l]; exact I0 _) rfl) ?_
   refine bM rfl ?_
   refine zv (ah (us := bS t.ig t.kp t.br t.rules gv lc rc) (tc w17 hE717) (Iw _) (by rw[hcl]; exact I0 _) rfl) ?_
   refine bM rfl ?_
   refine zc call16 (mr t _ _ w17 (hT12.ext (hE1214.trans hE1417)) (hTV w17 hE717)) ?_
   rintro _ w18 ⟨rfl, hE18⟩
   refine zv (bz rfl rfl) ?_
   refine zv (GX rfl) ?_
   refine G0 ?_
   refine ai ?_
   refine IJ ?_
   refine bJ ?_
   refine af rfl rfl (⟨rfl, hE017.trans hE18⟩)
  ·have hx:nth b k ^^^ by' ≠ nth b k := fun e => h0 (by
    have e2 := congrArg UInt8.toNat e
    rw[Je]at e2
    have e3:(nth b k).toNat ^^^ by'.toNat = (nth b k).toNat ^^^ 0 := by rw[e2, Nat.xor_zero]
    exact Jf.1 (qN e3))
   have hd1:oe (b.set k (nth b k ^^^ by')) = .error (if k < 4 then 4 else 10) := by
    rw[hb]at hkl hx ⊢
    exact xG hkl hx
   obtain rfl := hbad1 _ hd1
   refine aN rfl ((by rw[beq_eq_false_iff_ne]; intro e; exact h0 (Jf.1 (by rw[UInt8.toNat_zero]; omega)))) ?_
   refine Ir ?_
   refine ai ?_
   refine G8 ?_
   refine G8 ?_
   refine nq (fun z:Bool => [(9, bv), (11, nI ((k:Nat):Int)), (16, nI e2), (98, .bool z)]) (fun z:Bool => w17) (fun z:Bool => z = false) ?_ ?_
   ·intro hN
    refine G7 ?_
    refine zv (ix rfl) ?_
    refine zv (RV.lss rfl rfl) ?_
    refine zv (ix rfl) ?_
    by_cases hk4:k < 4
    ·skip
     refine au (d := 87) rfl (b' := true) ((decide_eq_true (by omega))) ?_
     rw[if_pos hk4]
     refine bM rfl ?_
     refine zv (ix rfl) ?_
     refine bM rfl ?_
     refine zv (IK rfl rfl) ?_
     refine zv (bz rfl rfl) ?_
     refine zv (ix rfl) ?_
     refine au (d := 91) rfl (b' := false) (rfl) ?_
     refine bM rfl ?_
     refine zv (ix rfl) ?_
     refine bM rfl ?_
     refine zv (RV.geq rfl rfl) ?_
     refine bM rfl ?_
     refine zv (ix rfl) ?_
     refine au (d := 94) rfl (b' := false) ((decide_eq_false (by omega))) ?_
     refine JC rfl rfl rfl ?_
     refine JC rfl rfl rfl ?_
     refine bM rfl ?_
     refine zv (bh rfl rfl) ?_
     refine zv (bh rfl rfl) ?_
     refine G0 ?_
     exact ij (hN (false) (rfl)) ⟨rfl, rfl, rfl, rfl, trivial⟩ rfl
    ·skip
     refine au (d := 87) rfl (b' := false) ((decide_eq_false (by omega))) ?_
     rw[if_neg hk4]
     refine JC rfl rfl rfl ?_
     refine JC rfl rfl rfl ?_
     refine zv (bh rfl rfl) ?_
     refine zv (ix rfl) ?_
     refine bM rfl ?_
     refine zv (ix rfl) ?_
     refine bM rfl ?_
     refine zv (RV.geq rfl rfl) ?_
     refine bM rfl ?_
     refine zv (ix rfl) ?_
     refine au (d := 94) rfl (b' := true) ((decide_eq_true (by omega))) ?_
     refine bM rfl ?_
     refine zv (ix rfl) ?_
     refine bM rfl ?_
     refine zv (IK rfl rfl) ?_
     refine bM rfl ?_
     refine zv (bz rfl rfl) ?_
     refine zv (bh rfl rfl) ?_
     refine G0 ?_
     exact ij (hN (false) (rfl)) ⟨rfl, rfl, rfl, rfl, trivial⟩ rfl
   rintro _ rfl
   refine ai ?_
   refine aN rfl rfl ?_
   refine Ir ?_
   refine ai ?_
   refine G8 ?_
   refine aL (fun W => IY w17 W) 17 rfl (by kernel_rfl) ?_
   refine zin (GR w17).drew fun zS => ?_
   refine zrm 0 rfl zS rfl ?_
   refine zr 1 rfl zS (fun _ => IK rfl rfl) ?_
   refine zrm 2 rfl zS rfl ?_
   cases hd2:oe (b.take k)with
   |error e' =>
    obtain rfl := hbad2 _ hd2
    have he' := BX hd2
    refine qy (d := 101) rfl (b' := true) ((by rcases he' with⟨rfl, _⟩ | ⟨rfl, _⟩ <;> rfl)) ?_
    refine zin (GR w17).drew fun zS => ?_
    refine zte 3 rfl rfl zS ?_
    refine zte 4 rfl rfl zS ?_
    refine zte 5 rfl rfl zS ?_
    refine zte 6 rfl rfl zS ?_
    refine zte 7 rfl rfl zS ?_
    refine zte 8 rfl rfl zS ?_
    refine zte 9 rfl rfl zS ?_
    refine zte 10 rfl rfl zS ?_
    refine zte 11 rfl rfl zS ?_
    refine zte 12 rfl rfl zS ?_
    refine zte 13 rfl rfl zS ?_
    refine zte 14 rfl rfl zS ?_
    refine zr 15 rfl zS (fun _ => bz rfl rfl) ?_
    refine zra 16 rfl zS rfl ?_
    refine I1 (by kernel_rfl) ?_
    refine ai ?_
    refine IJ ?_
    refine af rfl rfl (⟨rfl, hE017.trans (GR w17).drew⟩)
   |ok t' =>
    obtain⟨rfl, _⟩ := hok2 _ hd2
    obtain⟨k12, ks⟩ := BY hd2
    rw[IP, IW (by omega)]at k12 ks
    have htk:(b.take k).take (k - 8) = b.take (k - 8) := by rw[Ju, IW (by omega)]
    rw[htk]at ks
    have hs17:Sl mU 1 w17 (cn bv 1 0 k) (b.take k) := hs14.ext hE1417
    have hs8:Sl mU 1 w17 (cn bv 1 0 (k - 8)) (b.take (k - 8)) := by have := hb17.slice (lo := 0) (hi := k - 8) (by omega) (by omega); rwa[Jv]at this
    refine qy (d := 101) rfl (b' := false) (rfl) ?_
    refine zin (GR w17).drew fun zS => ?_
    refine zro 3 rfl zS (fun _ => ix rfl) ?_
    refine zro 4 rfl zS (fun _ => ix rfl) ?_
    refine zro 5 rfl zS (fun _ => RV.sub rfl rfl (Io (by omega))) ?_
    refine zro 6 rfl zS (fun _ => ib rfl rfl) ?_
    refine zto 7 rfl zS (fun w1 hw1 => dW (hb17.ext hw1) I3 (IZ _) rfl rfl (k - 8) (by omega) (by omega)) ?_
    refine zro 10 rfl zS (fun _ => ix rfl) ?_
    refine zro 11 rfl zS (fun _ => ix rfl) ?_
    refine zto 12 rfl zS (fun w1 hw1 => dW (hb17.ext hw1) I3 (IZ _) rfl rfl k rfl (by omega)) ?_
    refine zto 13 rfl zS (fun w1 hw1 => gb (hs17.ext hw1) I3 JX GZ rfl) ?_
    refine G4 8 (by kernel_rfl) rfl ?_
    refine bM rfl ?_
    refine zc call10 (tt _ _ w17.drew hs8.drew (by rw[IP]; omega)) ?_
    rintro u18 w18 ⟨hu18, hE18⟩
    have hE1718:IY w17 w18 := (GR w17).drew.trans hE18
    refine G0 ?_
    refine ae (hE1718) ?_
    refine G4 9 (by kernel_rfl) rfl ?_
    refine bM rfl ?_
    refine zv (gb hu18 I3 JX GZ rfl) ?_
    refine G0 ?_
    refine zaf (hE1718) fun zS => ?_
    refine zro 14 rfl zS (fun _ => cA (a := cM (b.take (k - 8))) (b := b.take k) rfl rfl) ?_
    refine zr 15 rfl zS (fun _ => bh rfl rfl) ?_
    refine zra 16 rfl zS rfl ?_
    refine I1 (by kernel_rfl) ?_
    refine ai ?_
    refine IJ ?_
    refine af rfl rfl (⟨by rw[ks]; simp, hE017.trans hE1718⟩)
end Go.Proofs.YtpfpmhhigheccaaGreatDoor
