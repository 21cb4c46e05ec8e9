/- Texts that the proof of this statement needs, merged and shortened. -/
import Derived.Test.YteolbhblkgjbhaaGreatDoorQShippedTexts4
open Go.VL.Ret renaming enter->ix
open Go renaming World->ln,Value->L4,TypeId->NH,FuncId->Pn
open Go.VL.Upd renaming setRow->L0,set->M1,trans->Mf,refl->MI,lowT->NU,mono->PU,drew->PV
open Nat renaming lt_succ_iff_lt_or_eq->L1,le_refl->L3,zero_le->LP,not_lt_zero->LQ,sub_self->Mo,le_of_eq->Mp,le_of_ble_eq_true->Mr,le_of_lt->MM,le_succ->NV,lt_succ_self->Pj,add_assoc->Pz,zero_add->PD
open Go.VL.BlkO renaming upd->L2,setRow->Mk,tag->N6,drew->N9,set->PP,q7->PY,q6->PZ
open List renaming mem_singleton->L5,dropWhile_suffix->L6,all_cons->L9,getElem_append_right->LU,getElem_append_left->LW,all_nil->M7,eq_nil_of_length_eq_zero->M8,getElem_cons_zero->Md,mem_cons->Mh,length_append->Mm,nil_append->Mv,pairwise_cons->Mx,findIdx?_eq_some_iff_getElem->Mz,takeWhile_append_dropWhile->MC,takeWhile_prefix->MD,getElem?_eq_some_iff->MO,getElem?_append_left->MP,findIdx?_eq_none_iff->MQ,drop_eq_getElem_cons->MR,length_cons->MV,not_mem_nil->Nh,getElem_mem->Ni,takeWhile_cons_of_pos->Nu,getElem?_append_right->Nv,drop_of_length_le->NF,contains_iff_mem->NJ,length->NP,length_pos_iff->NW,find?_eq_none->P1,append_assoc->P9,toArray_inj->Pc,mem_reverse->Pd,mem_append->Pk
open Go.VL.WH renaming one->L7,done->Me,leaf->PF
open Go.Proofs.Tryz renaming underlying9->L8,sizeOf96->LZ,prog->M9,sizeOf237->Mb,zeroValue237->Mi,isAgg96->Mj,sizeOf56->Ml,sizeOf31->Mn,underlying234->Ms,zeroValue56->Mu,zeroValue96->MB,call109->MF,sizeOf240->MJ,underlying22->MS,sizeOf120->MT,isAgg237->MU,sizeOf3->MX,underlying149->MZ,zeroValue120->N7,zeroValue31->Na,isAgg56->Nc,isAgg31->Nf,zeroValue240->No,underlying94->Np,sizeOf22->Nq,call79->Ny,call260->ND,call48->NG,underlying107->NT,sizeOf185->NY,sizeOf112->NZ,zeroValue122->P3,underlying43->P4,underlying38->P5,sizeOf4->P6,call76->P7,sizeOf54->Pe,isAgg120->Pf,call77->Pm,ntmps79->Pr,call114->Ps,call113->Pu,sizeOf118->PB,sizeOf98->PJ,func79->PK,underlying270->PM,underlying266->PN,zeroValue197->PQ,sizeOf9->PS,call112->PT,zeroValue9->Q4,call53->Q5
open And renaming intro->LO
open Bool renaming and_eq_true->LV,not_eq_true'->MA,and_eq_false_iff->N2,or_eq_false_iff->N5,or_eq_true->Nm,eq_iff_iff->Nn,and_false->Nw,not_or->NS,false_or->Pp,and_true->Pq
open Go.World renaming setRow->LX,setCell->Mq,drew->Nr,frozen?->Nz
open Go.VL.Ext renaming refl->LY
open Go.VL renaming Upd->M0,BlkO->Mc,Ext->ME,Ret->MK,Rng->N8,RowT->NI,Free->Po
open Go.VL.RV renaming indexAddr->M4,move->M6,build->Mw,extract->My,add->N1,ext->NC,len->NO,assign->Pl,neq->Px
open Array renaming getElem?_setIfInBounds_ne->M5,getElem?_setIfInBounds_self_of_lt->N4,size_setIfInBounds->NA
open Go.Value renaming oneCell'->Ma,bool->MW
open Option.some renaming inj->Mg
open Go.VL.RowT renaming upd->Mt,nil->MG,drew->PL
open Go.VL.WC renaming tail->MH,region->MY,seq->Nl,skip->NL,block->Pw
open Go.VL.Fit renaming i64->MN
open Go.VL.Rng renaming upd->N0,drew->PW
open Go.VL.WS renaming go->Nb
open Go.VL.WL renaming push->Ng,nil->Nj,off->NK,ext->PO
open Go.VL.WI renaming region->Nk,seq->Pv
open Go.Proofs.YteolbhblkgjbhaaGreatDoor renaming PostC->Ns,Rd6->P8,PartV->Q2
open Go.Addr renaming add->Nx,add_add->PA
open Go.Value.tuple renaming injEq->NB
open Go.Value.int renaming injEq->NM
open Go.Value.agg renaming injEq->NN
open List.cons renaming injEq->NQ
open Go.Proofs.YteolbhblkgjbhaaGreatDoor.LR renaming bad->NR
open Go.Lib renaming compact->NX
open Array.mk renaming injEq->P2
open Or renaming inr->Pa,inl->Pb
open Go.Proofs.YteolbhblkgjbhaaGreatDoor.Nt renaming leaf->Pg
open Go.Proofs.YteolbhblkgjbhaaGreatDoor.Nd renaming kind->Ph,kids->Pi,cls->Py
open Go.Proofs.YteolbhblkgjbhaaGreatDoor.RowsT renaming push->PC
open Go.VL.Leave renaming call->PE
open Go.VL.RetB renaming enter->PH
open Int renaming le_refl->PI
open Classical renaming byContradiction->PX
open Go.VL.QF renaming dn->Q0
open Go.Proofs.YteolbhblkgjbhaaGreatDoor.Mac renaming upd->Q3
set_option maxRecDepth 10000
open Go.VL Go.Proofs Go.Proofs.Tryz
variable {α:Type}{wi:Bool}{c e k:Int}{v:L4}{a0:List L4}{r:List UInt8}{B a b i n o t u':Nat}{O:Nat->Nat}{F:Pn}{w:ln}{P:ln->Prop}{l:List α}{p:α->Bool}
namespace Go.Proofs.YteolbhblkgjbhaaGreatDoor
section
abbrev mv(m:M3):L4:=.agg (eR m).toArray
theorem la(hF:∀(args:Array L4) (w:ln),(callFunc F args).run M9 w=.ok (.enter F args) w)(cs:Array L4)(l:List M3)(sv:L4)(q:Nat->Bool)(w:ln)(h:Sl eR 4 w sv l) 
  (hq:∀i,i<l.length->∀w',ME w w'->MK M9 F ([mv (nth l i)]++cs.toList) w' λv w''=>v=.bool (q i)/\ME w' w'') :
  MK M9 196 [sv,.func (.func F) #[] cs] w λv w'=>v=nI (ed q l.length)/\ME w w':=by
 have hl:=h.len_le;apply ix func196 ntmps196 rfl rfl;refine zh ?_;apply zlp (λx:Nat×ln=>[(0,sv),(1,.func (.func F) #[] cs),(7,nI l.length),(8,nI x.1)]) (λx=>x.2) (λx=>x.1<=l.length/\ME w x.2/\∀i,i<x.1->q i=false) (λx=>l.length-x.1) (0,w) ⟨LP _,LY _,λi hi=>absurd hi (LQ i)⟩;rintro⟨k,w1⟩ ⟨hk,hE,a1⟩;dsimp only at hk hE a1 ⊢;have h1:=h.ext hE;refine zh ?_;refine zC ?_ ?_
 ·intro a0;replace a0:k<l.length:=dT a0;refine zh ?_;apply zv (ai (us:=eR (nth l k)) (λj u hu=>h1.cell a0 hu) (isAgg197 _) (sizeOf197 _) rfl);apply dk rfl hF rfl (hq k a0 w1 hE) rfl;rintro v w2 ⟨rfl,a3⟩;refine zh ?_;refine zC ?_ ?_
  ·intro hy;refine zh ?_;refine af rfl rfl ⟨by rw[cR a0 hy a1],hE.trans a3⟩
  intro hy;refine zh ?_;refine zxd (k+1,w2) ⟨a0,hE.trans a3,λi hi=>(L1.1 hi).elim (a1 i) (λe=>by rw[e];exact hy)⟩
 intro a2;replace a2:l.length<=k:=dF a2;refine zh ?_;refine af rfl rfl ⟨by rw[cQ λi hi=>a1 i zo],hE⟩
theorem iC(hF:∀(args:Array L4) (w:ln),(callFunc F args).run M9 w=.ok (.enter F args) w)(cs:Array L4)(l:List M3)(sv:L4)(q:Nat->Bool)(w:ln)(h:Sl eR 4 w sv l) 
  (hq:∀i,i<l.length->∀w',ME w w'->MK M9 F ([mv (nth l i)]++cs.toList) w' λv w''=>v=.bool (q i)/\ME w' w'') :
  MK M9 150 [sv,.func (.func F) #[] cs] w λv w'=>v=.bool (jj q l.length)/\ME w w':=by
 apply ix func150 ntmps150 rfl rfl;refine zh ?_
 apply zc call196 (la hF cs l sv q w h hq);rintro v w1 ⟨rfl,hE⟩;refine zh ?_
 refine af rfl rfl ⟨by rw[firstN_any],hE⟩
theorem Ao(m:M3)(s:List UInt8)(sb:Nat)(w:ln)(h:w.cell? ⟨sb,0,none⟩=some (.string (bs s))):MK M9 151 [mv m,nP sb] w λv w'=>v=.bool (m.1==s)/\ME w w':=by
 apply ix func151 ntmps151 rfl rfl;refine zh ?_
 apply aN (ax w) 1 zo rfl rfl;intro xb w1 O1 a1 a2 a3 a0;refine zh ?_
 apply zv (RV.ld (a1.cell 0 rfl) rfl);apply zv (RV.ld (a0.cell h) rfl)
 refine zvH (bN rfl rfl) ?_;refine af rfl rfl ⟨rfl,a0⟩
theorem pd(l:List (List UInt8))(s:List UInt8)(sv:L4)(w:ln)(h:Sl encS 1 w sv l):MK M9 149 [sv,.string (bs s)] w λv w'=>v=.bool (l.contains s)/\w'=w:=by
 apply ix func149 ntmps149 rfl rfl;refine zh ?_
 apply zc call43 (iA l s sv w h);rintro v w9 ⟨rfl,a0⟩;rw[a0];clear a0 w9;refine zh ?_
 refine af rfl rfl ⟨congrArg MW ?_,rfl⟩;unfold eN
 cases hf:l.findIdx? (· == s)with
 |none=>
  have h1:=MQ.1 hf;rw[decide_eq_false zd]
  symm
  rw[Bool.eq_false_iff];intro hc;have:=h1 s (NJ.1 hc);simp at this
 |some k=>
  obtain⟨hk,h1,_⟩:=Mz.1 hf;show decide ((0:Int)<=((k:Nat):Int))=_;rw[decide_eq_true zo]
  symm
  rw[NJ,<-eq_of_beq h1];exact Ni hk
def wordsL:List (List UInt8):=[[108,101,116],[105,103,110,111,114,101],[107,101,101,112],[97,110,121]]
def fq(kn:Kn)(s:List UInt8):Int:=if((lZ s).isSome||wordsL.contains s)=true then 5 else if kn.any (λm=>m.1==s)=true then 11 else 0
variable{kn:Kn}
theorem BK(O:Nat->Nat)(w:ln)(j jm rb:Nat)(s:LS)(q:List UInt8)(hk:Mac O w jm s.mc kn)(h:P8 O w j rb s):
  MK M9 110 [nP rb,.string (bs q)] w λv w'=>v=nI (fq kn q)/\ME w w':=by
 obtain⟨ms,a2,b1,b2⟩:=hk;have b0:=a2.sl;apply ix func110 ntmps110 rfl rfl;refine zg ?_;apply aN (ax w) 1 zo rfl rfl;intro sb w1 O1 a9 b4 b5 b3;have a3:=a9.cell 0 rfl;refine zg ?_;apply zv (RV.ld a3 rfl);apply zc PT (jc q w1);rintro v w2 ⟨rfl,a6⟩;have a1:=b3.trans a6;refine zg ?_
 cases hn:(lZ q).isSome with
 |true=>
  have hM:fq kn q=5:=by unfold fq;rw[hn];rfl
  rw[hM];apply au (d:=14) rfl (b':=true) rfl;refine zg ?_;apply zTG rfl rfl;refine af rfl rfl ⟨rfl,a1⟩
 |false=>
  apply au (d:=14) rfl (b':=false) rfl;refine zg ?_
  apply cp NT (PS _) (Q4 _) encS wordsL rfl rfl rfl rfl zk zd rfl;intro sv w3 a' a5;have a0:=a1.trans a5;refine zg ?_
  refine zvG (RV.ld ((a6.trans a5).cell a3) rfl) ?_;apply zc call149 (pd wordsL q sv w3 a')
  rintro v w9 ⟨rfl,a7⟩;rw[a7];clear a7 w9;refine zg ?_
  cases hw:wordsL.contains q with
  |true=>
   have hM:fq kn q=5:=by unfold fq;rw[hn,hw];rfl
   rw[hM];apply zTG rfl rfl;refine af rfl rfl ⟨rfl,a0⟩
  |false=>
   apply aI rfl rfl;have q9:=a0.cell h.q9;refine zg ?_
   apply zv (RV.ld q9 rfl);apply zv (dY rfl rfl)
   apply zc call150 (iC call151 #[nP sb] ms s.mc (λi=>(nth ms i).1==q) w3 (b0.ext a0) (λi hi w' hE=>Ao (nth ms i) q sb w' (hE.cell ((a6.trans a5).cell a3))));rintro v w4 ⟨rfl,a8⟩;have a4:jj (λi=>(nth ms i).1==q) ms.length=kn.any (λm=>m.1==q):=by
    rw[<-b1,<-iI (l:=kn) (p:=λm=>m.1==q)];exact Bi λi hi=>by rw[(b2 i zo).1]
   rw[a4];refine zg ?_
   cases ha:kn.any (λm=>m.1==q)with
   |true=>
    have hM:fq kn q=11:=by unfold fq;rw[hn,hw,ha];rfl
    rw[hM];apply zTG rfl rfl;refine af rfl rfl ⟨rfl,a0.trans a8⟩
   |false=>
    have hM:fq kn q=0:=by unfold fq;rw[hn,hw,ha];rfl
    rw[hM];apply zFG rfl rfl;refine af rfl rfl ⟨rfl,a0.trans a8⟩
end
section
variable{kn:Kn}
theorem JN:cE M9 197 #[(0,1),(1,3)]:=⟨_,underlying197,λw=>by kernel_rfl⟩
inductive ML where
 |ok (m:List UInt8×Nd)
 |bad (p:Nat) (e:Int)
def KT(nm r2:List UInt8):XR->ML
 |.ok t=>.ok (nm,t)
 |.bad p e=>.bad (r2.length-1-p) e
def tF(kn:Kn)(r:List UInt8):ML:=
 if(aw r).takeWhile aj=[]then .bad (aw r).length 4
 else if fq kn ((aw r).takeWhile aj)≠0 then .bad (aw r).length (fq kn ((aw r).takeWhile aj))
 else if(aw ((aw r).dropWhile aj)).headD 0=61 then KT ((aw r).takeWhile aj) (aw ((aw r).dropWhile aj)) (fM kn (aw ((aw r).dropWhile aj)).tail)
 else .bad (aw ((aw r).dropWhile aj)).length 4
def Lh(O:Nat->Nat)(w:ln)(jm:Nat)(m:Nat)(v:L4)(bad e:Int)(kn:Kn):ML->Prop
 |.ok x=>e=0/\Mac O w jm v (kn++[x])
 |.bad p e'=>e=e'/\e'≠0/\bad=(m:Int)-(p:Int)
def atX:XR->Int
 |.ok _=>0
 |.bad p _=>(p:Int)
def K2:XR->Int
 |.ok _=>0
 |.bad _ e=>e
theorem PostX.shape{M:XR}(h:PostX O w v M):∃x:N3,v=.tuple #[nv x,nI (atX M),nI (K2 M)]/\x.2.2.oneCell'=true/\∀t,M=.ok t->Nt O w t x:=by
 cases M with
 |ok t=>obtain⟨x,rfl,hn⟩:=h;exact⟨x,rfl,hn.one,λt e=>by cases e;exact hn⟩
 |bad p e=>obtain⟨rfl,_⟩:=h;exact⟨(0,0,nS),rfl,rfl,λt e=>by cases e⟩
theorem lz{m:M3}(h:m.2.2.2.oneCell'=true):∀c∈eR m,c.oneCell'=true:=λc hc=>by
 simp only[eR,Mh,Nh,or_false]at hc
 rcases hc with rfl|rfl|rfl|rfl
 ·rfl
 ·rfl
 ·rfl
 exact h
theorem Ai{ms:List M3}{nm:List UInt8}{x:N3}{t:Nd}(hr:NI eR 197 4 O w i v (ms++[(nm,x)]))(hl:kn.length=ms.length)(hk:∀q,q<ms.length->(nth kn q).1=(nth ms q).1/\Nt O w (nth kn q).2 (nth ms q).2)(hn:Nt O w t x):Mac O w i v (kn++[(nm,t)]):=by
 refine⟨_,hr,by simp[hl],λq hq=>?_⟩;simp only[Mm,List.length_singleton]at hq
 by_cases e:q<ms.length
 ·rw[aB (by simp;omega),aB (by simp;omega),LW zo,LW e,<-aB zo,<-aB e];exact hk q e
 obtain rfl:q=ms.length:=zo;rw[aB (by simp;omega),aB (by simp),LU zo,LU zo];simp[hl];exact hn
theorem CJ(B:Nat)(O:Nat->Nat)(w:ln)(j jm rb:Nat)(s:LS)(m:Nat)(r:List UInt8)(hR:N8 B O w)(hj:j≠0)(a7:jm≠0)(d7:j≠jm)(hm:m<=s.l.length)(hl:s.l.length<=100000)(g2:s.to=(m:Int))(he:s.e=0) 
  (hr:r <:+ s.l.take m) (hp:s.pos=(m:Int)-(r.length:Int)) (m7:kn.length<=100000) (h7:Mac O w jm s.mc kn) (h:P8 O w j rb s) :
  MK M9 78 [nP rb] w λ_ w'=>∃O' v pos bad e,M0 (λk=>k=j\/k=jm) O w O' w'/\N8 B O' w'/\P8 O' w' j rb {s with pos:=pos,bad:=bad,e:=e,mc:=v}/\Lh O' w' jm m v bad e kn (tF kn r):=by
 obtain⟨T0,i',f'⟩:=hR.bound;obtain⟨T,m8,f6,hT⟩:∃T,0<T/\jm<T/\∀b,O b<T:=⟨T0+jm+1,zo,zo,λb=>by have:=f' b;omega⟩
 clear i' f' T0;have g5:j<T:=by rw[<-h.tag];exact hT rb
 have e':¬(λq:Nat=>q=j\/q=jm) 0:=λe=>by rcases e with e|e;exact hj e.symm;exact a7 e.symm
 have a6:¬(λq:Nat=>q=j\/q=jm\/T<=q) 0:=λe=>by rcases e with e|e|e;exact hj e.symm;exact a7 e.symm;omega
 have g3:∀ {O':Nat->Nat} {w':ln},M0 (λq=>q=j\/q=jm\/T<=q) O w O' w'->M0 (λq=>q=j\/q=jm) O w O w':=λhU=>hU.fgt (S':=λq=>q=j\/q=jm) (λb hb=>by rcases hb with hb|hb|hb;exact Pb hb;exact Pa hb;have:=hT b;omega) e'
 have j5:(s.l.take m).length=m:=by simp;omega
 apply ix func78 ntmps78 rfl rfl;refine zh ?_
 apply zc P7 (ej O w j rb s m r hj hm hl g2 hr hp h);rintro v w1 ⟨rfl,k5,i9⟩;have j7:=(bz r).trans hr;have m1:=h7.upd i9 a7 (λe=>d7 e.symm);have m5:=hR.upd i9;refine zh ?_
 refine zvH (RV.ld k5.q1 rfl) ?_;apply zc Pm (ia O w1 j rb ({s with pos:=(m:Int)-((aw r).length:Int)}:LS) m (aw r) hj hm hl g2 j7 rfl k5)
 rintro v w2 ⟨rfl,i3,i8⟩;have j6:=(L6 aj).trans j7;have j':=m1.upd i8 a7 (λe=>d7 e.symm);have k':=m5.upd i8;have f8:=(i9.trans i8).mono (S':=λq=>q=j\/q=jm\/T<=q) (λ_ h=>.inl h) a6;refine zh ?_;refine zvH (bN rfl rfl) ?_
 by_cases f4:(aw r).takeWhile aj=[]
 ·have hM:tF kn r=.bad (aw r).length 4:=by unfold tF;rw[if_pos f4]
  rw[hM];refine zTH rfl ((by rw[f4];rfl)) ?_;apply zc MF (bU O w2 j rb ({s with pos:=(m:Int)-(((aw r).dropWhile aj).length:Int)}:LS) ((m:Int)-((aw r).length:Int)) 4 hj he i3);rintro u w3 ⟨g7,k8⟩;refine zh ?_;exact cG rfl ⟨O,s.mc,_,_,_,g3 (f8.trans (k8.mono (λ_ h=>.inl h) a6)),k'.upd k8,g7,rfl,zd,rfl⟩
 refine zFH rfl ((by simpa using f4)) ?_;apply zc call110 (BK O w2 j jm rb ({s with pos:=(m:Int)-(((aw r).dropWhile aj).length:Int)}:LS) ((aw r).takeWhile aj) j' i3)
 rintro v w3 ⟨rfl,m6⟩;have g8:M0 (λ_=>False) O w2 O w3:=ae (λh=>h) O m6;have g7:=i3.upd g8 hj (λh=>h);have m0:=j'.upd g8 a7 (λh=>h);have k9:=k'.upd g8;have f7:=f8.trans (g8.mono (λ_ h=>h.elim) a6);refine zh ?_
 by_cases f3:fq kn ((aw r).takeWhile aj)=0
 ·apply aI rfl ((by rw[f3];rfl));have j4:tF kn r=if(aw ((aw r).dropWhile aj)).headD 0=61 then KT ((aw r).takeWhile aj) (aw ((aw r).dropWhile aj)) (fM kn (aw ((aw r).dropWhile aj)).tail)else .bad (aw ((aw r).dropWhile aj)).length 4:=by unfold tF;rw[if_neg f4,if_neg (by rw[f3];simp)]
  generalize (aw r).takeWhile aj=nm at *;generalize (aw r).dropWhile aj=q at *;have h0:=(bz q).trans j6;have g6:=g7.drew;have l9:=m0.upd (ae (S:=λ_=>False) (λh=>h) O (LY w3).drew) a7 (λh=>h);have m4:=k9.drew;have m3:=f7.drew;refine zh ?_;apply aQ (λV=>V.cell? ⟨rb,0,none⟩=some (.string (bs s.l))) 19 rfl zk;apply zrm 0 rfl g6.q0 rfl;apply zr 1 rfl g6.q0 (λ_=>aq rfl);apply zrf 2 rfl g6.q0 rfl;apply L7 3 zk rfl;apply zc P7 (ej O w3.drew j rb ({s with pos:=(m:Int)-(q.length:Int)}:LS) m q hj hm hl g2 j6 rfl g6);rintro v w5 ⟨rfl,d1,i7⟩;have l':=l9.upd i7 a7 (λe=>d7 e.symm);have j3:=m4.upd i7;have e4:=m3.trans (i7.mono (λ_ h=>.inl h) a6);generalize aw q=r2 at *;have hr2l:=h0.length_le;rw[j5]at hr2l;have i2:Mc O w5 j rb ({s with pos:=(m:Int)-(r2.length:Int)}:LS).cells 114:=d1;clear d1;have d1:=i2;refine zh ?_;refine zaf d1.q0 λzS=>?_
  apply zr 4 rfl zS (λ_=>RV.not rfl);apply zrm 5 rfl zS rfl
  by_cases j8:r2.length=0
  ·have h1:r2=[]:=M8 j8;have hM:tF kn r=.bad r2.length 4:=by rw[j4,if_neg (by rw[h1];decide)]
   rw[hM];apply dC (d:=44) rfl (b':=true) ((by rw[decide_eq_false zo];rfl));have c8:=d1.drew;refine zin d1.q0 λzS=>?_
   apply zte 6 rfl rfl zS;apply zte 7 rfl rfl zS
   apply zte 8 rfl rfl zS;apply zte 9 rfl rfl zS
   apply zte 10 rfl rfl zS;apply zte 11 rfl rfl zS
   apply zte 12 rfl rfl zS;apply zte 13 rfl rfl zS
   apply zte 14 rfl rfl zS;apply zte 15 rfl rfl zS
   apply zte 16 rfl rfl zS;apply zte 17 rfl rfl zS
   apply zr 18 rfl zS (λ_=>aV rfl rfl);apply Me zk
   refine zh ?_;refine zTH rfl rfl ?_
   apply MH 8 rfl rfl zk zk;apply zw (M6 rfl)
   apply zw (aq rfl);apply zw (RV.fa rfl)
   apply zw (M6 rfl);apply zw (aq rfl)
   apply zw (RV.fa rfl);apply zw (RV.fa rfl)
   apply zw (RV.ld c8.q1 rfl);apply Nb
   apply zc MF (bU O w5.drew j rb ({s with pos:=(m:Int)-(r2.length:Int)}:LS) ((m:Int)-(r2.length:Int)) 4 hj he c8);rintro u w6 ⟨b5,d6⟩;refine zh ?_
   exact cG rfl ⟨O,s.mc,_,_,_,g3 ((e4.drew).trans (d6.mono (λ_ h=>.inl h) a6)),j3.drew.upd d6,b5,rfl,zd,rfl⟩
  have h1:r2≠[]:=λe=>j8 (by rw[e];rfl)
  have k0:=nG (zM h0 h1);rw[j5]at k0;apply dC (d:=44) rfl (b':=false) ((by rw[decide_eq_true zo];rfl));refine zin d1.q0 λzS=>?_
  apply zro 6 rfl zS (λ_=>M6 rfl);apply zro 7 rfl zS (λ_=>aq rfl)
  apply zro 8 rfl zS (λ_=>RV.fa rfl);apply zro 9 rfl zS (λ_=>RV.fa rfl)
  apply zto 10 rfl zS (λw1 c6=>RV.ld c6 rfl);apply zro 11 rfl zS (λ_=>M6 rfl)
  apply zro 12 rfl zS (λ_=>aq rfl);apply zro 13 rfl zS (λ_=>RV.fa rfl)
  apply zro 14 rfl zS (λ_=>RV.fa rfl);apply L7 15 zk rfl
  apply aH rfl;refine zvH (RV.ld d1.q1 rfl) ?_
  refine zaf d1.q0 λzS=>?_
  apply zro 16 rfl zS (λ_=>bD (c:=r2.headD 0) L8 rfl rfl (m-r2.length) (by dsimp only;omega) k0);apply zro 17 rfl zS (λ_=>Px rfl rfl)
  apply zr 18 rfl zS (λ_=>aG rfl rfl);apply Me zk
  refine zh ?_
  by_cases hc:r2.headD 0=61
  ·have l3:tF kn r=KT nm r2 (fM kn r2.tail):=by rw[j4,if_pos hc]
   obtain⟨k1,k2⟩:=cI (r:=r2) (by rw[hc];decide);have l6:=k1.trans h0;apply aI rfl ((by rw[hc];rfl));have c8:=d1.drew;have h6:=l'.upd (ae (S:=λ_=>False) (λh=>h) O (LY w5).drew) a7 (λh=>h);have g0:=j3.drew;have k6:=e4.drew;have g':(s.l.take m).drop (m-r2.tail.length)=r2.tail:=by have:=Gz l6;rwa[j5]at this
   have k3:=zQ (kn:=kn) r2.tail;generalize l2:fM kn r2.tail=M at *;refine zh ?_;refine iO (λz:(Nat->Nat)×World×Nat×N3=>[(0,nP rb),(3,.string (bs nm)),(5,.pointer (some ⟨z.2.2.1,0,none⟩)),(6,nI (atX M)),(7,nI (K2 M))]) (λz:(Nat->Nat)×World×Nat×N3=>z.2.1) (λz:(Nat->Nat)×World×Nat×N3=>Mc z.1 z.2.1 T z.2.2.1 #[nI z.2.2.2.1,nI z.2.2.2.2.1,z.2.2.2.2.2] 120/\P8 z.1 z.2.1 j rb {s with pos:=(m:Int)-(r2.length:Int)}/\Mac z.1 z.2.1 jm s.mc kn/\M0 (λq=>q=j\/q=jm\/T<=q) O w z.1 z.2.1/\N8 B z.1 z.2.1/\z.2.2.2.2.2.oneCell'=true/\∀t,M=.ok t->Nt z.1 z.2.1 t z.2.2.2) ?_ ?_
   ·intro Qm hN;apply aQ (λV=>V.cell? ⟨rb,0,none⟩=some (.string (bs s.l))/\V.cell? ⟨rb,1,none⟩=some (nI ((m:Int)-(r2.length:Int)))/\V.cell? ⟨rb,2,none⟩=some (nI s.to)/\V.cell? ⟨rb,9,none⟩=some s.mc) 30 rfl zk;refine zin ⟨c8.q0,c8.q1,c8.q2,c8.q9⟩ λzS=>?_
    apply zrm 0 rfl zS rfl;apply zr 1 rfl zS (λ_=>aq rfl)
    apply zrf 2 rfl zS rfl;apply zrf 3 rfl zS rfl
    apply zt 4 rfl zS (λw1 c6=>RV.ld c6.1 rfl);apply zrm 5 rfl zS rfl
    apply zr 6 rfl zS (λ_=>aq rfl);apply zrf 7 rfl zS rfl
    apply zrf 8 rfl zS rfl;apply zt 9 rfl zS (λw1 c6=>RV.ld c6.2.1 rfl)
    apply zr 10 rfl zS (λ_=>N1 rfl rfl (MN zo));apply zrm 11 rfl zS rfl
    apply zr 12 rfl zS (λ_=>aq rfl);apply zrf 13 rfl zS rfl
    apply zrf 14 rfl zS rfl;apply zt 15 rfl zS (λw1 c6=>RV.ld c6.2.2.1 rfl)
    apply zr 16 rfl zS (λ_=>cf L8 rfl rfl rfl (m-r2.tail.length) m zo g2 zo hm);apply zrm 17 rfl zS rfl
    apply zr 18 rfl zS (λ_=>aq rfl);apply zrf 19 rfl zS rfl
    apply zt 20 rfl zS (λw1 c6=>RV.ld c6.2.2.2 rfl);rw[g'];refine bB 21 26 zk rfl rfl ?_ ?_
    ·apply zc call111 (lT s.mc r2.tail B O (forget jm O) w5.drew g0 g0.forget (h6.known a7 g0));rintro v w6 ⟨l5,l1⟩;rw[l2]at l1;obtain⟨x,rfl,c9,e8⟩:=l1.shape;have d8:M0 (λ_=>False) O w5.drew O w6:=ae (λh=>h) O l5;have b5:=c8.upd d8 hj (λh=>h);have g4:=h6.upd d8 a7 (λh=>h);have e9:=g0.upd d8;have d6:=k6.trans (d8.mono (λ_ h=>h.elim) a6);refine zh ?_
     refine zaf ⟨b5.q0,b5.q1,b5.q2,b5.q9⟩ λzS=>?_
     apply zrm 22 rfl zS rfl;apply zr 23 rfl zS (λ_=>My rfl rfl)
     apply zr 24 rfl zS (λ_=>My rfl rfl);apply zr 25 rfl zS (λ_=>My rfl rfl)
     apply L7 26 zk rfl;apply ar e9 T zo (N7 _) rfl
     intro nb w7 O7 e0 d3 j2 l4;have d0:=b5.upd d3 hj zo;have h':=g4.upd d3 a7 zo;have i6:=d6.trans (d3.mono (λ_ h=>.inr (.inr (Mp h.symm))) a6);refine zh ?_;apply aa ⟨d0.q0,d0.q1,d0.q2,d0.q9⟩;apply L7 27 zk rfl;apply zsb (us:=#[nI x.1,nI x.2.1,x.2.2]) e0 (MT _) (bX c9);have h2:=Mk (us:=#[nI x.1,nI x.2.1,x.2.2]) e0;have d2:M0 (λq=>q=T) O7 w7 O7 (LX w7 nb #[nI x.1,nI x.2.1,x.2.2]):=L0 zo (N6 e0) rfl;have c':=L2 d0 d2 hj zo;refine zh ?_;refine zaf ⟨c'.q0,c'.q1,c'.q2,c'.q9⟩ λzS=>?_
     apply zra 28 rfl zS rfl;apply zra 29 rfl zS rfl
     apply Me zk;exact dq (hN ((O7,LX w7 nb #[nI x.1,nI x.2.1,x.2.2],nb,x)) ⟨h2,c',Q3 h' d2 a7 zo,Mf i6 (d2.mono (λ_ h=>.inr (.inr (Mp h.symm))) a6),N0 j2 d2,c9,λt e=>Nt.upd ((λt e=>(e8 t e).upd d3) t e) d2⟩) ⟨rfl,rfl,rfl,rfl,rfl,trivial⟩ rfl
    apply ar g0 T zo (N7 _) rfl;intro nb w6 O6 l8 d8 e9 l5;have b5:=c8.upd d8 hj zo;have g4:=h6.upd d8 a7 zo;have d6:=k6.trans (d8.mono (λ_ h=>.inr (.inr (Mp h.symm))) a6);refine zh ?_
    apply aa ⟨b5.q0,b5.q1,b5.q2,b5.q9⟩;apply L7 21 zk rfl
    apply zc call111 (lT s.mc r2.tail B O6 (forget jm O6) w6 e9 e9.forget (g4.known a7 e9));rintro v w7 ⟨l4,l0⟩;rw[l2]at l0;obtain⟨x,rfl,c9,e8⟩:=l0.shape;have d3:M0 (λ_=>False) O6 w6 O6 w7:=ae (λh=>h) O6 l4;have e0:=l8.upd d3 zo (λh=>h);have d0:=b5.upd d3 hj (λh=>h);have h':=g4.upd d3 a7 (λh=>h);have j2:=e9.upd d3;have i6:=d6.trans (d3.mono (λ_ h=>h.elim) a6);refine zh ?_
    refine zaf ⟨d0.q0,d0.q1,d0.q2,d0.q9⟩ λzS=>?_
    apply zrm 22 rfl zS rfl;apply zr 23 rfl zS (λ_=>My rfl rfl)
    apply zr 24 rfl zS (λ_=>My rfl rfl);apply zr 25 rfl zS (λ_=>My rfl rfl)
    apply L7 27 zk rfl;apply zsb (us:=#[nI x.1,nI x.2.1,x.2.2]) e0 (MT _) (bX c9)
    have h2:=Mk (us:=#[nI x.1,nI x.2.1,x.2.2]) e0;have d2:M0 (λq=>q=T) O6 w7 O6 (LX w7 nb #[nI x.1,nI x.2.1,x.2.2]):=L0 zo (N6 e0) rfl;have c':=L2 d0 d2 hj zo;refine zh ?_;refine zaf ⟨c'.q0,c'.q1,c'.q2,c'.q9⟩ λzS=>?_
    apply zra 28 rfl zS rfl;apply zra 29 rfl zS rfl
    apply Me zk;exact dq (hN ((O6,LX w7 nb #[nI x.1,nI x.2.1,x.2.2],nb,x)) ⟨h2,c',Q3 h' d2 a7 zo,Mf i6 (d2.mono (λ_ h=>.inr (.inr (Mp h.symm))) a6),N0 j2 d2,c9,λt e=>Nt.upd (e8 t e) d2⟩) ⟨rfl,rfl,rfl,rfl,rfl,trivial⟩ rfl
   rintro⟨O8,w8,nb,x⟩ ⟨h4,i1,h8,i5,j1,c9,e8⟩;dsimp only at h4 i1 h8 i5 j1 c9 e8 ⊢;refine zh ?_
   cases M with
   |ok t=>
    rw[l3];apply aI rfl rfl;have j9:=e8 t rfl;obtain⟨ms,d9,e1,f5⟩:=h8;have b1:=PL d9;have g1:=PW j1;have e2:=N9 i1;have d4:=N9 h4;have f9:=PV i5;refine zh ?_;apply aQ (λV=>∀(q:Nat) (u:L4),(aX x)[q]? = some u->V.cell? (nA nb q)=some u) 13 rfl zk;refine zin d4.cellsAdd λzS=>?_
    apply zrm 0 rfl zS rfl;apply zrm 1 rfl zS rfl
    apply zr 2 rfl zS (λ_=>aq rfl);apply zrf 3 rfl zS rfl
    apply zrm 5 rfl zS rfl;apply zt 6 rfl zS (λw1 c6=>ai (us:=aX x) c6 (Pf _) (MT _) rfl)
    apply zr 7 rfl zS (λ_=>Mw (vs:=[(0,.string (bs nm)),(1,nv x)]) (cells:=(eR (nm,x)).toArray) JN (PQ _) rfl zk);refine bB 4 8 zk rfl rfl ?_ ?_
    ·refine zvH (RV.ld e2.q9 rfl) ?_;apply aa d4.cellsAdd
     apply L7 8 zk rfl;apply aU elM (enc:=eR) (nm,x) rfl rfl rfl zd rfl
     intro w9 h9 e7;have a5:M0 (λ_=>False) O8 (Nr w8) O8 w9:=ae (λh=>h) O8 e7;have d5:=e2.upd a5 hj (λh=>h);have c7:=d4.upd a5 zo (λh=>h);have a8:=b1.upd a5 a7 (λh=>h);have e6:=g1.upd a5;have e5:=f9.trans (a5.mono (λ_ h=>h.elim) a6);refine zh ?_;apply aa c7.cellsAdd;have a':∀u∈[((nm,x):M3)],∀c∈eR u,c.oneCell'=true:=λu hu=>by
      rw[L5.1 hu];exact lz c9
     apply L7 9 zk rfl;apply aD elM a8 e6 h9 (by simp) rfl rfl (λ_ _=>rfl) a' (by simp;omega) (by simp;omega) zo rfl
     intro a0 b2 O10 a1 a3 c5;have a4:=L2 d5 a3 hj zo;have b0:=L2 c7 a3 zo zo;have b4:=a1.one;have b8:=e5.trans (a3.mono (λ_ h=>.inr (.inl h)) a6);refine zh ?_;refine zaf b0.cellsAdd λzS=>?_
     apply zr 10 rfl zS (λ_=>aq rfl);apply zrf 11 rfl zS rfl
     apply L7 12 zk rfl;apply ak (j:=9) a4 rfl (NZ _) b4 rfl rfl rfl
     have a2:M0 (λq=>q=j) O10 b2 O10 (Mq b2 ⟨rb,9,none⟩ a0):=M1 (λe=>hj e.symm) a4.tag rfl;have b6:Mc O10 (Mq b2 ⟨rb,9,none⟩ a0) j rb ({({s with pos:=(m:Int)-(r2.length:Int)}:LS)with mc:=a0}:LS).cells 114:=a4.set 9 a0;have b3:=b0.upd a2 zo zo;have a9:=a1.upd a2 a7 (λe=>d7 e.symm);have b7:=b8.trans (a2.mono (λ_ h=>.inl h) a6);have b9:=c5.upd a2;refine zh ?_;apply aa b3.cellsAdd;apply Me zk;have e3:=NU b7 hT (S':=λq=>q=j\/q=jm) (λb hb=>by rcases hb with hb|hb|hb;exact Pb hb;exact Pa hb;have:=hT b;omega) e';exact aJ rfl ⟨lowT O10 T,a0,_,_,_,e3,b9.lowT T,b6.lowT g5,he,Ai (a9.lowT f6) e1 (λq hq=>⟨(f5 q hq).1,(((((f5 q hq).2.drew).upd a5).upd a3).upd a2).weak (λb hb=>kU hb)⟩) (((((j9.drew).upd a5).upd a3).upd a2).weak (λb hb=>kU hb))⟩
    apply aU elM (enc:=eR) (nm,x) rfl rfl rfl zd rfl;intro w9 h9 e7;have a5:M0 (λ_=>False) O8 (Nr w8) O8 w9:=ae (λh=>h) O8 e7;have d5:=e2.upd a5 hj (λh=>h);have c7:=d4.upd a5 zo (λh=>h);have a8:=b1.upd a5 a7 (λh=>h);have e6:=g1.upd a5;have e5:=f9.trans (a5.mono (λ_ h=>h.elim) a6);refine zh ?_
    apply aa c7.cellsAdd;apply L7 4 zk rfl
    refine zvH (RV.ld d5.q9 rfl) ?_;apply aa c7.cellsAdd
    have a':∀u∈[((nm,x):M3)],∀c∈eR u,c.oneCell'=true:=λu hu=>by
     rw[L5.1 hu];exact lz c9
    apply L7 9 zk rfl;apply aD elM a8 e6 h9 (by simp) rfl rfl (λ_ _=>rfl) a' (by simp;omega) (by simp;omega) zo rfl
    intro a0 b2 O10 a1 a3 c5;have a4:=L2 d5 a3 hj zo;have b0:=L2 c7 a3 zo zo;have b4:=a1.one;have b8:=e5.trans (a3.mono (λ_ h=>.inr (.inl h)) a6);refine zh ?_;refine zaf b0.cellsAdd λzS=>?_
    apply zr 10 rfl zS (λ_=>aq rfl);apply zrf 11 rfl zS rfl
    apply L7 12 zk rfl;apply ak (j:=9) a4 rfl (NZ _) b4 rfl rfl rfl
    have a2:M0 (λq=>q=j) O10 b2 O10 (Mq b2 ⟨rb,9,none⟩ a0):=M1 (λe=>hj e.symm) a4.tag rfl;have b6:Mc O10 (Mq b2 ⟨rb,9,none⟩ a0) j rb ({({s with pos:=(m:Int)-(r2.length:Int)}:LS)with mc:=a0}:LS).cells 114:=a4.set 9 a0;have b3:=b0.upd a2 zo zo;have a9:=a1.upd a2 a7 (λe=>d7 e.symm);have b7:=b8.trans (a2.mono (λ_ h=>.inl h) a6);have b9:=c5.upd a2;refine zh ?_;apply aa b3.cellsAdd;apply Me zk;have e3:=NU b7 hT (S':=λq=>q=j\/q=jm) (λb hb=>by rcases hb with hb|hb|hb;exact Pb hb;exact Pa hb;have:=hT b;omega) e';exact aJ rfl ⟨lowT O10 T,a0,_,_,_,e3,b9.lowT T,b6.lowT g5,he,Ai (a9.lowT f6) e1 (λq hq=>⟨(f5 q hq).1,(((((f5 q hq).2.drew).upd a5).upd a3).upd a2).weak (λb hb=>kU hb)⟩) (((((j9.drew).upd a5).upd a3).upd a2).weak (λb hb=>kU hb))⟩
   |bad p e=>
    have d':=(k3 p e rfl).1;have l7:=(k3 p e rfl).2;rw[l3];apply aP rfl ((by simpa[K2]using d'));have hb8d:=i1.drew;have hn8d:=h4.drew;have hm8d:=h8.upd (ae (S:=λ_=>False) (λh=>h) O8 (LY w8).drew) a7 (λh=>h);apply MH 12 rfl rfl zk zk;refine zh ?_;apply zw (RV.ld hb8d.q1 rfl);refine zwH (N1 rfl rfl (MN (by dsimp only;omega))) ?_;refine zwH (N1 rfl rfl (MN (by dsimp only[atX];omega))) ?_;apply Nb;apply zc MF (bU O8 w8.drew j rb ({s with pos:=(m:Int)-(r2.length:Int)}:LS) (((m:Int)-(r2.length:Int))+1+(p:Int)) e hj he hb8d);rintro u wf ⟨k4,g9⟩;have h3:=hn8d.upd g9 zo zo;have h5:=hm8d.upd g9 a7 (λe=>d7 e.symm);have j0:=j1.drew.upd g9;have i4:=(i5.drew).trans (g9.mono (S':=λq=>q=j\/q=jm\/T<=q) (λ_ h=>.inl h) a6);have i0:Mc O8 wf j rb ({s with pos:=(m:Int)-(r2.length:Int),bad:=((m:Int)-(r2.length:Int))+1+(p:Int),e:=e}:LS).cells 114:=k4;clear k4;obtain⟨ms,d9,e1,f5⟩:=h5;have b1:=PL d9;have g1:=PW j0;have e2:=N9 i0;have d4:=N9 h3;have f9:=PV i4;refine zh ?_;apply aQ (λV=>∀(q:Nat) (u:L4),(aX x)[q]? = some u->V.cell? (nA nb q)=some u) 13 rfl zk;refine zin d4.cellsAdd λzS=>?_
    apply zrm 0 rfl zS rfl;apply zrm 1 rfl zS rfl
    apply zr 2 rfl zS (λ_=>aq rfl);apply zrf 3 rfl zS rfl
    apply zrm 5 rfl zS rfl;apply zt 6 rfl zS (λw1 c6=>ai (us:=aX x) c6 (Pf _) (MT _) rfl)
    apply zr 7 rfl zS (λ_=>Mw (vs:=[(0,.string (bs nm)),(1,nv x)]) (cells:=(eR (nm,x)).toArray) JN (PQ _) rfl zk);refine bB 4 8 zk rfl rfl ?_ ?_
    ·refine zvH (RV.ld e2.q9 rfl) ?_;apply aa d4.cellsAdd
     apply L7 8 zk rfl;apply aU elM (enc:=eR) (nm,x) rfl rfl rfl zd rfl
     intro w9 h9 e7;have a5:M0 (λ_=>False) O8 (Nr wf) O8 w9:=ae (λh=>h) O8 e7;have d5:=e2.upd a5 hj (λh=>h);have c7:=d4.upd a5 zo (λh=>h);have a8:=b1.upd a5 a7 (λh=>h);have e6:=g1.upd a5;have e5:=f9.trans (a5.mono (λ_ h=>h.elim) a6);refine zh ?_;apply aa c7.cellsAdd;have a':∀u∈[((nm,x):M3)],∀c∈eR u,c.oneCell'=true:=λu hu=>by
      rw[L5.1 hu];exact lz c9
     apply L7 9 zk rfl;apply aD elM a8 e6 h9 (by simp) rfl rfl (λ_ _=>rfl) a' (by simp;omega) (by simp;omega) zo rfl
     intro a0 b2 O10 a1 a3 c5;have a4:=L2 d5 a3 hj zo;have b0:=L2 c7 a3 zo zo;have b4:=a1.one;have b8:=e5.trans (a3.mono (λ_ h=>.inr (.inl h)) a6);refine zh ?_;refine zaf b0.cellsAdd λzS=>?_
     apply zr 10 rfl zS (λ_=>aq rfl);apply zrf 11 rfl zS rfl
     apply L7 12 zk rfl;apply ak (j:=9) a4 rfl (NZ _) b4 rfl rfl rfl
     have a2:M0 (λq=>q=j) O10 b2 O10 (Mq b2 ⟨rb,9,none⟩ a0):=M1 (λe=>hj e.symm) a4.tag rfl;have b6:Mc O10 (Mq b2 ⟨rb,9,none⟩ a0) j rb ({({s with pos:=(m:Int)-(r2.length:Int),bad:=((m:Int)-(r2.length:Int))+1+(p:Int),e:=e}:LS)with mc:=a0}:LS).cells 114:=a4.set 9 a0;have b3:=b0.upd a2 zo zo;have a9:=a1.upd a2 a7 (λe=>d7 e.symm);have b7:=b8.trans (a2.mono (λ_ h=>.inl h) a6);have b9:=c5.upd a2;refine zh ?_;apply aa b3.cellsAdd;apply Me zk;have e3:=NU b7 hT (S':=λq=>q=j\/q=jm) (λb hb=>by rcases hb with hb|hb|hb;exact Pb hb;exact Pa hb;have:=hT b;omega) e';exact aJ rfl ⟨lowT O10 T,a0,_,_,_,e3,b9.lowT T,b6.lowT g5,rfl,d',by dsimp only;omega⟩
    apply aU elM (enc:=eR) (nm,x) rfl rfl rfl zd rfl;intro w9 h9 e7;have a5:M0 (λ_=>False) O8 (Nr wf) O8 w9:=ae (λh=>h) O8 e7;have d5:=e2.upd a5 hj (λh=>h);have c7:=d4.upd a5 zo (λh=>h);have a8:=b1.upd a5 a7 (λh=>h);have e6:=g1.upd a5;have e5:=f9.trans (a5.mono (λ_ h=>h.elim) a6);refine zh ?_
    apply aa c7.cellsAdd;apply L7 4 zk rfl
    refine zvH (RV.ld d5.q9 rfl) ?_;apply aa c7.cellsAdd
    have a':∀u∈[((nm,x):M3)],∀c∈eR u,c.oneCell'=true:=λu hu=>by
     rw[L5.1 hu];exact lz c9
    apply L7 9 zk rfl;apply aD elM a8 e6 h9 (by simp) rfl rfl (λ_ _=>rfl) a' (by simp;omega) (by simp;omega) zo rfl
    intro a0 b2 O10 a1 a3 c5;have a4:=L2 d5 a3 hj zo;have b0:=L2 c7 a3 zo zo;have b4:=a1.one;have b8:=e5.trans (a3.mono (λ_ h=>.inr (.inl h)) a6);refine zh ?_;refine zaf b0.cellsAdd λzS=>?_
    apply zr 10 rfl zS (λ_=>aq rfl);apply zrf 11 rfl zS rfl
    apply L7 12 zk rfl;apply ak (j:=9) a4 rfl (NZ _) b4 rfl rfl rfl
    have a2:M0 (λq=>q=j) O10 b2 O10 (Mq b2 ⟨rb,9,none⟩ a0):=M1 (λe=>hj e.symm) a4.tag rfl;have b6:Mc O10 (Mq b2 ⟨rb,9,none⟩ a0) j rb ({({s with pos:=(m:Int)-(r2.length:Int),bad:=((m:Int)-(r2.length:Int))+1+(p:Int),e:=e}:LS)with mc:=a0}:LS).cells 114:=a4.set 9 a0;have b3:=b0.upd a2 zo zo;have a9:=a1.upd a2 a7 (λe=>d7 e.symm);have b7:=b8.trans (a2.mono (λ_ h=>.inl h) a6);have b9:=c5.upd a2;refine zh ?_;apply aa b3.cellsAdd;apply Me zk;have e3:=NU b7 hT (S':=λq=>q=j\/q=jm) (λb hb=>by rcases hb with hb|hb|hb;exact Pb hb;exact Pa hb;have:=hT b;omega) e';exact aJ rfl ⟨lowT O10 T,a0,_,_,_,e3,b9.lowT T,b6.lowT g5,rfl,d',by dsimp only;omega⟩
  have hM:tF kn r=.bad r2.length 4:=by rw[j4,if_neg hc]
  rw[hM];apply aP rfl ((sZ _ 61 zd hc));have c8:=d1.drew;refine zh ?_;apply MH 8 rfl rfl zk zk;refine zh ?_;apply zw (RV.ld c8.q1 rfl);apply Nb;apply zc MF (bU O w5.drew j rb ({s with pos:=(m:Int)-(r2.length:Int)}:LS) ((m:Int)-(r2.length:Int)) 4 hj he c8);rintro u w6 ⟨b5,d6⟩;refine zh ?_;exact cG rfl ⟨O,s.mc,_,_,_,g3 ((e4.drew).trans (d6.mono (λ_ h=>.inl h) a6)),j3.drew.upd d6,b5,rfl,zd,rfl⟩
 have hM:tF kn r=.bad (aw r).length (fq kn ((aw r).takeWhile aj)):=by unfold tF;rw[if_neg f4,if_pos f3]
 rw[hM];refine zTH rfl ((by simpa using f3)) ?_;apply zc MF (bU O w3 j rb ({s with pos:=(m:Int)-(((aw r).dropWhile aj).length:Int)}:LS) ((m:Int)-((aw r).length:Int)) (fq kn ((aw r).takeWhile aj)) hj he g7);rintro u w4 ⟨m2,k7⟩;refine zh ?_;exact cG rfl ⟨O,s.mc,_,_,_,g3 (f7.trans (k7.mono (λ_ h=>.inl h) a6)),k9.upd k7,m2,rfl,f3,rfl⟩
end
theorem Bt:Elem M9 22 3 1 8:=⟨MS,by kernel_rfl,zd⟩
inductive LM where
 |ok (l:List Int)
 |bad (p:Nat) (e:Int)
def fQ:Nat->List Int->List UInt8->LM
 |0,acc,_=>.ok acc
 |n+1,acc,r=>
  if(aw r).length=0 then .ok acc
  else if(aw r).takeWhile aj=[]then .bad (aw r).length 4
  else match lZ ((aw r).takeWhile aj)with
   |none=>.bad (aw r).length 5
   |some c=>fQ n (acc++[(c:Int)]) ((aw r).dropWhile aj)
def KS:LM->LM
 |.bad p e=>.bad p e
 |.ok []=>.bad 0 4
 |.ok (a::l)=>.ok (NX (gY (a::l)))
def dt(r:List UInt8):LM:=KS (fQ (r.length+1) [] r)
theorem tL{x:List UInt8}(h:x.takeWhile aj≠[]):(x.dropWhile aj).length<x.length:=by
 have:=congrArg NP (MC (p:=aj) (l:=x));rw[Mm]at this;have:=NW.2 h;omega
def Kj(m:Nat)(w':ln)(O':Nat->Nat)(ji:Nat)(lv:L4)(bad e:Int):LM->Prop
 |.ok l=>e=0/\NI encI 3 1 O' w' ji lv l
 |.bad p e'=>e=e'/\e'≠0/\bad=(m:Int)-(p:Int)
theorem qK(O:Nat->Nat)(w:ln)(j rb:Nat)(s:LS)(hj:j≠0)(he:s.e=0)(a0:s.i=true)(h:P8 O w j rb s):
  MK M9 79 [nP rb,.pointer (some ⟨rb,6,none⟩),.pointer (some ⟨rb,10,none⟩)] w fun _ w'=>P8 O w' j rb {s with bad:=s.bg,e:=11}/\M0 (fun k=>k=j) O w O w':=by
 have q0:=h.q10;rw[a0]at q0;have q3:=h.q3;have hd:=h.drew;have a3:M0 (fun k=>k=j) O w O w.drew:=(MI (fun e=>hj e.symm) O w).drew;refine ix PK Pr rfl rfl ?_;refine zg ?_;refine zvG (RV.ld q0 rfl) ?_;refine zTG rfl rfl ?_;refine MH 8 rfl rfl zk zk ?_;refine zg ?_;refine zw (RV.ld q3 rfl) ?_;refine Nb ?_;refine zc MF (bU O w.drew j rb s s.bg 11 hj he hd) ?_;rintro u w1 ⟨a1,a2⟩;refine zg ?_;exact cG rfl ⟨a1,a3.trans a2⟩
theorem qJ(O:Nat->Nat)(w:ln)(j rb:Nat)(s:LS)(hj:j≠0)(he:s.e=0)(a0:s.k=true)(h:P8 O w j rb s):
  MK M9 79 [nP rb,.pointer (some ⟨rb,7,none⟩),.pointer (some ⟨rb,11,none⟩)] w fun _ w'=>P8 O w' j rb {s with bad:=s.bg,e:=11}/\M0 (fun k=>k=j) O w O w':=by
 have q0:=h.q11;rw[a0]at q0;have q3:=h.q3;have hd:=h.drew;have a3:M0 (fun k=>k=j) O w O w.drew:=(MI (fun e=>hj e.symm) O w).drew;refine ix PK Pr rfl rfl ?_;refine zg ?_;refine zvG (RV.ld q0 rfl) ?_;refine zTG rfl rfl ?_;refine MH 8 rfl rfl zk zk ?_;refine zg ?_;refine zw (RV.ld q3 rfl) ?_;refine Nb ?_;refine zc MF (bU O w.drew j rb s s.bg 11 hj he hd) ?_;rintro u w1 ⟨a1,a2⟩;refine zg ?_;exact cG rfl ⟨a1,a3.trans a2⟩
theorem tK:∀(n:Nat) (a0:List Int) (r:List UInt8) (p:Nat) (e:Int),fQ n a0 r=.bad p e->p<=r.length
 |0,_,_,_,_,h=>by cases h
 |n+1,a0,r,p,e,h=>by
  have hs:=dL r;unfold fQ at h
  split at h
  ·cases h
  split at h
  ·cases h;exact hs
  split at h
  ·cases h;exact hs
  have h1:=tK n _ _ p e h;have h2:=(L6 (l:=aw r) aj).length_le;omega
theorem nM{p:Nat}(h:dt r=.bad p e):p<=r.length:=by
 unfold dt at h
 cases hw:fQ (r.length+1) [] r with
 |bad q f=>rw[hw]at h;cases h;exact tK _ _ _ _ _ hw
 |ok l=>
  rw[hw]at h
  cases l with
  |nil=>cases h;exact LP _
  |cons a l=>cases h
theorem uS(B:Nat)(O:Nat->Nat)(w:ln)(j ji rb:Nat)(s:LS)(m:Nat)(r0:List UInt8)(hR:N8 B O w)(hj:j≠0)(a8:ji≠0)(a9:j≠ji)(hm:m<=s.l.length)(hl:s.l.length<=100000)(d6:s.to=(m:Int))(he:s.e=0)(g1:s.i=false)(g2:s.ig=tE)
  (hr:r0 <:+ s.l.take m) (hp:s.pos=(m:Int)-(r0.length:Int)) (h:P8 O w j rb s) :
  MK M9 79 [nP rb,.pointer (some ⟨rb,6,none⟩),.pointer (some ⟨rb,10,none⟩)] w fun _ w'=>∃O' lv pos bad e,M0 (fun k=>k=j\/k=ji) O w O' w'/\N8 B O' w'/\P8 O' w' j rb {s with pos:=pos,bad:=bad,e:=e,ig:=lv,i:=true}/\Kj m w' O' ji lv bad e (dt r0):=by
 have a0:¬(fun q:Nat=>q=j\/q=ji) 0:=fun e=>by rcases e with e|e;exact hj e.symm;exact a8 e.symm
 have h1:r0.length<=m:=by have:=hr.length_le;simp at this;omega
 have q0:=h.q10;rw[g1]at q0;refine ix PK Pr rfl rfl ?_;refine zg ?_;refine zvG (RV.ld q0 rfl) ?_;refine zFG rfl rfl ?_;refine ak (j:=10) h rfl (P6 _) rfl rfl rfl rfl ?_;have g4:P8 O (w.setCell ⟨rb,10,none⟩ (.bool true)) j rb {s with i:=true}:=PP h 10 _;have f6:M0 (fun k=>k=j) O w O (w.setCell ⟨rb,10,none⟩ (.bool true)):=M1 (fun e=>hj e.symm) h.tag rfl;have g7:=hR.upd f6;generalize w.setCell ⟨rb,10,none⟩ (.bool true)=w1 at *;obtain⟨M,d1⟩:∃M,M=fQ (r0.length+1) [] r0:=⟨_,rfl⟩
 refine zg ?_;refine zlp (fun y:Nat×List Int×List UInt8×(Nat->Nat)×World×L4=>[(0,nP rb),(1,.pointer (some ⟨rb,6,none⟩))]) (fun y=>y.2.2.2.2.1) (fun y=>P8 y.2.2.2.1 y.2.2.2.2.1 j rb {s with pos:=(m:Int)-(y.2.2.1.length:Int),ig:=y.2.2.2.2.2,i:=true}/\NI encI 3 1 y.2.2.2.1 y.2.2.2.2.1 ji y.2.2.2.2.2 y.2.1/\y.2.2.1 <:+ s.l.take m/\fQ y.1 y.2.1 y.2.2.1=M/\y.2.2.1.length<y.1/\y.2.1.length+y.2.2.1.length<=r0.length/\M0 (fun k=>k=j\/k=ji) O w y.2.2.2.1 y.2.2.2.2.1/\N8 B y.2.2.2.1 y.2.2.2.2.1) (fun y=>y.1) (r0.length+1,[],r0,O,w1,tE) (⟨by dsimp only;rw[<-hp,<-g2];exact g4,MG _ _ _ _ _ _,hr,d1.symm,Pj _,by simp,f6.mono (fun _ h=>.inl h) a0,g7⟩) ?_
 rintro⟨n,d5,r,O1,w2,lv⟩ ⟨f4,b1,b2,a4,hn,g5,f5,f7⟩;dsimp only at f4 b1 b2 a4 hn g5 f5 f7 ⊢;obtain⟨n,rfl⟩:∃q,n=q+1:=⟨n-1,by omega⟩
 have g':=dL r;unfold fQ at a4;refine zg ?_;refine zc P7 (ej O1 w2 j rb ({s with pos:=(m:Int)-((r).length:Int),ig:=lv,i:=true}:LS) m r hj hm hl d6 b2 rfl f4) ?_;rintro v w3 ⟨rfl,b6,e6⟩;have a3:=b1.upd e6 a8 (fun e=>a9 e.symm);have f3:=f7.upd e6;have b9:=f5.trans (e6.mono (fun _ h=>.inl h) a0);refine zg ?_
 by_cases h0:(aw r).length=0
 ·rw[if_pos h0]at a4;refine aI rfl ((decide_eq_false zo)) ?_;have f9:=b6.q6;have d7:=a3.sl;refine zg ?_;refine zv (RV.ld f9 rfl) ?_;refine zvG (NO (by first|exact d7) MS rfl) ?_
  rcases d5 with _|⟨a,d5⟩
  ·have hM:dt r0=.bad 0 4:=by unfold dt;rw[<-d1,<-a4];rfl
   rw[hM];refine aP rfl rfl ?_;have d':=b6.q2;dsimp only at d';rw[d6]at d';have hb3d:=b6.drew;have hrow3d:=a3.drew;have hR3d:=f3.drew;have hUt3d:=b9.drew;refine MH 8 rfl rfl zk zk ?_;refine zg ?_;refine zw (RV.ld d' rfl) ?_;refine Nb ?_;refine zc MF (bU O1 w3.drew j rb ({s with pos:=(m:Int)-((aw r).length:Int),ig:=lv,i:=true}:LS) (m:Int) 4 hj he hb3d) ?_;rintro u w7 ⟨b',c5⟩;have a2:=hrow3d.upd c5 a8 (fun e=>a9 e.symm);have e9:=hR3d.upd c5;have e3:=hUt3d.trans (c5.mono (fun _ h=>.inl h) a0);have d9:=PZ b';refine zg ?_;refine zv (RV.ld d9 rfl) ?_;refine zc Pu (kB e9 a2 a8 zo) ?_;rintro u w8 ⟨a6,a',e8⟩;have b5:=L2 b' a' hj a9;have d8:=b5.q6;refine zg ?_;refine zv (RV.ld d8 rfl) ?_;refine zc Ps (fh e8 a6 a8 (by rw[ez];omega)) ?_;rintro u w9 ⟨a1,c',e7⟩;have b4:=b5.upd c' hj a9;have a7:=a1.one;refine zg ?_;refine ak (j:=6) b4 rfl (Nq _) a7 rfl rfl rfl ?_;have b7:=b4.set 6 u;have a5:M0 (fun k=>k=j) O1 w9 O1 (w9.setCell ⟨rb,6,none⟩ u):=M1 (fun e=>hj e.symm) b4.tag rfl;have e1:=((e3.trans (a'.mono (fun _ h=>.inr h) a0)).trans (c'.mono (fun _ h=>.inr h) a0)).trans (a5.mono (fun _ h=>.inl h) a0);refine zg ?_;exact aJ rfl ⟨O1,u,_,(m:Int),4,e1,e7.upd a5,b7,⟨rfl,by decide,by simp⟩⟩
  have hM:dt r0=.ok (NX (gY (a::d5))):=by unfold dt;rw[<-d1,<-a4];rfl
  rw[hM];refine aI rfl ((beq_eq_false_iff_ne.2 (by simp;omega))) ?_;have d9:=PZ b6;refine zg ?_;refine zv (RV.ld d9 rfl) ?_;refine zc Pu (kB f3 a3 a8 zo) ?_;rintro u w8 ⟨a6,a',e8⟩;have b5:=L2 b6 a' hj a9;have d8:=b5.q6;refine zg ?_;refine zv (RV.ld d8 rfl) ?_;refine zc Ps (fh e8 a6 a8 (by rw[ez];omega)) ?_;rintro u w9 ⟨a1,c',e7⟩;have b4:=b5.upd c' hj a9;have a7:=a1.one;refine zg ?_;refine ak (j:=6) b4 rfl (Nq _) a7 rfl rfl rfl ?_;have b7:=b4.set 6 u;have a5:M0 (fun k=>k=j) O1 w9 O1 (w9.setCell ⟨rb,6,none⟩ u):=M1 (fun e=>hj e.symm) b4.tag rfl;have e1:=((b9.trans (a'.mono (fun _ h=>.inr h) a0)).trans (c'.mono (fun _ h=>.inr h) a0)).trans (a5.mono (fun _ h=>.inl h) a0);refine zg ?_;exact aJ rfl ⟨O1,u,_,_,_,e1,e7.upd a5,b7,⟨he,a1.upd a5 a8 (fun e=>a9 e.symm)⟩⟩
 rw[if_neg h0]at a4;refine aP rfl ((decide_eq_true zo)) ?_;have f':=b6.q1;have b0:=(bz r).trans b2;refine zg ?_;refine zvG (RV.ld f' rfl) ?_;refine zc Pm (ia O1 w3 j rb ({s with pos:=(m:Int)-((aw r).length:Int),ig:=lv,i:=true}:LS) m (aw r) hj hm hl d6 b0 rfl b6) ?_;rintro v w4 ⟨rfl,g3,e5⟩;have c7:=a3.upd e5 a8 (fun e=>a9 e.symm);have g6:=f3.upd e5;have e4:=b9.trans (e5.mono (fun _ h=>.inl h) a0);refine zg ?_;refine zc PT (jc ((aw r).takeWhile aj) w4) ?_;rintro v w5 ⟨rfl,g8⟩;have d4:M0 (fun _=>False) O1 w4 O1 w5:=ae (fun h=>h) O1 g8;have d3:=g3.upd d4 hj (fun h=>h);have c6:=c7.upd d4 a8 (fun h=>h);have e':=g6.upd d4;have b8:=e4.trans (d4.mono (fun _ h=>h.elim) a0);refine zg ?_;refine zvG (bN rfl rfl) ?_
 by_cases c9:(aw r).takeWhile aj=[]
 ·rw[if_pos c9]at a4;have hM:dt r0=.bad (aw r).length 4:=by unfold dt;rw[<-d1,<-a4];rfl
  rw[hM];refine zTG rfl ((by simpa using c9)) ?_;refine zc MF (bU O1 w5 j rb ({s with pos:=(m:Int)-(((aw r).dropWhile aj).length:Int),ig:=lv,i:=true}:LS) ((m:Int)-((aw r).length:Int)) 4 hj he d3) ?_;rintro u w6 ⟨e0,d0⟩;refine zg ?_;exact cG rfl ⟨O1,lv,_,_,_,b8.trans (d0.mono (fun _ h=>.inl h) a0),e'.upd d0,e0,rfl,by decide,rfl⟩
 rw[if_neg c9]at a4;have g9:=tL c9;refine zFG rfl ((by simpa using c9)) ?_
 cases b3:lZ ((aw r).takeWhile aj)with
 |none=>
  rw[b3]at a4;have hM:dt r0=.bad (aw r).length 5:=by unfold dt;rw[<-d1,<-a4];rfl
  rw[hM];refine zTG rfl rfl ?_;refine zc MF (bU O1 w5 j rb ({s with pos:=(m:Int)-(((aw r).dropWhile aj).length:Int),ig:=lv,i:=true}:LS) ((m:Int)-((aw r).length:Int)) 5 hj he d3) ?_;rintro u w6 ⟨e0,d0⟩;refine zg ?_;exact cG rfl ⟨O1,lv,_,_,_,b8.trans (d0.mono (fun _ h=>.inl h) a0),e'.upd d0,e0,rfl,by decide,rfl⟩
 |some c=>
  rw[b3]at a4;dsimp only at a4;have g0:GH ((aw r).takeWhile aj)=(c:Int):=by unfold GH;rw[b3]
  rw[g0];refine aI rfl rfl ?_;have f8:=d3.q6;refine zg ?_;refine zvG (RV.ld f8 rfl) ?_;refine Ng Bt c6 e' ((c:Int)) (fun _=>rfl) rfl rfl rfl (by simp[Ma,encI]) zo zo zo zd rfl rfl ?_;intro d2 w7 O7 a2 c5 e9;have c8:=a2.one;have b':=d3.upd c5 hj a9;refine zg ?_;refine ak (j:=6) b' rfl (Nq _) c8 rfl rfl rfl ?_;have b5:=b'.set 6 d2;have a':M0 (fun k=>k=j) O7 w7 O7 (w7.setCell ⟨rb,6,none⟩ d2):=M1 (fun e=>hj e.symm) b'.tag rfl;have e2:=(b8.trans (c5.mono (fun _ h=>.inr h) a0)).trans (a'.mono (fun _ h=>.inl h) a0);refine zg ?_;refine zxd (n,d5++[(c:Int)],(aw r).dropWhile aj,O7,(w7.setCell ⟨rb,6,none⟩ d2),d2) (⟨b5,a2.upd a' a8 (fun e=>a9 e.symm),(L6 _).trans b0,a4,by dsimp only;omega,by simp;omega,e2,e9.upd a'⟩)
theorem uR(B:Nat)(O:Nat->Nat)(w:ln)(j ji rb:Nat)(s:LS)(m:Nat)(r0:List UInt8)(hR:N8 B O w)(hj:j≠0)(a8:ji≠0)(a9:j≠ji)(hm:m<=s.l.length)(hl:s.l.length<=100000)(d6:s.to=(m:Int))(he:s.e=0)(g1:s.k=false)(g2:s.kp=tE)
  (hr:r0 <:+ s.l.take m) (hp:s.pos=(m:Int)-(r0.length:Int)) (h:P8 O w j rb s) :
  MK M9 79 [nP rb,.pointer (some ⟨rb,7,none⟩),.pointer (some ⟨rb,11,none⟩)] w fun _ w'=>∃O' lv pos bad e,M0 (fun k=>k=j\/k=ji) O w O' w'/\N8 B O' w'/\P8 O' w' j rb {s with pos:=pos,bad:=bad,e:=e,kp:=lv,k:=true}/\Kj m w' O' ji lv bad e (dt r0):=by
 have a0:¬(fun q:Nat=>q=j\/q=ji) 0:=fun e=>by rcases e with e|e;exact hj e.symm;exact a8 e.symm
 have h1:r0.length<=m:=by have:=hr.length_le;simp at this;omega
 have q0:=h.q11;rw[g1]at q0;refine ix PK Pr rfl rfl ?_;refine zg ?_;refine zvG (RV.ld q0 rfl) ?_;refine zFG rfl rfl ?_;refine ak (j:=11) h rfl (P6 _) rfl rfl rfl rfl ?_;have g4:P8 O (w.setCell ⟨rb,11,none⟩ (.bool true)) j rb {s with k:=true}:=PP h 11 _;have f6:M0 (fun k=>k=j) O w O (w.setCell ⟨rb,11,none⟩ (.bool true)):=M1 (fun e=>hj e.symm) h.tag rfl;have g7:=hR.upd f6;generalize w.setCell ⟨rb,11,none⟩ (.bool true)=w1 at *;obtain⟨M,d1⟩:∃M,M=fQ (r0.length+1) [] r0:=⟨_,rfl⟩
 refine zg ?_;refine zlp (fun y:Nat×List Int×List UInt8×(Nat->Nat)×World×L4=>[(0,nP rb),(1,.pointer (some ⟨rb,7,none⟩))]) (fun y=>y.2.2.2.2.1) (fun y=>P8 y.2.2.2.1 y.2.2.2.2.1 j rb {s with pos:=(m:Int)-(y.2.2.1.length:Int),kp:=y.2.2.2.2.2,k:=true}/\NI encI 3 1 y.2.2.2.1 y.2.2.2.2.1 ji y.2.2.2.2.2 y.2.1/\y.2.2.1 <:+ s.l.take m/\fQ y.1 y.2.1 y.2.2.1=M/\y.2.2.1.length<y.1/\y.2.1.length+y.2.2.1.length<=r0.length/\M0 (fun k=>k=j\/k=ji) O w y.2.2.2.1 y.2.2.2.2.1/\N8 B y.2.2.2.1 y.2.2.2.2.1) (fun y=>y.1) (r0.length+1,[],r0,O,w1,tE) (⟨by dsimp only;rw[<-hp,<-g2];exact g4,MG _ _ _ _ _ _,hr,d1.symm,Pj _,by simp,f6.mono (fun _ h=>.inl h) a0,g7⟩) ?_
 rintro⟨n,d5,r,O1,w2,lv⟩ ⟨f4,b1,b2,a4,hn,g5,f5,f7⟩;dsimp only at f4 b1 b2 a4 hn g5 f5 f7 ⊢;obtain⟨n,rfl⟩:∃q,n=q+1:=⟨n-1,by omega⟩
 have g':=dL r;unfold fQ at a4;refine zg ?_;refine zc P7 (ej O1 w2 j rb ({s with pos:=(m:Int)-((r).length:Int),kp:=lv,k:=true}:LS) m r hj hm hl d6 b2 rfl f4) ?_;rintro v w3 ⟨rfl,b6,e6⟩;have a3:=b1.upd e6 a8 (fun e=>a9 e.symm);have f3:=f7.upd e6;have b9:=f5.trans (e6.mono (fun _ h=>.inl h) a0);refine zg ?_
 by_cases h0:(aw r).length=0
 ·rw[if_pos h0]at a4;refine aI rfl ((decide_eq_false zo)) ?_;have f9:=b6.q7;have d7:=a3.sl;refine zg ?_;refine zv (RV.ld f9 rfl) ?_;refine zvG (NO (by first|exact d7) MS rfl) ?_
  rcases d5 with _|⟨a,d5⟩
  ·have hM:dt r0=.bad 0 4:=by unfold dt;rw[<-d1,<-a4];rfl
   rw[hM];refine aP rfl rfl ?_;have d':=b6.q2;dsimp only at d';rw[d6]at d';have hb3d:=b6.drew;have hrow3d:=a3.drew;have hR3d:=f3.drew;have hUt3d:=b9.drew;refine MH 8 rfl rfl zk zk ?_;refine zg ?_;refine zw (RV.ld d' rfl) ?_;refine Nb ?_;refine zc MF (bU O1 w3.drew j rb ({s with pos:=(m:Int)-((aw r).length:Int),kp:=lv,k:=true}:LS) (m:Int) 4 hj he hb3d) ?_;rintro u w7 ⟨b',c5⟩;have a2:=hrow3d.upd c5 a8 (fun e=>a9 e.symm);have e9:=hR3d.upd c5;have e3:=hUt3d.trans (c5.mono (fun _ h=>.inl h) a0);have d9:=PY b';refine zg ?_;refine zv (RV.ld d9 rfl) ?_;refine zc Pu (kB e9 a2 a8 zo) ?_;rintro u w8 ⟨a6,a',e8⟩;have b5:=L2 b' a' hj a9;have d8:=b5.q7;refine zg ?_;refine zv (RV.ld d8 rfl) ?_;refine zc Ps (fh e8 a6 a8 (by rw[ez];omega)) ?_;rintro u w9 ⟨a1,c',e7⟩;have b4:=b5.upd c' hj a9;have a7:=a1.one;refine zg ?_;refine ak (j:=7) b4 rfl (Nq _) a7 rfl rfl rfl ?_;have b7:=b4.set 7 u;have a5:M0 (fun k=>k=j) O1 w9 O1 (w9.setCell ⟨rb,7,none⟩ u):=M1 (fun e=>hj e.symm) b4.tag rfl;have e1:=((e3.trans (a'.mono (fun _ h=>.inr h) a0)).trans (c'.mono (fun _ h=>.inr h) a0)).trans (a5.mono (fun _ h=>.inl h) a0);refine zg ?_;exact aJ rfl ⟨O1,u,_,(m:Int),4,e1,e7.upd a5,b7,⟨rfl,by decide,by simp⟩⟩
  have hM:dt r0=.ok (NX (gY (a::d5))):=by unfold dt;rw[<-d1,<-a4];rfl
  rw[hM];refine aI rfl ((beq_eq_false_iff_ne.2 (by simp;omega))) ?_;have d9:=PY b6;refine zg ?_;refine zv (RV.ld d9 rfl) ?_;refine zc Pu (kB f3 a3 a8 zo) ?_;rintro u w8 ⟨a6,a',e8⟩;have b5:=L2 b6 a' hj a9;have d8:=b5.q7;refine zg ?_;refine zv (RV.ld d8 rfl) ?_;refine zc Ps (fh e8 a6 a8 (by rw[ez];omega)) ?_;rintro u w9 ⟨a1,c',e7⟩;have b4:=b5.upd c' hj a9;have a7:=a1.one;refine zg ?_;refine ak (j:=7) b4 rfl (Nq _) a7 rfl rfl rfl ?_;have b7:=b4.set 7 u;have a5:M0 (fun k=>k=j) O1 w9 O1 (w9.setCell ⟨rb,7,none⟩ u):=M1 (fun e=>hj e.symm) b4.tag rfl;have e1:=((b9.trans (a'.mono (fun _ h=>.inr h) a0)).trans (c'.mono (fun _ h=>.inr h) a0)).trans (a5.mono (fun _ h=>.inl h) a0);refine zg ?_;exact aJ rfl ⟨O1,u,_,_,_,e1,e7.upd a5,b7,⟨he,a1.upd a5 a8 (fun e=>a9 e.symm)⟩⟩
 rw[if_neg h0]at a4;refine aP rfl ((decide_eq_true zo)) ?_;have f':=b6.q1;have b0:=(bz r).trans b2;refine zg ?_;refine zvG (RV.ld f' rfl) ?_;refine zc Pm (ia O1 w3 j rb ({s with pos:=(m:Int)-((aw r).length:Int),kp:=lv,k:=true}:LS) m (aw r) hj hm hl d6 b0 rfl b6) ?_;rintro v w4 ⟨rfl,g3,e5⟩;have c7:=a3.upd e5 a8 (fun e=>a9 e.symm);have g6:=f3.upd e5;have e4:=b9.trans (e5.mono (fun _ h=>.inl h) a0);refine zg ?_;refine zc PT (jc ((aw r).takeWhile aj) w4) ?_;rintro v w5 ⟨rfl,g8⟩;have d4:M0 (fun _=>False) O1 w4 O1 w5:=ae (fun h=>h) O1 g8;have d3:=g3.upd d4 hj (fun h=>h);have c6:=c7.upd d4 a8 (fun h=>h);have e':=g6.upd d4;have b8:=e4.trans (d4.mono (fun _ h=>h.elim) a0);refine zg ?_;refine zvG (bN rfl rfl) ?_
 by_cases c9:(aw r).takeWhile aj=[]
 ·rw[if_pos c9]at a4;have hM:dt r0=.bad (aw r).length 4:=by unfold dt;rw[<-d1,<-a4];rfl
  rw[hM];refine zTG rfl ((by simpa using c9)) ?_;refine zc MF (bU O1 w5 j rb ({s with pos:=(m:Int)-(((aw r).dropWhile aj).length:Int),kp:=lv,k:=true}:LS) ((m:Int)-((aw r).length:Int)) 4 hj he d3) ?_;rintro u w6 ⟨e0,d0⟩;refine zg ?_;exact cG rfl ⟨O1,lv,_,_,_,b8.trans (d0.mono (fun _ h=>.inl h) a0),e'.upd d0,e0,rfl,by decide,rfl⟩
 rw[if_neg c9]at a4;have g9:=tL c9;refine zFG rfl ((by simpa using c9)) ?_
 cases b3:lZ ((aw r).takeWhile aj)with
 |none=>
  rw[b3]at a4;have hM:dt r0=.bad (aw r).length 5:=by unfold dt;rw[<-d1,<-a4];rfl
  rw[hM];refine zTG rfl rfl ?_;refine zc MF (bU O1 w5 j rb ({s with pos:=(m:Int)-(((aw r).dropWhile aj).length:Int),kp:=lv,k:=true}:LS) ((m:Int)-((aw r).length:Int)) 5 hj he d3) ?_;rintro u w6 ⟨e0,d0⟩;refine zg ?_;exact cG rfl ⟨O1,lv,_,_,_,b8.trans (d0.mono (fun _ h=>.inl h) a0),e'.upd d0,e0,rfl,by decide,rfl⟩
 |some c=>
  rw[b3]at a4;dsimp only at a4;have g0:GH ((aw r).takeWhile aj)=(c:Int):=by unfold GH;rw[b3]
  rw[g0];refine aI rfl rfl ?_;have f8:=d3.q7;refine zg ?_;refine zvG (RV.ld f8 rfl) ?_;refine Ng Bt c6 e' ((c:Int)) (fun _=>rfl) rfl rfl rfl (by simp[Ma,encI]) zo zo zo zd rfl rfl ?_;intro d2 w7 O7 a2 c5 e9;have c8:=a2.one;have b':=d3.upd c5 hj a9;refine zg ?_;refine ak (j:=7) b' rfl (Nq _) c8 rfl rfl rfl ?_;have b5:=b'.set 7 d2;have a':M0 (fun k=>k=j) O7 w7 O7 (w7.setCell ⟨rb,7,none⟩ d2):=M1 (fun e=>hj e.symm) b'.tag rfl;have e2:=(b8.trans (c5.mono (fun _ h=>.inr h) a0)).trans (a'.mono (fun _ h=>.inl h) a0);refine zg ?_;refine zxd (n,d5++[(c:Int)],(aw r).dropWhile aj,O7,(w7.setCell ⟨rb,7,none⟩ d2),d2) (⟨b5,a2.upd a' a8 (fun e=>a9 e.symm),(L6 _).trans b0,a4,by dsimp only;omega,by simp;omega,e2,e9.upd a'⟩)
structure St where
 ts:List R3
 li:List Int
 lk:List Int
 hi:Bool
 hk:Bool
inductive RS where
 |go (s:St)
 |bad (p:Nat) (e:Int)
 |other
def Kv(st:St)(d:Nat):LM->RS
 |.ok l=>.go {st with li:=l,hi:=true}
 |.bad p e=>.bad (d-p) e
def Ku(st:St)(d:Nat):LM->RS
 |.ok l=>.go {st with lk:=l,hk:=true}
 |.bad p e=>.bad (d-p) e
def Kr(st:St)(d:Nat):LR->RS
 |.ok t=>.go {st with ts:=st.ts++[t]}
 |.bad p e=>.bad (d+p) e
structure Mem(O:Nat->Nat)(w:ln)(jr ji jk:Nat)(s:LS)(st:St):Prop where
 ru:∃xs,NI bP 122 7 O w jr s.ru xs/\st.ts.length=xs.length/\xs.length<=40/\∀i,i<xs.length->Rt O w (nth st.ts i) (nth xs i)
 ig:NI encI 3 1 O w ji s.ig st.li
 kp:NI encI 3 1 O w jk s.kp st.lk
 fi:s.i=st.hi
 fk:s.k=st.hk
 ni:st.hi=false->s.ig=tE
 nk:st.hk=false->s.kp=tE
theorem Mem.upd{S:Nat->Prop}{O O':Nat->Nat}{w w':ln}{jr ji jk:Nat}{s:LS}{st:St}(h:Mem O w jr ji jk s st)(u:M0 S O w O' w')(h1:jr≠0)(h2:ji≠0)(h3:jk≠0)(g1:¬S jr)(g2:¬S ji)(g3:¬S jk):Mem O' w' jr ji jk s st:=by
 obtain⟨⟨xs,a1,a2,a3,a4⟩,b,c,d,e,f,g⟩:=h;exact⟨⟨xs,a1.upd u h1 g1,a2,a3,λi hi=>(a4 i hi).upd u⟩,b.upd u h2 g2,c.upd u h3 g3,d,e,f,g⟩
theorem Mem.with{jr ji jk:Nat}{s s':LS}{st:St}(h:Mem O w jr ji jk s st)(e1:s'.ru=s.ru)(e2:s'.ig=s.ig)(e3:s'.kp=s.kp)(e4:s'.i=s.i)(e5:s'.k=s.k):Mem O w jr ji jk s' st:=by
 obtain⟨a,b,c,d,e,f,g⟩:=h;exact⟨by rw[e1];exact a,by rw[e2];exact b,by rw[e3];exact c,by rw[e4];exact d,by rw[e5];exact e,by rw[e2];exact f,by rw[e3];exact g⟩
section
variable{kn:Kn}
inductive RK where
 |go (kn:Kn) (st:St)
 |bad (p:Nat) (e:Int)
def ml(kn:Kn):RS->RK
 |.go st=>.go kn st
 |.bad p e=>.bad p e
 |.other=>.bad 0 0
def Kb(kn:Kn)(st:St)(d:Nat):ML->RK
 |.ok x=>.go (kn++[x]) st
 |.bad p e=>.bad (d-p) e
def cY(kn:Kn)(st:St)(seg:List UInt8):RK:=
 if(bj seg).length=0 then .go kn st
 else if((bj seg).takeWhile aj==[108,101,116])=true then Kb kn st (bF seg).length (tF kn ((bj seg).dropWhile aj))
 else if((bj seg).takeWhile aj==[105,103,110,111,114,101])=true then
  (if st.hi=true then .bad ((bF seg).length-(bj seg).length) 11 else ml kn (Kv st (bF seg).length (dt ((bj seg).dropWhile aj))))
 else if((bj seg).takeWhile aj==[107,101,101,112])=true then
  (if st.hk=true then .bad ((bF seg).length-(bj seg).length) 11 else ml kn (Ku st (bF seg).length (dt ((bj seg).dropWhile aj))))
 else ml kn (Kr st ((bF seg).length-(bj seg).length) (if st.ts.length=40 then NR 0 3 else gZ kn (bj seg)))
def Ki(B:Nat)(O:Nat->Nat)(w w':ln)(j jr ji jk jm rb:Nat)(s:LS)(fr:Nat)(M:RK):Prop:=
 ∃O' s',M0 (λk=>k=j\/k=jr\/k=ji\/k=jk\/k=jm) O w O' w'/\N8 B O' w'/\P8 O' w' j rb s'/\s'.l=s.l/\
  match M with
  |.go kn' st'=>s'.e=0/\Mem O' w' jr ji jk s' st'/\Mac O' w' jm s'.mc kn'
  |.bad p e=>e≠0/\s'.e=e/\s'.bad=(fr:Int)+(p:Int)
theorem CK{p:Nat}(h:tF kn r=.bad p e):p<=r.length:=by
 have h1:=dL r;have h2:=(L6 (l:=aw r) aj).length_le;have h3:=dL ((aw r).dropWhile aj);unfold tF at h
 split at h
 ·cases h;omega
 split at h
 ·cases h;omega
 split at h
 ·cases hx:fM kn (aw ((aw r).dropWhile aj)).tail with
  |ok t=>rw[hx]at h;cases h
  |bad q f=>rw[hx]at h;cases h;omega
 cases h;omega
theorem uz(B:Nat)(O:Nat->Nat)(w:ln)(j jr ji jk jm rb:Nat)(s:LS)(fr to:Nat)(seg:List UInt8)(st:St)(hR:N8 B O w)(hj:j≠0)(b7:jr≠0)(b9:ji≠0)(b8:jk≠0)(d0:j≠jr)(c':j≠ji)(c9:j≠jk)(h5:jr≠ji)(h4:jr≠jk)(h3:ji≠jk)(b3:jm≠0)(c6:j≠jm)(g3:jr≠jm)(g':ji≠jm)(e7:jk≠jm)(g5:kn.length<=100000)(j0:fr<=to)(i9:to<=s.l.length)(d4:s.l.length<=100000)(he:s.e=0) 
  (f9:(s.l.take to).drop fr=seg) (h':Mem O w jr ji jk s st) (i1:Mac O w jm s.mc kn) (h:P8 O w j rb s) :
  MK M9 45 [nP rb,nI fr,nI to] w λ_ w'=>Ki B O w w' j jr ji jk jm rb s fr (cY kn st seg):=by
 have b':¬(λq:Nat=>q=j\/q=jr\/q=ji\/q=jk\/q=jm) 0:=λe=>by rcases e with e|e|e|e|e;exact hj e.symm;exact b7 e.symm;exact b9 e.symm;exact b8 e.symm;exact b3 e.symm
 have h7:¬(λq:Nat=>q=j) 0:=λe=>hj e.symm
 have i':seg.length=to-fr:=by rw[<-f9];simp;omega
 have j8:(bj seg).length<=(bF seg).length:=dL _;have j9:(bF seg).length<=seg.length:=(MD (l:=seg) _).length_le;obtain⟨m,i0⟩:∃m,m=fr+(bF seg).length:=⟨_,rfl⟩
 have d3:m<=s.l.length:=zo;have g7:(s.l.take m).drop fr=bF seg:=by
  have h1:bF seg=seg.take (bF seg).length:=List.prefix_iff_eq_take.1 (MD _);have h2:(seg.take (bF seg).length)=(s.l.take m).drop fr:=by
   conv=>lhs;arg 2;rw[<-f9]
   rw[List.take_drop,List.take_take,Nat.min_eq_left zo,i0]
  rw[<-h2,<-h1]
 have d5:bF seg <:+ s.l.take m:=by rw[<-g7];exact List.drop_suffix _ _
 have b1:bj seg <:+ s.l.take m:=(bz _).trans d5;have f6:(fr:Int)=(m:Int)-((bF seg).length:Int):=zo;have g6:(m:Int)-((aw (bF seg)).length:Int)=((m-(bj seg).length:Nat):Int):=by
  have:(aw (bF seg)).length=(bj seg).length:=rfl;omega
 apply ix func45 ntmps45 rfl rfl;refine zh ?_
 apply ak (j:=1) h rfl (MX _) rfl rfl rfl rfl;have i4:=h.s_pos (fr:Int);have j4:M0 (λk=>k=j) O w O (w.setCell ⟨rb,1,none⟩ (nI (fr:Int))):=M1 h7 h.tag rfl;refine zh ?_
 apply ak (j:=2) i4 rfl (MX _) rfl rfl rfl rfl;have g8:=i4.s_to (to:Int);have j3:M0 (λk=>k=j) O (w.setCell ⟨rb,1,none⟩ (nI (fr:Int))) O ((w.setCell ⟨rb,1,none⟩ (nI (fr:Int))).setCell ⟨rb,2,none⟩ (nI (to:Int))):=M1 h7 i4.tag rfl;have e6:=j4.trans j3;have f7:=h'.upd e6 b7 b9 b8 (λe=>d0 e.symm) (λe=>c' e.symm) (λe=>c9 e.symm);have f8:=i1.upd e6 b3 (λe=>c6 e.symm);have i8:=hR.upd e6;generalize (w.setCell ⟨rb,1,none⟩ (nI (fr:Int))).setCell ⟨rb,2,none⟩ (nI (to:Int))=w2 at *;refine zh ?_
 refine zvH (RV.ld g8.q0 rfl) ?_;apply zv (cf L8 rfl rfl rfl fr to rfl rfl j0 i9)
 rw[show({s with pos:=(fr:Int),to:=(to:Int)}:LS).l=s.l from rfl,f9];apply zc call44 (dW seg 35 w2);rintro v w9 ⟨rfl,i7⟩;rw[i7];clear i7 w9
 cases hf:seg.findIdx? (· == 35)with
 |none=>
  have hi:tG seg 35 = -1:=by unfold tG;rw[hf]
  have i2:=Bf hf;rw[hi];obtain rfl:m=to:=by rw[i0,i2,i'];omega
  refine zh ?_;apply aI rfl rfl
  have d':=f7;have e2:=f8;have i6:=i8;have g1:=e6.mono (S':=λk=>k=j\/k=jr\/k=ji\/k=jk\/k=jm) (λ_ h=>.inl h) b';refine zh ?_;apply zc P7 (ej O w2 j rb ({s with pos:=(fr:Int),to:=(m:Int)}:LS) m (bF seg) hj d3 d4 rfl d5 f6 g8);rintro v w4 ⟨rfl,e4,f4⟩;have c7:=d'.upd f4 b7 b9 b8 (λe=>d0 e.symm) (λe=>c' e.symm) (λe=>c9 e.symm);have c8:=e2.upd f4 b3 (λe=>c6 e.symm);have g9:=i6.upd f4;have e5:=g1.trans (f4.mono (λ_ h=>.inl h) b');refine zh ?_
  by_cases h0:(bj seg).length=0
  ·have hM:cY kn st seg=.go kn st:=by unfold cY;rw[if_pos h0]
   rw[hM];refine zTH rfl ((by have d2:(aw (bF seg)).length=0:=h0;simp[d2])) ?_;exact cG rfl ⟨O,_,e5,g9,e4,rfl,he,c7.with rfl rfl rfl rfl rfl,c8⟩
  have d2:(aw (bF seg)).length=(bj seg).length:=rfl;refine zFH rfl ((by rw[d2,decide_eq_true zo];rfl)) ?_;refine zvH (RV.ld e4.q1 rfl) ?_;apply ak (j:=3) e4 rfl (MX _) rfl rfl rfl rfl;have i3:=e4.s_bg ((m:Int)-((aw (bF seg)).length:Int));have f3:M0 (λk=>k=j) O w4 O (w4.setCell ⟨rb,3,none⟩ (nI ((m:Int)-((aw (bF seg)).length:Int)))):=M1 (λe=>hj e.symm) e4.tag rfl;have d9:=c7.upd f3 b7 b9 b8 (λe=>d0 e.symm) (λe=>c' e.symm) (λe=>c9 e.symm);have e1:=c8.upd f3 b3 (λe=>c6 e.symm);have i5:=g9.upd f3;have g0:=e5.trans (f3.mono (λ_ h=>.inl h) b');generalize w4.setCell ⟨rb,3,none⟩ (nI ((m:Int)-((aw (bF seg)).length:Int)))=w5 at *;refine zh ?_;apply zc Pm (ia O w5 j rb ({s with pos:=((m:Int)-((aw (bF seg)).length:Int)),to:=(m:Int),bg:=((m:Int)-((aw (bF seg)).length:Int))}:LS) m (bj seg) hj d3 d4 rfl b1 rfl i3);rintro v w6 ⟨rfl,e8,e9⟩;have a8:=d9.upd e9 b7 b9 b8 (λe=>d0 e.symm) (λe=>c' e.symm) (λe=>c9 e.symm);have a9:=e1.upd e9 b3 (λe=>c6 e.symm);have f5:=i5.upd e9;have c5:=g0.trans (e9.mono (λ_ h=>.inl h) b');have j1:=(L6 (l:=bj seg) aj).length_le;refine zh ?_;refine zvH (bN rfl rfl) ?_
  cases d1:((bj seg).takeWhile aj==[108,101,116])with
  |true=>
   have hM:cY kn st seg=Kb kn st (bF seg).length (tF kn ((bj seg).dropWhile aj)):=by unfold cY;rw[if_neg h0,if_pos d1]
   rw[hM];refine zTH rfl rfl ?_;apply zc call78 (CJ B O w6 j jm rb ({s with pos:=(m:Int)-(((bj seg).dropWhile aj).length:Int),to:=(m:Int),bg:=((m:Int)-((aw (bF seg)).length:Int))}:LS) m ((bj seg).dropWhile aj) f5 hj b3 c6 d3 d4 rfl he ((L6 _).trans b1) rfl g5 a9 e8);rintro u w7 ⟨O7,v7,pos,bad,e,a0,b6,b0,a6⟩;have a5:=c5.trans (a0.mono (S':=λk=>k=j\/k=jr\/k=ji\/k=jk\/k=jm) (λ_ h=>by rcases h with h|h;exact .inl h;exact .inr (.inr (.inr (.inr h)))) b');have d8:=a8.upd a0 b7 b9 b8 (λh=>by rcases h with h|h;exact d0 h.symm;exact g3 h) (λh=>by rcases h with h|h;exact c' h.symm;exact g' h) (λh=>by rcases h with h|h;exact c9 h.symm;exact e7 h);refine zh ?_
   cases hq:tF kn ((bj seg).dropWhile aj)with
   |ok x=>
    rw[hq]at a6;obtain⟨b5,e0⟩:=a6;exact aJ rfl ⟨O7,_,a5,b6,b0,rfl,b5,d8.with rfl rfl rfl rfl rfl,e0⟩
   |bad p e'=>
    rw[hq]at a6;obtain⟨b5,b2,a'⟩:=a6;have d7:=CK hq;exact aJ rfl ⟨O7,_,a5,b6,b0,rfl,b2,b5,by dsimp only;rw[a'];omega⟩
  |false=>
  refine zFH rfl rfl ?_;refine zvH (bN rfl rfl) ?_
  cases e3:((bj seg).takeWhile aj==[105,103,110,111,114,101])with
  |true=>
   apply aP rfl rfl;have hb6d:=e8.drew;have hmem6d:=a8.upd (ae (S:=λ_=>False) (λh=>h) O (LY w6).drew) b7 b9 b8 (λh=>h) (λh=>h) (λh=>h);have hmac6d:=a9.upd (ae (S:=λ_=>False) (λh=>h) O (LY w6).drew) b3 (λh=>h);have hR6d:=f5.drew;have hUt6d:=c5.drew;apply MH 8 rfl rfl zk zk
   refine zh ?_;apply Nb
   cases b4:st.hi with
   |true=>
    have hM:cY kn st seg=.bad ((bF seg).length-(bj seg).length) 11:=by unfold cY;rw[if_neg h0,if_neg (by rw[d1];decide),if_pos e3,if_pos b4]
    rw[hM];apply zc Ny (qK O w6.drew j rb ({s with pos:=(m:Int)-(((bj seg).dropWhile aj).length:Int),to:=(m:Int),bg:=((m:Int)-((aw (bF seg)).length:Int))}:LS) hj he (hmem6d.fi.trans b4) hb6d);rintro u w7 ⟨b0,a0⟩;refine zh ?_;exact aJ rfl ⟨O,_,hUt6d.trans (a0.mono (λ_ h=>.inl h) b'),hR6d.upd a0,b0,rfl,zd,rfl,by dsimp only;rw[d2];omega⟩
   |false=>
    have hM:cY kn st seg=ml kn (Kv st (bF seg).length (dt ((bj seg).dropWhile aj))):=by unfold cY;rw[if_neg h0,if_neg (by rw[d1];decide),if_pos e3,if_neg (by rw[b4];decide)]
    rw[hM];apply zc Ny (uS B O w6.drew j ji rb ({s with pos:=(m:Int)-(((bj seg).dropWhile aj).length:Int),to:=(m:Int),bg:=((m:Int)-((aw (bF seg)).length:Int))}:LS) m ((bj seg).dropWhile aj) hR6d hj b9 c' d3 d4 rfl he (hmem6d.fi.trans b4) (hmem6d.ni b4) ((L6 _).trans b1) rfl hb6d);rintro u w7 ⟨O7,lv,pos,bad,e,a0,b6,b0,a6⟩;have a5:=hUt6d.trans (a0.mono (S':=λk=>k=j\/k=jr\/k=ji\/k=jk\/k=jm) (λ_ h=>by rcases h with h|h;exact .inl h;exact .inr (.inr (.inl h))) b');refine zh ?_
    cases hq:dt ((bj seg).dropWhile aj)with
    |ok l=>
     rw[hq]at a6;obtain⟨b5,a7⟩:=a6;obtain⟨⟨xs,a1,a2,a3,a4⟩,mb,mc,md,me,mf,mg⟩:=hmem6d;exact aJ rfl ⟨O7,_,a5,b6,b0,rfl,b5,⟨⟨xs,a1.upd a0 b7 (λh=>by rcases h with h|h;exact d0 h.symm;exact h5 h),a2,a3,λi hi=>(a4 i hi).upd a0⟩,a7,mc.upd a0 b8 (λh=>by rcases h with h|h;exact c9 h.symm;exact h3 h.symm),rfl,me,(λh=>by cases h),mg⟩,hmac6d.upd a0 b3 (λh=>by rcases h with h|h;exact c6 h.symm;exact g' h.symm)⟩
    |bad p e'=>
     rw[hq]at a6;obtain⟨b5,b2,a'⟩:=a6;have d7:=nM hq;exact aJ rfl ⟨O7,_,a5,b6,b0,rfl,b2,b5,by dsimp only;rw[a'];omega⟩
  |false=>
   refine zFH rfl rfl ?_;refine zvH (bN rfl rfl) ?_
   cases f':((bj seg).takeWhile aj==[107,101,101,112])with
   |true=>
    apply aP rfl rfl;have hb6d:=e8.drew;have hmem6d:=a8.upd (ae (S:=λ_=>False) (λh=>h) O (LY w6).drew) b7 b9 b8 (λh=>h) (λh=>h) (λh=>h);have hmac6d:=a9.upd (ae (S:=λ_=>False) (λh=>h) O (LY w6).drew) b3 (λh=>h);have hR6d:=f5.drew;have hUt6d:=c5.drew;apply MH 8 rfl rfl zk zk
    refine zh ?_;apply Nb
    cases b4:st.hk with
    |true=>
     have hM:cY kn st seg=.bad ((bF seg).length-(bj seg).length) 11:=by unfold cY;rw[if_neg h0,if_neg (by rw[d1];decide),if_neg (by rw[e3];decide),if_pos f',if_pos b4]
     rw[hM];apply zc Ny (qJ O w6.drew j rb ({s with pos:=(m:Int)-(((bj seg).dropWhile aj).length:Int),to:=(m:Int),bg:=((m:Int)-((aw (bF seg)).length:Int))}:LS) hj he (hmem6d.fk.trans b4) hb6d);rintro u w7 ⟨b0,a0⟩;refine zh ?_;exact aJ rfl ⟨O,_,hUt6d.trans (a0.mono (λ_ h=>.inl h) b'),hR6d.upd a0,b0,rfl,zd,rfl,by dsimp only;rw[d2];omega⟩
    |false=>
     have hM:cY kn st seg=ml kn (Ku st (bF seg).length (dt ((bj seg).dropWhile aj))):=by unfold cY;rw[if_neg h0,if_neg (by rw[d1];decide),if_neg (by rw[e3];decide),if_pos f',if_neg (by rw[b4];decide)]
     rw[hM];apply zc Ny (uR B O w6.drew j jk rb ({s with pos:=(m:Int)-(((bj seg).dropWhile aj).length:Int),to:=(m:Int),bg:=((m:Int)-((aw (bF seg)).length:Int))}:LS) m ((bj seg).dropWhile aj) hR6d hj b8 c9 d3 d4 rfl he (hmem6d.fk.trans b4) (hmem6d.nk b4) ((L6 _).trans b1) rfl hb6d);rintro u w7 ⟨O7,lv,pos,bad,e,a0,b6,b0,a6⟩;have a5:=hUt6d.trans (a0.mono (S':=λk=>k=j\/k=jr\/k=ji\/k=jk\/k=jm) (λ_ h=>by rcases h with h|h;exact .inl h;exact .inr (.inr (.inr (.inl h)))) b');refine zh ?_
     cases hq:dt ((bj seg).dropWhile aj)with
     |ok l=>
      rw[hq]at a6;obtain⟨b5,a7⟩:=a6;obtain⟨⟨xs,a1,a2,a3,a4⟩,mb,mc,md,me,mf,mg⟩:=hmem6d;exact aJ rfl ⟨O7,_,a5,b6,b0,rfl,b5,⟨⟨xs,a1.upd a0 b7 (λh=>by rcases h with h|h;exact d0 h.symm;exact h4 h),a2,a3,λi hi=>(a4 i hi).upd a0⟩,mb.upd a0 b9 (λh=>by rcases h with h|h;exact c' h.symm;exact h3 h),a7,md,rfl,mf,(λh=>by cases h)⟩,hmac6d.upd a0 b3 (λh=>by rcases h with h|h;exact c6 h.symm;exact e7 h.symm)⟩
     |bad p e'=>
      rw[hq]at a6;obtain⟨b5,b2,a'⟩:=a6;have d7:=nM hq;exact aJ rfl ⟨O7,_,a5,b6,b0,rfl,b2,b5,by dsimp only;rw[a'];omega⟩
   |false=>
    have hM:cY kn st seg=ml kn (Kr st ((bF seg).length-(bj seg).length) (if st.ts.length=40 then NR 0 3 else gZ kn (bj seg))):=by unfold cY;rw[if_neg h0,if_neg (by rw[d1];decide),if_neg (by rw[e3];decide),if_neg (by rw[f'];decide)]
    apply aI rfl rfl;obtain⟨xs,d6,g4,h9,h8⟩:=a8.ru;refine zh ?_
    apply zc call80 (uq B O w6 j jr rb ({s with pos:=(m:Int)-(((bj seg).dropWhile aj).length:Int),to:=(m:Int),bg:=((m:Int)-((aw (bF seg)).length:Int))}:LS) m (bj seg) xs f5 hj b7 d0 d3 d4 rfl g6 he b3 c6 g3 a9 b1 d6 h9 e8);rintro v w7 ⟨O7,rv,a0,b6,a6⟩;have a5:=c5.trans (a0.mono (S':=λk=>k=j\/k=jr\/k=ji\/k=jk\/k=jm) (λ_ h=>by rcases h with h|h;exact .inl h;exact .inr (.inl h)) b');refine zh ?_
    rw[hM,g4]
    cases hq:(if xs.length=40 then NR 0 3 else gZ kn (bj seg))with
    |ok t=>
     rw[hq]at a6;obtain⟨x,a7,g2,b0⟩:=a6;have j5:xs.length≠40:=λe=>by rw[if_pos e]at hq;cases hq
     obtain⟨_,mb,mc,md,me,mf,mg⟩:=a8;obtain⟨q1,q2,q3,q4⟩:=PC (ts:=st.ts) a7 g4 zo (λi hi=>(h8 i hi).upd a0) g2;exact aJ rfl ⟨O7,_,a5,b6,b0,rfl,he,⟨⟨xs++[x],q1,q2,q3,q4⟩,mb.upd a0 b9 (λh=>by rcases h with h|h;exact c' h.symm;exact h5 h.symm),mc.upd a0 b8 (λh=>by rcases h with h|h;exact c9 h.symm;exact h4 h.symm),md,me,mf,mg⟩,a9.upd a0 b3 (λh=>by rcases h with h|h;exact c6 h.symm;exact g3 h.symm)⟩
    |bad p e=>
     rw[hq]at a6;obtain⟨b2,b0⟩:=a6;exact aJ rfl ⟨O7,_,a5,b6,b0,rfl,b2,rfl,by dsimp only;rw[d2];omega⟩
 |some k=>
  have hi:tG seg 35=(k:Nat):=by unfold tG;rw[hf]
  obtain⟨i2,j7⟩:=Be hf;rw[hi];have j6:m=fr+k:=by rw[i0,i2];simp;omega
  refine zh ?_;refine zTH rfl ((decide_eq_true zo)) ?_
  apply ak (j:=2) g8 rfl (MX _) rfl rfl rfl rfl;rw[show(fr:Int)+((k:Nat):Int)=(m:Int)from by omega];have j2:=g8.s_to (m:Int);have h6:M0 (λk=>k=j) O w2 O (w2.setCell ⟨rb,2,none⟩ (nI (m:Int))):=M1 h7 g8.tag rfl;have d':=f7.upd h6 b7 b9 b8 (λe=>d0 e.symm) (λe=>c' e.symm) (λe=>c9 e.symm);have e2:=f8.upd h6 b3 (λe=>c6 e.symm);have i6:=i8.upd h6;have g1:=(e6.trans h6).mono (S':=λk=>k=j\/k=jr\/k=ji\/k=jk\/k=jm) (λ_ h=>.inl h) b';generalize w2.setCell ⟨rb,2,none⟩ (nI (m:Int))=w3 at *;refine zh ?_
  apply zc P7 (ej O w3 j rb ({s with pos:=(fr:Int),to:=(m:Int)}:LS) m (bF seg) hj d3 d4 rfl d5 f6 j2);rintro v w4 ⟨rfl,e4,f4⟩;have c7:=d'.upd f4 b7 b9 b8 (λe=>d0 e.symm) (λe=>c' e.symm) (λe=>c9 e.symm);have c8:=e2.upd f4 b3 (λe=>c6 e.symm);have g9:=i6.upd f4;have e5:=g1.trans (f4.mono (λ_ h=>.inl h) b');refine zh ?_
  by_cases h0:(bj seg).length=0
  ·have hM:cY kn st seg=.go kn st:=by unfold cY;rw[if_pos h0]
   rw[hM];refine zTH rfl ((by have d2:(aw (bF seg)).length=0:=h0;simp[d2])) ?_;exact cG rfl ⟨O,_,e5,g9,e4,rfl,he,c7.with rfl rfl rfl rfl rfl,c8⟩
  have d2:(aw (bF seg)).length=(bj seg).length:=rfl;refine zFH rfl ((by rw[d2,decide_eq_true zo];rfl)) ?_;refine zvH (RV.ld e4.q1 rfl) ?_;apply ak (j:=3) e4 rfl (MX _) rfl rfl rfl rfl;have i3:=e4.s_bg ((m:Int)-((aw (bF seg)).length:Int));have f3:M0 (λk=>k=j) O w4 O (w4.setCell ⟨rb,3,none⟩ (nI ((m:Int)-((aw (bF seg)).length:Int)))):=M1 (λe=>hj e.symm) e4.tag rfl;have d9:=c7.upd f3 b7 b9 b8 (λe=>d0 e.symm) (λe=>c' e.symm) (λe=>c9 e.symm);have e1:=c8.upd f3 b3 (λe=>c6 e.symm);have i5:=g9.upd f3;have g0:=e5.trans (f3.mono (λ_ h=>.inl h) b');generalize w4.setCell ⟨rb,3,none⟩ (nI ((m:Int)-((aw (bF seg)).length:Int)))=w5 at *;refine zh ?_;apply zc Pm (ia O w5 j rb ({s with pos:=((m:Int)-((aw (bF seg)).length:Int)),to:=(m:Int),bg:=((m:Int)-((aw (bF seg)).length:Int))}:LS) m (bj seg) hj d3 d4 rfl b1 rfl i3);rintro v w6 ⟨rfl,e8,e9⟩;have a8:=d9.upd e9 b7 b9 b8 (λe=>d0 e.symm) (λe=>c' e.symm) (λe=>c9 e.symm);have a9:=e1.upd e9 b3 (λe=>c6 e.symm);have f5:=i5.upd e9;have c5:=g0.trans (e9.mono (λ_ h=>.inl h) b');have j1:=(L6 (l:=bj seg) aj).length_le;refine zh ?_;refine zvH (bN rfl rfl) ?_
  cases d1:((bj seg).takeWhile aj==[108,101,116])with
  |true=>
   have hM:cY kn st seg=Kb kn st (bF seg).length (tF kn ((bj seg).dropWhile aj)):=by unfold cY;rw[if_neg h0,if_pos d1]
   rw[hM];refine zTH rfl rfl ?_;apply zc call78 (CJ B O w6 j jm rb ({s with pos:=(m:Int)-(((bj seg).dropWhile aj).length:Int),to:=(m:Int),bg:=((m:Int)-((aw (bF seg)).length:Int))}:LS) m ((bj seg).dropWhile aj) f5 hj b3 c6 d3 d4 rfl he ((L6 _).trans b1) rfl g5 a9 e8);rintro u w7 ⟨O7,v7,pos,bad,e,a0,b6,b0,a6⟩;have a5:=c5.trans (a0.mono (S':=λk=>k=j\/k=jr\/k=ji\/k=jk\/k=jm) (λ_ h=>by rcases h with h|h;exact .inl h;exact .inr (.inr (.inr (.inr h)))) b');have d8:=a8.upd a0 b7 b9 b8 (λh=>by rcases h with h|h;exact d0 h.symm;exact g3 h) (λh=>by rcases h with h|h;exact c' h.symm;exact g' h) (λh=>by rcases h with h|h;exact c9 h.symm;exact e7 h);refine zh ?_
   cases hq:tF kn ((bj seg).dropWhile aj)with
   |ok x=>
    rw[hq]at a6;obtain⟨b5,e0⟩:=a6;exact aJ rfl ⟨O7,_,a5,b6,b0,rfl,b5,d8.with rfl rfl rfl rfl rfl,e0⟩
   |bad p e'=>
    rw[hq]at a6;obtain⟨b5,b2,a'⟩:=a6;have d7:=CK hq;exact aJ rfl ⟨O7,_,a5,b6,b0,rfl,b2,b5,by dsimp only;rw[a'];omega⟩
  |false=>
  refine zFH rfl rfl ?_;refine zvH (bN rfl rfl) ?_
  cases e3:((bj seg).takeWhile aj==[105,103,110,111,114,101])with
  |true=>
   apply aP rfl rfl;have hb6d:=e8.drew;have hmem6d:=a8.upd (ae (S:=λ_=>False) (λh=>h) O (LY w6).drew) b7 b9 b8 (λh=>h) (λh=>h) (λh=>h);have hmac6d:=a9.upd (ae (S:=λ_=>False) (λh=>h) O (LY w6).drew) b3 (λh=>h);have hR6d:=f5.drew;have hUt6d:=c5.drew;apply MH 8 rfl rfl zk zk
   refine zh ?_;apply Nb
   cases b4:st.hi with
   |true=>
    have hM:cY kn st seg=.bad ((bF seg).length-(bj seg).length) 11:=by unfold cY;rw[if_neg h0,if_neg (by rw[d1];decide),if_pos e3,if_pos b4]
    rw[hM];apply zc Ny (qK O w6.drew j rb ({s with pos:=(m:Int)-(((bj seg).dropWhile aj).length:Int),to:=(m:Int),bg:=((m:Int)-((aw (bF seg)).length:Int))}:LS) hj he (hmem6d.fi.trans b4) hb6d);rintro u w7 ⟨b0,a0⟩;refine zh ?_;exact aJ rfl ⟨O,_,hUt6d.trans (a0.mono (λ_ h=>.inl h) b'),hR6d.upd a0,b0,rfl,zd,rfl,by dsimp only;rw[d2];omega⟩
   |false=>
    have hM:cY kn st seg=ml kn (Kv st (bF seg).length (dt ((bj seg).dropWhile aj))):=by unfold cY;rw[if_neg h0,if_neg (by rw[d1];decide),if_pos e3,if_neg (by rw[b4];decide)]
    rw[hM];apply zc Ny (uS B O w6.drew j ji rb ({s with pos:=(m:Int)-(((bj seg).dropWhile aj).length:Int),to:=(m:Int),bg:=((m:Int)-((aw (bF seg)).length:Int))}:LS) m ((bj seg).dropWhile aj) hR6d hj b9 c' d3 d4 rfl he (hmem6d.fi.trans b4) (hmem6d.ni b4) ((L6 _).trans b1) rfl hb6d);rintro u w7 ⟨O7,lv,pos,bad,e,a0,b6,b0,a6⟩;have a5:=hUt6d.trans (a0.mono (S':=λk=>k=j\/k=jr\/k=ji\/k=jk\/k=jm) (λ_ h=>by rcases h with h|h;exact .inl h;exact .inr (.inr (.inl h))) b');refine zh ?_
    cases hq:dt ((bj seg).dropWhile aj)with
    |ok l=>
     rw[hq]at a6;obtain⟨b5,a7⟩:=a6;obtain⟨⟨xs,a1,a2,a3,a4⟩,mb,mc,md,me,mf,mg⟩:=hmem6d;exact aJ rfl ⟨O7,_,a5,b6,b0,rfl,b5,⟨⟨xs,a1.upd a0 b7 (λh=>by rcases h with h|h;exact d0 h.symm;exact h5 h),a2,a3,λi hi=>(a4 i hi).upd a0⟩,a7,mc.upd a0 b8 (λh=>by rcases h with h|h;exact c9 h.symm;exact h3 h.symm),rfl,me,(λh=>by cases h),mg⟩,hmac6d.upd a0 b3 (λh=>by rcases h with h|h;exact c6 h.symm;exact g' h.symm)⟩
    |bad p e'=>
     rw[hq]at a6;obtain⟨b5,b2,a'⟩:=a6;have d7:=nM hq;exact aJ rfl ⟨O7,_,a5,b6,b0,rfl,b2,b5,by dsimp only;rw[a'];omega⟩
  |false=>
   refine zFH rfl rfl ?_;refine zvH (bN rfl rfl) ?_
   cases f':((bj seg).takeWhile aj==[107,101,101,112])with
   |true=>
    apply aP rfl rfl;have hb6d:=e8.drew;have hmem6d:=a8.upd (ae (S:=λ_=>False) (λh=>h) O (LY w6).drew) b7 b9 b8 (λh=>h) (λh=>h) (λh=>h);have hmac6d:=a9.upd (ae (S:=λ_=>False) (λh=>h) O (LY w6).drew) b3 (λh=>h);have hR6d:=f5.drew;have hUt6d:=c5.drew;apply MH 8 rfl rfl zk zk
    refine zh ?_;apply Nb
    cases b4:st.hk with
    |true=>
     have hM:cY kn st seg=.bad ((bF seg).length-(bj seg).length) 11:=by unfold cY;rw[if_neg h0,if_neg (by rw[d1];decide),if_neg (by rw[e3];decide),if_pos f',if_pos b4]
     rw[hM];apply zc Ny (qJ O w6.drew j rb ({s with pos:=(m:Int)-(((bj seg).dropWhile aj).length:Int),to:=(m:Int),bg:=((m:Int)-((aw (bF seg)).length:Int))}:LS) hj he (hmem6d.fk.trans b4) hb6d);rintro u w7 ⟨b0,a0⟩;refine zh ?_;exact aJ rfl ⟨O,_,hUt6d.trans (a0.mono (λ_ h=>.inl h) b'),hR6d.upd a0,b0,rfl,zd,rfl,by dsimp only;rw[d2];omega⟩
    |false=>
     have hM:cY kn st seg=ml kn (Ku st (bF seg).length (dt ((bj seg).dropWhile aj))):=by unfold cY;rw[if_neg h0,if_neg (by rw[d1];decide),if_neg (by rw[e3];decide),if_pos f',if_neg (by rw[b4];decide)]
     rw[hM];apply zc Ny (uR B O w6.drew j jk rb ({s with pos:=(m:Int)-(((bj seg).dropWhile aj).length:Int),to:=(m:Int),bg:=((m:Int)-((aw (bF seg)).length:Int))}:LS) m ((bj seg).dropWhile aj) hR6d hj b8 c9 d3 d4 rfl he (hmem6d.fk.trans b4) (hmem6d.nk b4) ((L6 _).trans b1) rfl hb6d);rintro u w7 ⟨O7,lv,pos,bad,e,a0,b6,b0,a6⟩;have a5:=hUt6d.trans (a0.mono (S':=λk=>k=j\/k=jr\/k=ji\/k=jk\/k=jm) (λ_ h=>by rcases h with h|h;exact .inl h;exact .inr (.inr (.inr (.inl h)))) b');refine zh ?_
     cases hq:dt ((bj seg).dropWhile aj)with
     |ok l=>
      rw[hq]at a6;obtain⟨b5,a7⟩:=a6;obtain⟨⟨xs,a1,a2,a3,a4⟩,mb,mc,md,me,mf,mg⟩:=hmem6d;exact aJ rfl ⟨O7,_,a5,b6,b0,rfl,b5,⟨⟨xs,a1.upd a0 b7 (λh=>by rcases h with h|h;exact d0 h.symm;exact h4 h),a2,a3,λi hi=>(a4 i hi).upd a0⟩,mb.upd a0 b9 (λh=>by rcases h with h|h;exact c' h.symm;exact h3 h),a7,md,rfl,mf,(λh=>by cases h)⟩,hmac6d.upd a0 b3 (λh=>by rcases h with h|h;exact c6 h.symm;exact e7 h.symm)⟩
     |bad p e'=>
      rw[hq]at a6;obtain⟨b5,b2,a'⟩:=a6;have d7:=nM hq;exact aJ rfl ⟨O7,_,a5,b6,b0,rfl,b2,b5,by dsimp only;rw[a'];omega⟩
   |false=>
    have hM:cY kn st seg=ml kn (Kr st ((bF seg).length-(bj seg).length) (if st.ts.length=40 then NR 0 3 else gZ kn (bj seg))):=by unfold cY;rw[if_neg h0,if_neg (by rw[d1];decide),if_neg (by rw[e3];decide),if_neg (by rw[f'];decide)]
    apply aI rfl rfl;obtain⟨xs,d6,g4,h9,h8⟩:=a8.ru;refine zh ?_
    apply zc call80 (uq B O w6 j jr rb ({s with pos:=(m:Int)-(((bj seg).dropWhile aj).length:Int),to:=(m:Int),bg:=((m:Int)-((aw (bF seg)).length:Int))}:LS) m (bj seg) xs f5 hj b7 d0 d3 d4 rfl g6 he b3 c6 g3 a9 b1 d6 h9 e8);rintro v w7 ⟨O7,rv,a0,b6,a6⟩;have a5:=c5.trans (a0.mono (S':=λk=>k=j\/k=jr\/k=ji\/k=jk\/k=jm) (λ_ h=>by rcases h with h|h;exact .inl h;exact .inr (.inl h)) b');refine zh ?_
    rw[hM,g4]
    cases hq:(if xs.length=40 then NR 0 3 else gZ kn (bj seg))with
    |ok t=>
     rw[hq]at a6;obtain⟨x,a7,g2,b0⟩:=a6;have j5:xs.length≠40:=λe=>by rw[if_pos e]at hq;cases hq
     obtain⟨_,mb,mc,md,me,mf,mg⟩:=a8;obtain⟨q1,q2,q3,q4⟩:=PC (ts:=st.ts) a7 g4 zo (λi hi=>(h8 i hi).upd a0) g2;exact aJ rfl ⟨O7,_,a5,b6,b0,rfl,he,⟨⟨xs++[x],q1,q2,q3,q4⟩,mb.upd a0 b9 (λh=>by rcases h with h|h;exact c' h.symm;exact h5 h.symm),mc.upd a0 b8 (λh=>by rcases h with h|h;exact c9 h.symm;exact h4 h.symm),md,me,mf,mg⟩,a9.upd a0 b3 (λh=>by rcases h with h|h;exact c6 h.symm;exact g3 h.symm)⟩
    |bad p e=>
     rw[hq]at a6;obtain⟨b2,b0⟩:=a6;exact aJ rfl ⟨O7,_,a5,b6,b0,rfl,b2,rfl,by dsimp only;rw[d2];omega⟩
end
inductive TK where
 |ok (st:St)
 |bad (p:Nat) (e:Int)
def mP:Nat->Kn->St->Nat->List UInt8->TK
 |0,_,_,_,_=>.bad 0 3
 |n+1,kn,st,fr,r=>
  match cY kn st (dz r)with
  |.bad p e=>.bad (fr+p) e
  |.go kn' st'=>if(dz r).length=r.length then .ok st' else mP n kn' st' (fr+(dz r).length+1) (r.drop ((dz r).length+1))
def st0:St:=⟨[],[],[],false,false⟩
def ij(l:List UInt8):TK:=if 4096<l.length then .bad 0 3 else mP (l.length+1) [] st0 0 l
theorem Ci{kn a0:Kn}{st a1:St}{seg:List UInt8}(h:cY kn st seg=.go a0 a1):a0.length<=kn.length+1:=by
 have hl:∀ {R:RS},ml kn R=.go a0 a1->a0.length<=kn.length+1:=fun {R} h=>by
  cases R with
  |go s=>cases h;omega
  |bad p e=>cases h
  |other=>cases h
 unfold cY at h
 split at h
 ·cases h;omega
 split at h
 ·unfold Kb at h
  split at h
  ·cases h;simp
  cases h
 split at h
 ·split at h
  ·cases h
  exact hl h
 split at h
 ·split at h
  ·cases h
  exact hl h
 exact hl h
def LoopK(l:List UInt8)(M:TK)(O:Nat->Nat)(w:ln)(jr ji jk jm:Nat)(n fr:Nat)(kn:Kn)(st:St)(s:LS):Prop:=
 (fr<=l.length/\s.e=0/\l.length-fr<n/\mP n kn st fr (l.drop fr)=M/\Mem O w jr ji jk s st/\Mac O w jm s.mc kn/\kn.length<=fr)\/(fr=l.length+1/\s.e=0/\M=.ok st/\Mem O w jr ji jk s st)\/
 (∃p e,e≠0/\s.e=e/\s.bad=((p:Nat):Int)/\M=.bad p e)
theorem LoopK.next{l:List UInt8}{M:TK}{j jr ji jk jm rb fr:Nat}{w':ln}{kn:Kn}{st:St}{s:LS}(a3:fr<=l.length)(hn:l.length-fr<n+1)(hM:mP (n+1) kn st fr (l.drop fr)=M)(a2:kn.length<=fr) 
  (hP:Ki B O w w' j jr ji jk jm rb s fr (cY kn st (dz (l.drop fr)))) :
  ∃O' s' n' kn' st',M0 (λk=>k=j\/k=jr\/k=ji\/k=jk\/k=jm) O w O' w'/\N8 B O' w'/\P8 O' w' j rb s'/\s'.l=s.l/\n'<n+1/\LoopK l M O' w' jr ji jk jm n' (fr+(dz (l.drop fr)).length+1) kn' st' s':=by
 obtain⟨O',s',hU,hR,hb,e1,hq⟩:=hP;have a0:(dz (l.drop fr)).length<=l.length-fr:=by
  have:=(MD (l:=l.drop fr) (λb=>!(b==10))).length_le;simpa[dz]using this
 have a4:(l.drop fr).length=l.length-fr:=by simp
 unfold mP at hM;refine⟨O',s',?_⟩
 cases hr:cY kn st (dz (l.drop fr))with
 |bad p e=>
  rw[hr]at hq hM;obtain⟨q1,q2,q3⟩:=hq;exact⟨0,kn,st,hU,hR,hb,e1,zo,.inr (.inr ⟨fr+p,e,q1,q2,by rw[q3];simp,hM.symm⟩)⟩
 |go kn' st'=>
  have a1:=Ci hr;rw[hr]at hq hM;dsimp only at hM;obtain⟨q1,q2,q3⟩:=hq
  split at hM
  ·rename_i he;exact⟨0,kn',st',hU,hR,hb,e1,zo,.inr (.inl ⟨zo,q1,hM.symm,q2⟩)⟩
  rename_i he;exact⟨n,kn',st',hU,hR,hb,e1,zo,.inl ⟨zo,q1,zo,by rw[<-hM,List.drop_drop,Pz],q2,q3,zo⟩⟩
def Kg(w:ln)(v:L4):TK->Prop
 |.ok st=>∃tv,v=.tuple #[tv,nI 0,nI 0]/\Tx w tv st.li st.lk st.ts
 |.bad p e=>v=.tuple #[Am tE tE tE,nI (p:Int),nI e]/\e≠0
theorem Mem.tx{jr ji jk:Nat}{s:LS}{st:St}(h:Mem O w jr ji jk s st):Tx w (Am s.ig s.kp s.ru) st.li st.lk st.ts:=by
 obtain⟨xs,a1,a2,a3,a4⟩:=h.ru;exact⟨s.ig,s.kp,s.ru,xs,rfl,h.ig.sl,h.kp.sl,a1.sl,a2,λi hi=>(a4 i hi).weak λ_ _=>rfl⟩
theorem oz(l:List UInt8)(B:Nat)(O:Nat->Nat)(w:ln)(hR:N8 B O w)(g0:l.length<=1000000000):MK M9 21 [.string (bs l)] w λv w'=>ME w w'/\Kg w' v (ij l):=by
 obtain⟨T,g3,hT⟩:=hR.bound;have a6:¬(λq:Nat=>T<=q) 0:=λe=>by omega
 have c6:∀b,¬T<=O b:=λb=>by have:=hT b;omega
 apply ix func21 ntmps21 rfl rfl;refine zg ?_
 apply ar hR T zo (Mu _) rfl;intro xb w1 O1 b8 f6 f8 g5;have b6:M0 (λq=>T<=q) O w O1 w1:=f6.mono (λ_ h=>Mp h.symm) a6;refine zg ?_
 refine zvG (bO L8 rfl) ?_
 by_cases hl:4096<l.length
 ·have hM:ij l=.bad 0 3:=by unfold ij;rw[if_pos hl]
  rw[hM];apply zTG rfl ((decide_eq_true zo));apply zv (aF Km (Mu _) rfl (by first|rfl|(simp only[L9,M7];rfl)) rfl rfl);apply zsa (us:=(#[nS,nS,nS]:Array L4)) b8 (Ml _);have a7:=b8.setRow (us:=(#[nS,nS,nS]:Array L4));have a4:M0 (λk=>k=T) O1 w1 O1 (w1.setRow xb (#[nS,nS,nS]:Array L4)):=L0 zo b8.tag rfl;refine zg ?_;refine cD rfl rfl rfl rfl a7.cellsAdd (Nc _) (Ml _) ⟨az (b6.trans (a4.mono (λ_ h=>Mp h.symm) a6)) c6,rfl,by decide⟩
 have f9:ij l=mP (l.length+1) [] st0 0 l:=by unfold ij;rw[if_neg hl]
 apply zFG rfl ((decide_eq_false zo));apply zv (aF KO (zeroValue111 _) rfl (by first|rfl|(simp only[L9,M7];rfl)) rfl rfl)
 apply zv (Mw (vs:=[(0,.agg #[.string (bs l),nI 0,nI 0,nI 0,nI 0,nI 0])]) (cells:=(⟨l,0,0,0,0,0,nS,nS,nS,nS,false,false⟩:LS).cells) KN (zeroValue114 _) rfl zk);apply aN f8 (T+1) zo rfl rfl
 intro rb w2 O2 d2 e5 f7 g4;have f5:P8 O2 w2 (T+1) rb ⟨l,0,0,0,0,0,nS,nS,nS,nS,false,false⟩:=d2;have e7:=b8.upd e5 zo zo;have d6:=b6.trans (e5.mono (λ_ h=>by rw[h];omega) a6);refine zg ?_;apply zlp (λy:Nat×Nat×Kn×St×(Nat->Nat)×World×LS=>[(0,.string (bs l)),(2,nP xb),(5,nP rb),(6,nI (y.2.1:Nat))]) (λy=>y.2.2.2.2.2.1) (λy=>Mc y.2.2.2.2.1 y.2.2.2.2.2.1 T xb (#[nS,nS,nS]:Array L4) 56/\P8 y.2.2.2.2.1 y.2.2.2.2.2.1 (T+1) rb y.2.2.2.2.2.2/\y.2.2.2.2.2.2.l=l/\M0 (λq=>T<=q) O w y.2.2.2.2.1 y.2.2.2.2.2.1/\N8 B y.2.2.2.2.1 y.2.2.2.2.2.1/\y.2.1<=10000000/\LoopK l (ij l) y.2.2.2.2.1 y.2.2.2.2.2.1 (T+2) (T+3) (T+4) (T+5) y.1 y.2.1 y.2.2.1 y.2.2.2.1 y.2.2.2.2.2.2) (λy=>y.1) (l.length+1,0,[],st0,O2,w2,⟨l,0,0,0,0,0,nS,nS,nS,nS,false,false⟩) ⟨e7,f5,rfl,d6,f7,by dsimp only;omega,.inl ⟨by dsimp only;omega,rfl,by dsimp only;omega,by rw[f9];rfl,⟨⟨[],MG _ _ _ _ _ _,rfl,by simp,λi hi=>absurd hi (by simp)⟩,MG _ _ _ _ _ _,MG _ _ _ _ _ _,rfl,rfl,λ_=>rfl,λ_=>rfl⟩,Mac.nil _ _ _,LP _⟩⟩;rintro⟨n,fr,kn,st,O1,w3,s⟩ ⟨a2,a3,a5,a1,d8,f4,e6⟩;dsimp only at a2 a3 a5 a1 d8 f4 e6 ⊢
 rcases e6 with⟨c5,he,e1,b1,a0,b4,e3⟩|⟨c5,he,b1,a0⟩|⟨p,e,b9,d0,a',b1⟩
 ·obtain⟨n,rfl⟩:∃m,n=m+1:=⟨n-1,by omega⟩
  have g2:(dz (l.drop fr)).length<=l.length-fr:=by
   have:=(MD (l:=l.drop fr) (λb=>!(b==10))).length_le;simpa[dz]using this
  have q5:=a3.q5;rw[he]at q5;refine zg ?_;refine zvG (bO L8 rfl) ?_;apply au (d:=21) rfl (b':=true) ((decide_eq_true zo));refine zg ?_;refine zvG (RV.ld q5 rfl) ?_;apply zTG rfl rfl;refine zvG (bO L8 rfl) ?_;apply zv (ke L8 rfl rfl fr rfl c5);apply zc call44 (dW (l.drop fr) 10 w3);rintro v w9 ⟨rfl,e0⟩;rw[e0];clear e0 w9
  cases hf:(l.drop fr).findIdx? (· == 10)with
  |none=>
   have hi:tG (l.drop fr) 10 = -1:=by unfold tG;rw[hf]
   have e2:=congrArg NP (AP hf);rw[List.length_drop]at e2;rw[hi,show((l.length:Nat):Int)=((fr+(dz (l.drop fr)).length:Nat):Int)from by omega];refine zg ?_;apply zFG rfl rfl;apply zc call45 (uz B O1 w3 (T+1) (T+2) (T+3) (T+4) (T+5) rb s fr (fr+(dz (l.drop fr)).length) (dz (l.drop fr)) st d8 zo zo zo zo zo zo zo zo zo zo zo zo zo zo zo zo zo (by rw[a5];omega) (by rw[a5];omega) he (by rw[a5];exact uV l fr) a0 b4 a3);rintro v w4 d9;obtain⟨O4,s4,n4,c8,c7,b7,d7,d1,g1,a9,d'⟩:=LoopK.next c5 e1 b1 e3 d9;have c9:=L2 a2 b7 zo zo;have b0:=a1.trans (b7.mono (λ_ h=>by rcases h with h|h|h|h|h<;>rw[h]<;>omega) a6);refine zg ?_;refine zvG (N1 rfl rfl (MN zo)) ?_;refine zx (n4,fr+(dz (l.drop fr)).length+1,c8,c7,O4,w4,s4) ⟨c9,d1,g1.trans a5,b0,d7,by dsimp only;omega,d'⟩ a9
  |some k=>
   have hi:tG (l.drop fr) 10=(k:Nat):=by unfold tG;rw[hf]
   have e2:=AO hf;rw[hi];refine zg ?_;apply zTG rfl ((decide_eq_true zo));refine zvG (N1 rfl rfl (MN zo)) ?_;rw[show(fr:Int)+((k:Nat):Int)=((fr+(dz (l.drop fr)).length:Nat):Int)from by omega];apply zc call45 (uz B O1 w3 (T+1) (T+2) (T+3) (T+4) (T+5) rb s fr (fr+(dz (l.drop fr)).length) (dz (l.drop fr)) st d8 zo zo zo zo zo zo zo zo zo zo zo zo zo zo zo zo zo (by rw[a5];omega) (by rw[a5];omega) he (by rw[a5];exact uV l fr) a0 b4 a3);rintro v w4 d9;obtain⟨O4,s4,n4,c8,c7,b7,d7,d1,g1,a9,d'⟩:=LoopK.next c5 e1 b1 e3 d9;have c9:=L2 a2 b7 zo zo;have b0:=a1.trans (b7.mono (λ_ h=>by rcases h with h|h|h|h|h<;>rw[h]<;>omega) a6);refine zg ?_;refine zvG (N1 rfl rfl (MN zo)) ?_;refine zx (n4,fr+(dz (l.drop fr)).length+1,c8,c7,O4,w4,s4) ⟨c9,d1,g1.trans a5,b0,d7,by dsimp only;omega,d'⟩ a9
 ·have q5:=a3.q5;rw[he]at q5;refine zg ?_;refine zvG (bO L8 rfl) ?_;apply au (d:=21) rfl (b':=false) ((decide_eq_false zo));rw[b1];have q6:=a3.q6;have q7:=a3.q7;have q8:=a3.q8;have f':=a0.tx;have f3:=a0.ig.one;have e':=a0.kp.one;obtain⟨xs,e8,_,_,_⟩:=a0.ru;have e9:=e8.one;refine zg ?_;apply zFG rfl rfl;refine zvG (RV.ld q5 rfl) ?_;apply zFG rfl rfl;apply zv (ai (us:=[s.ig,s.kp,s.ru]) (BB q6 q7 q8) (Nc _) (Ml _) rfl);apply zsb (us:=#[s.ig,s.kp,s.ru]) a2 (Ml _) (by simp only[L9,f3,e',e9];rfl);have a7:=a2.setRow (us:=#[s.ig,s.kp,s.ru]);have a4:M0 (λk=>k=T) O1 w3 O1 (w3.setRow xb #[s.ig,s.kp,s.ru]):=L0 zo a2.tag rfl;have d3:=a1.trans (a4.mono (λ_ h=>Mp h.symm) a6);have b3:=a0.upd a4 zo zo zo zo zo zo;refine zg ?_;refine cD rfl rfl rfl rfl a7.cellsAdd (Nc _) (Ml _) ⟨az d3 c6,_,rfl,b3.tx⟩
 rw[b1];have q5:=a3.q5;rw[d0]at q5;have q4:=a3.q4;rw[a']at q4;have c':((e==0):Bool)=false:=by simpa using b9
 have b2:((e != 0):Bool)=true:=by simpa using b9
 cases e4:decide ((fr:Int)<=(l.length:Int))with
 |false=>
  refine zg ?_;refine zvG (bO L8 rfl) ?_
  apply au (d:=21) rfl (b':=false) e4;refine zg ?_
  apply zFG rfl rfl;refine zvG (RV.ld q5 rfl) ?_
  apply aP rfl b2;have d4:w3.drew.cell? ⟨rb,4,none⟩=some (nI (p:Nat)):=q4;have d5:w3.drew.cell? ⟨rb,5,none⟩=some (nI e):=q5;refine zg ?_
  apply aQ (λW=>W.cell? ⟨rb,4,none⟩=some (nI (p:Nat))/\W.cell? ⟨rb,5,none⟩=some (nI e)) 14 rfl zk;refine zin ⟨d4,d5⟩ λzS=>?_
  apply zr 0 rfl zS (λ_=>aF Km (Mu _) rfl (by first|rfl|(simp only[L9,M7];rfl)) rfl rfl);apply zrm 1 rfl zS rfl
  apply zr 2 rfl zS (λ_=>aq rfl);apply zrf 3 rfl zS rfl
  apply zrf 4 rfl zS rfl;apply zt 5 rfl zS (λw1 a8=>RV.ld a8.1 rfl)
  apply zrm 6 rfl zS rfl;apply zr 7 rfl zS (λ_=>aq rfl)
  apply zrf 8 rfl zS rfl;apply zrf 9 rfl zS rfl
  apply zt 10 rfl zS (λw1 a8=>RV.ld a8.2 rfl);apply L7 11 zk rfl
  apply zsa (us:=#[nS,nS,nS]) a2.drew (Ml _);have a7:=Mk (us:=#[nS,nS,nS]) a2.drew;have a4:M0 (λk=>k=T) O1 w3.drew O1 (w3.drew.setRow xb #[nS,nS,nS]):=L0 zo a2.tag rfl;have b5:=(N9 a3).upd a4 zo zo;have z5:=b5.q5;rw[d0]at z5;have z4:=b5.q4;rw[a']at z4;refine zg ?_
  refine zaf ⟨z4,z5⟩ λzS=>?_
  apply zra 12 rfl zS rfl;apply zra 13 rfl zS rfl
  apply Me zk;refine zg ?_
  refine cD rfl rfl rfl rfl a7.cellsAdd (Nc _) (Ml _) ⟨az ((a1.drew).trans (a4.mono (λ_ h=>Mp h.symm) a6)) c6,rfl,b9⟩
 |true=>
  refine zg ?_;refine zvG (bO L8 rfl) ?_
  apply au (d:=21) rfl (b':=true) e4;refine zg ?_
  refine zvG (RV.ld q5 rfl) ?_;apply zFG rfl c'
  refine zvG (RV.ld q5 rfl) ?_;apply aP rfl b2
  have d4:w3.drew.cell? ⟨rb,4,none⟩=some (nI (p:Nat)):=q4;have d5:w3.drew.cell? ⟨rb,5,none⟩=some (nI e):=q5;refine zg ?_;apply aQ (λW=>W.cell? ⟨rb,4,none⟩=some (nI (p:Nat))/\W.cell? ⟨rb,5,none⟩=some (nI e)) 14 rfl zk;refine zin ⟨d4,d5⟩ λzS=>?_
  apply zr 0 rfl zS (λ_=>aF Km (Mu _) rfl (by first|rfl|(simp only[L9,M7];rfl)) rfl rfl);apply zrm 1 rfl zS rfl
  apply zr 2 rfl zS (λ_=>aq rfl);apply zrf 3 rfl zS rfl
  apply zrf 4 rfl zS rfl;apply zt 5 rfl zS (λw1 a8=>RV.ld a8.1 rfl)
  apply zrm 6 rfl zS rfl;apply zr 7 rfl zS (λ_=>aq rfl)
  apply zrf 8 rfl zS rfl;apply zrf 9 rfl zS rfl
  apply zt 10 rfl zS (λw1 a8=>RV.ld a8.2 rfl);apply L7 11 zk rfl
  apply zsa (us:=#[nS,nS,nS]) a2.drew (Ml _);have a7:=Mk (us:=#[nS,nS,nS]) a2.drew;have a4:M0 (λk=>k=T) O1 w3.drew O1 (w3.drew.setRow xb #[nS,nS,nS]):=L0 zo a2.tag rfl;have b5:=(N9 a3).upd a4 zo zo;have z5:=b5.q5;rw[d0]at z5;have z4:=b5.q4;rw[a']at z4;refine zg ?_
  refine zaf ⟨z4,z5⟩ λzS=>?_
  apply zra 12 rfl zS rfl;apply zra 13 rfl zS rfl
  apply Me zk;refine zg ?_
  refine cD rfl rfl rfl rfl a7.cellsAdd (Nc _) (Ml _) ⟨az ((a1.drew).trans (a4.mono (λ_ h=>Mp h.symm) a6)) c6,rfl,b9⟩
theorem lP:∀(n:Nat),n<=1000000->∀(t:Nd),nsz t<=n->∀(B:Nat) (O:Nat->Nat) (x:N3) (w:ln),N8 B O w->Nt (λ_=>0) w t x->MK M9 48 [nv x] w λv w'=>∃y,v=nv y/\Nt O w' t y/\ME w w'
 |0,_,t,hn=>by have:=dd t;omega
 |n+1,b9,.mk k c kids,hn=>by
  intro B O x w hR h;obtain⟨T,j3,hT⟩:=hR.bound;have b3:∀b,¬T<=O b:=λb=>by have:=hT b;omega
  obtain⟨xs,hs,hf,hl,hk⟩:=h.kids;simp only[Pi]at hl hk;obtain⟨x0,x1,sv⟩:=x;obtain rfl:k=x0:=(congrArg Prod.fst h.ones).symm;obtain rfl:c=x1:=(congrArg (λq:N3=>q.2.1) h.ones).symm;dsimp only at hs hf;have j2:=ey kids;simp only[nsz]at hn;have a':¬(λq:Nat=>T<=q) 0:=λe=>zo
  apply ix func48 ntmps48 rfl rfl;refine zh ?_
  apply aN hR (T+1) zo rfl rfl;intro nb w1 O1 h9 i5 i9 j6;apply ar i9 T zo (N7 _) rfl
  intro xb w2 O2 h5 h1 i8 j5;have g4:=h9.upd h1 zo zo;have n0:w2.cell? (nA nb 0)=some (nI k):=g4.cell 0 rfl;have n1:w2.cell? (nA nb 1)=some (nI c):=g4.cell 1 rfl;refine zh ?_;apply zv (aF kR (N7 _) rfl (by first|rfl|(simp only[L9,M7];rfl)) rfl rfl);apply ar i8 (T+2) zo (N7 _) rfl;intro ob w3 O3 g2 i4 i7 j4;apply zsa (us:=#[nI k,nI c,nS]) g2 (MT _);have h7:=g2.setRow (us:=#[nI k,nI c,nS]);have h0:M0 (λq=>q=T+2) O3 w3 O3 (w3.setRow ob #[nI k,nI c,nS]):=L0 zo g2.tag rfl;have d7:=i4.trans h0;have i6:=i7.upd h0;have h8:=g4.upd d7 zo zo;have h4:=h5.upd d7 zo zo;have g5:M0 (λq=>T<=q) O w O3 _:=((i5.mono (λ_ h=>by rw[h];omega) a').trans (h1.mono (λ_ h=>by rw[h];omega) a')).trans (d7.mono (λ_ h=>by rw[h];omega) a');generalize w3.setRow ob #[nI k,nI c,nS]=w4 at *;refine zh ?_
  apply zlp (λy:Nat×(Nat->Nat)×World×L4×List N3=>[(1,nP nb),(2,nP xb),(3,nP ob),(4,nI y.1)]) (λy=>y.2.2.1) (λy=>y.1<=xs.length/\Mc y.2.1 y.2.2.1 (T+1) nb #[nI k,nI c,sv] 96/\Mc y.2.1 y.2.2.1 T xb #[nI 0,nI 0,nS] 120/\Mc y.2.1 y.2.2.1 (T+2) ob #[nI k,nI c,y.2.2.2.1] 120/\NI aX 120 3 y.2.1 y.2.2.1 (T+3) y.2.2.2.1 y.2.2.2.2/\y.2.2.2.2.length=y.1/\(∀m,m<y.1->Nt y.2.1 y.2.2.1 (nth kids m) (nth y.2.2.2.2 m))/\M0 (λq=>T<=q) O w y.2.1 y.2.2.1/\N8 B y.2.1 y.2.2.1) (λy=>xs.length-y.1) (0,O3,w4,nS,[]) ⟨LP _,h8,h4,h7,MG _ _ _ _ _ _,rfl,λm hm=>absurd hm (LQ m),g5,i6⟩;rintro⟨i,O1',d',lv,zs⟩ ⟨hi,d3,b6,d2,b2,d1,g0,b',d9⟩;dsimp only at hi d3 b6 d2 b2 d1 g0 b' d9 ⊢;have g8:=az b' b3;have j0:=hs.ext g8;have c2:d'.cell? (nA nb 2)=some sv:=d3.cell 2 rfl;refine zh ?_
  refine zC ?_ ?_
  ·intro d4;replace d4:i<xs.length:=dT d4;have g':=hk i d4;have i':=g'.one;have j1:=bM kids i zo;have g3:=d3.drew;have g9:=b6.drew;have g1:=d2.drew;have c6:=b2.drew;have g6:=d9.drew;have e3:∀m,m<i->Nt O1' d'.drew (nth kids m) (nth zs m):=λm hm=>(g0 m hm).drew
   have d5:=b'.drew;have h2:=az d5 b3;have d8:=LO (g3.cell 2 rfl) h2;refine zh ?_;apply aQ (λW=>W.cell? ⟨nb,2,none⟩=some sv/\ME w W) 12 rfl zk;apply zrf 0 rfl d8 rfl;apply zrf 2 rfl d8 rfl;apply zt 3 rfl d8 (λw1 e6=>RV.ld e6.1 rfl);apply zrm 4 rfl d8 rfl;apply zt 5 rfl d8 (λw1 e6=>M4 (by first|exact hs.ext e6.2) Np (LZ _) rfl rfl _ rfl zo);apply zt 6 rfl d8 (λw1 e6=>ai (us:=aX (nth xs i)) (λj u hu=>(hs.ext e6.2).cell d4 hu) (Mj _) (LZ _) rfl);generalize d'.drew=wD at *;have i3:wD.cell? (nA ob 2)=some lv:=g1.cell 2 rfl;have c':=lP n zo (nth kids i) zo B O1' (nth xs i) wD g6 (g'.ext h2);refine bB 1 7 zk rfl rfl ?_ ?_
   ·refine zvH (RV.ld i3 rfl) ?_;apply aa d8
    apply L7 7 zk rfl;apply zc NG c'
    rintro v w5 ⟨z,rfl,f6,g7⟩;have b0:M0 (λ_=>False) O1' wD O1' w5:=ae (λh=>h) O1' g7;have e1:=L2 g3 b0 zo (λh=>h);have f7:=L2 g9 b0 zo (λh=>h);have e9:=L2 g1 b0 zo (λh=>h);have b1:=Mt c6 b0 zo (λh=>h);have f':=N0 g6 b0;have b8:∀m,m<i->Nt O1' w5 (nth kids m) (nth zs m):=λm hm=>(e3 m hm).upd b0
    have b4:=Mf d5 (b0.mono (λ_ h=>h.elim) a');have f9:=LO (e1.cell 2 rfl) (az b4 b3);refine zh ?_;apply aa f9;apply L7 8 zk rfl;apply aU elN (enc:=aX) z rfl rfl rfl zd rfl;intro w6 h6 f5;have a1:M0 (λ_=>False) O1' w5 O1' w6:=ae (λh=>h) O1' f5;have b9:=e1.upd a1 zo (λh=>h);have e5:=f7.upd a1 zo (λh=>h);have e0:=e9.upd a1 zo (λh=>h);have a5:=b1.upd a1 zo (λh=>h);have f4:=f'.upd a1;have b5:∀m,m<i->Nt O1' w6 (nth kids m) (nth zs m):=λm hm=>(b8 m hm).upd a1
    have c5:=f6.upd a1;have a9:=b4.trans (a1.mono (λ_ h=>h.elim) a');have e2:=LO (b9.cell 2 rfl) (az a9 b3);refine zh ?_;apply aa e2;have a6:∀u∈[z],∀c∈aX u,c.oneCell'=true:=λu hu=>by
     rw[L5.1 hu];exact eI c5.one
    apply L7 9 zk rfl;apply aD elN a5 f4 h6 (by simp) rfl rfl (λ_ _=>rfl) a6 (by simp;omega) (by simp;omega) zo rfl
    intro a3 w7 O7 a0 a4 f3;have e7:=a0.one;have c9:=L2 b9 a4 zo zo;have b7:=L2 e0 a4 zo zo;have e4:=L2 e5 a4 zo zo;have a8:=a9.trans (a4.mono (λ_ h=>by rw[h];omega) a');have d0:=LO (c9.cell 2 rfl) (az a8 b3);refine zh ?_;apply aa d0;apply zrf 10 rfl d0 rfl;apply L7 11 zk rfl;apply ak (j:=2) b7 rfl (PB _) e7 rfl rfl rfl;have e8:Mc O7 (w7.setCell ⟨ob,2,none⟩ a3) (T+2) ob #[nI k,nI c,a3] 120:=b7.set 2 a3;have a2:M0 (λq=>q=T+2) O7 w7 O7 (w7.setCell ⟨ob,2,none⟩ a3):=M1 zo b7.tag rfl;have c8:=c9.upd a2 zo zo;have a7:=a8.trans (a2.mono (λ_ h=>by rw[h];omega) a');have e':=LO (c8.cell 2 rfl) (az a7 b3);refine zh ?_;apply aa e';apply Me zk;refine zh ?_;refine zxd (i+1,O7,(w7.setCell ⟨ob,2,none⟩ a3),a3,zs++[z]) ⟨d4,c8,e4.upd a2 zo zo,e8,a0.upd a2 zo zo,by simp[d1],λm hm=>?_,a7,f3.upd a2⟩;dsimp only at hm ⊢
    by_cases e:m<i
    ·rw[aB (xs:=zs++[z]) (by simp;omega),LW zo,<-aB zo];exact((b5 m e).upd a4).upd a2
    obtain rfl:m=zs.length:=zo;rw[aB (xs:=zs++[z]) (by simp),LU zo];simp only[Mo,Md];rw[d1];exact(c5.upd a4).upd a2
   apply zc NG c';rintro v w5 ⟨z,rfl,f6,g7⟩;have b0:M0 (λ_=>False) O1' wD O1' w5:=ae (λh=>h) O1' g7;have e1:=L2 g3 b0 zo (λh=>h);have f7:=L2 g9 b0 zo (λh=>h);have e9:=L2 g1 b0 zo (λh=>h);have b1:=Mt c6 b0 zo (λh=>h);have f':=N0 g6 b0;have b8:∀m,m<i->Nt O1' w5 (nth kids m) (nth zs m):=λm hm=>(e3 m hm).upd b0
   have b4:=Mf d5 (b0.mono (λ_ h=>h.elim) a');have f9:=LO (e1.cell 2 rfl) (az b4 b3);refine zh ?_;apply aa f9;have i2:w5.cell? (nA ob 2)=some lv:=e9.cell 2 rfl;refine bB 1 8 zk rfl rfl ?_ ?_
   ·refine zvH (RV.ld i2 rfl) ?_;apply aa f9
    apply L7 8 zk rfl;apply aU elN (enc:=aX) z rfl rfl rfl zd rfl
    intro w6 h6 f5;have a1:M0 (λ_=>False) O1' w5 O1' w6:=ae (λh=>h) O1' f5;have b9:=e1.upd a1 zo (λh=>h);have e5:=f7.upd a1 zo (λh=>h);have e0:=e9.upd a1 zo (λh=>h);have a5:=b1.upd a1 zo (λh=>h);have f4:=f'.upd a1;have b5:∀m,m<i->Nt O1' w6 (nth kids m) (nth zs m):=λm hm=>(b8 m hm).upd a1
    have c5:=f6.upd a1;have a9:=b4.trans (a1.mono (λ_ h=>h.elim) a');have e2:=LO (b9.cell 2 rfl) (az a9 b3);refine zh ?_;apply aa e2;have a6:∀u∈[z],∀c∈aX u,c.oneCell'=true:=λu hu=>by
     rw[L5.1 hu];exact eI c5.one
    apply L7 9 zk rfl;apply aD elN a5 f4 h6 (by simp) rfl rfl (λ_ _=>rfl) a6 (by simp;omega) (by simp;omega) zo rfl
    intro a3 w7 O7 a0 a4 f3;have e7:=a0.one;have c9:=L2 b9 a4 zo zo;have b7:=L2 e0 a4 zo zo;have e4:=L2 e5 a4 zo zo;have a8:=a9.trans (a4.mono (λ_ h=>by rw[h];omega) a');have d0:=LO (c9.cell 2 rfl) (az a8 b3);refine zh ?_;apply aa d0;apply zrf 10 rfl d0 rfl;apply L7 11 zk rfl;apply ak (j:=2) b7 rfl (PB _) e7 rfl rfl rfl;have e8:Mc O7 (w7.setCell ⟨ob,2,none⟩ a3) (T+2) ob #[nI k,nI c,a3] 120:=b7.set 2 a3;have a2:M0 (λq=>q=T+2) O7 w7 O7 (w7.setCell ⟨ob,2,none⟩ a3):=M1 zo b7.tag rfl;have c8:=c9.upd a2 zo zo;have a7:=a8.trans (a2.mono (λ_ h=>by rw[h];omega) a');have e':=LO (c8.cell 2 rfl) (az a7 b3);refine zh ?_;apply aa e';apply Me zk;refine zh ?_;refine zxd (i+1,O7,(w7.setCell ⟨ob,2,none⟩ a3),a3,zs++[z]) ⟨d4,c8,e4.upd a2 zo zo,e8,a0.upd a2 zo zo,by simp[d1],λm hm=>?_,a7,f3.upd a2⟩;dsimp only at hm ⊢
    by_cases e:m<i
    ·rw[aB (xs:=zs++[z]) (by simp;omega),LW zo,<-aB zo];exact((b5 m e).upd a4).upd a2
    obtain rfl:m=zs.length:=zo;rw[aB (xs:=zs++[z]) (by simp),LU zo];simp only[Mo,Md];rw[d1];exact(c5.upd a4).upd a2
   apply aU elN (enc:=aX) z rfl rfl rfl zd rfl;intro w6 h6 f5;have a1:M0 (λ_=>False) O1' w5 O1' w6:=ae (λh=>h) O1' f5;have b9:=e1.upd a1 zo (λh=>h);have e5:=f7.upd a1 zo (λh=>h);have e0:=e9.upd a1 zo (λh=>h);have a5:=b1.upd a1 zo (λh=>h);have f4:=f'.upd a1;have b5:∀m,m<i->Nt O1' w6 (nth kids m) (nth zs m):=λm hm=>(b8 m hm).upd a1
   have c5:=f6.upd a1;have a9:=b4.trans (a1.mono (λ_ h=>h.elim) a');have e2:=LO (b9.cell 2 rfl) (az a9 b3);refine zh ?_;apply aa e2;have i1:w6.cell? (nA ob 2)=some lv:=e0.cell 2 rfl;apply L7 1 zk rfl;refine zvH (RV.ld i1 rfl) ?_;apply aa e2;have a6:∀u∈[z],∀c∈aX u,c.oneCell'=true:=λu hu=>by
    rw[L5.1 hu];exact eI c5.one
   apply L7 9 zk rfl;apply aD elN a5 f4 h6 (by simp) rfl rfl (λ_ _=>rfl) a6 (by simp;omega) (by simp;omega) zo rfl
   intro a3 w7 O7 a0 a4 f3;have e7:=a0.one;have c9:=L2 b9 a4 zo zo;have b7:=L2 e0 a4 zo zo;have e4:=L2 e5 a4 zo zo;have a8:=a9.trans (a4.mono (λ_ h=>by rw[h];omega) a');have d0:=LO (c9.cell 2 rfl) (az a8 b3);refine zh ?_;apply aa d0;apply zrf 10 rfl d0 rfl;apply L7 11 zk rfl;apply ak (j:=2) b7 rfl (PB _) e7 rfl rfl rfl;have e8:Mc O7 (w7.setCell ⟨ob,2,none⟩ a3) (T+2) ob #[nI k,nI c,a3] 120:=b7.set 2 a3;have a2:M0 (λq=>q=T+2) O7 w7 O7 (w7.setCell ⟨ob,2,none⟩ a3):=M1 zo b7.tag rfl;have c8:=c9.upd a2 zo zo;have a7:=a8.trans (a2.mono (λ_ h=>by rw[h];omega) a');have e':=LO (c8.cell 2 rfl) (az a7 b3);refine zh ?_;apply aa e';apply Me zk;refine zh ?_;refine zxd (i+1,O7,(w7.setCell ⟨ob,2,none⟩ a3),a3,zs++[z]) ⟨d4,c8,e4.upd a2 zo zo,e8,a0.upd a2 zo zo,by simp[d1],λm hm=>?_,a7,f3.upd a2⟩;dsimp only at hm ⊢
   by_cases e:m<i
   ·rw[aB (xs:=zs++[z]) (by simp;omega),LW zo,<-aB zo];exact((b5 m e).upd a4).upd a2
   obtain rfl:m=zs.length:=zo;rw[aB (xs:=zs++[z]) (by simp),LU zo];simp only[Mo,Md];rw[d1];exact(c5.upd a4).upd a2
  intro i0;obtain rfl:i=xs.length:=dF i0;have h':=b2.one;refine zh ?_;apply zv (ai (us:=aX ((k,c,lv):N3)) d2.cellsAdd (Pf _) (MT _) rfl);apply zsb (us:=#[nI k,nI c,lv]) b6 (MT _) (bX (x:=(k,c,lv)) h');have h3:=b6.setRow (us:=#[nI k,nI c,lv]);have f8:M0 (λq=>q=T) O1' d' O1' (d'.setRow xb #[nI k,nI c,lv]):=L0 zo b6.tag rfl;have c7:=b2.upd f8 zo zo;have d6:=b'.trans (f8.mono (λ_ h=>by rw[h];omega) a');have hN:Nt O (d'.setRow xb #[nI k,nI c,lv]) (.mk k c kids) (k,c,lv):=
   .mk c7.sl (c7.freeT zo (λb=>by have:=hT b;omega) (d9.upd f8) d6) zo (λm hm=>((g0 m zo).upd f8).low d6)
  refine zh ?_;refine aL rfl rfl h3.cellsAdd (Pf _) (MT _) ⟨(k,c,lv),rfl,hN,az d6 b3⟩
def RulesO(O:Nat->Nat)(w:ln)(rv:L4)(ts:List R3):Prop:=∃zs,Sl bP 7 w rv zs/\Po O w rv/\ts.length=zs.length/\∀i,i<zs.length->Rt O w (nth ts i) (nth zs i)
theorem RulesO.upd{S:Nat->Prop}{O O':Nat->Nat}{w w':ln}{rv:L4}{ts:List R3}(h:RulesO O w rv ts)(u:M0 S O w O' w'):RulesO O' w' rv ts:=by
 obtain⟨zs,h1,h2,h3,h4⟩:=h;exact⟨zs,h1.upd h2 u,h2.upd u,h3,λi hi=>(h4 i hi).upd u⟩
theorem RulesO.one{O:Nat->Nat}{w:ln}{rv:L4}{ts:List R3}(h:RulesO O w rv ts):rv.oneCell'=true:=by
 obtain⟨zs,h1,_⟩:=h;exact h1.one
theorem G2(li lk:List Int)(ts:List R3)(xs:List X3)(ig kp ru:L4)(B:Nat)(O:Nat->Nat)(w:ln)(i':N8 B O w)(h1:Sl encI 1 w ig li)(h2:Sl encI 1 w kp lk)(h3:Sl bP 7 w ru xs)(h4:ts.length=xs.length)(h5:∀i,i<xs.length->Rt (λ_=>0) w (nth ts i) (nth xs i))(hf:Few li lk ts):MK M9 23 [Am ig kp ru] w λu w'=>∃rv,u=Am ig kp rv/\RulesO O w' rv ts/\ME w w':=by
 obtain⟨f1,f2,f3,f4⟩:=hf;have o1:=h1.one;have o2:=h2.one;have o3:=h3.one;obtain⟨T,k8,hT⟩:=i'.bound;have b5:∀b,¬T<=O b:=λb=>by have:=hT b;omega
 have b2:¬(λq:Nat=>T<=q) 0:=λe=>zo
 apply ix func23 ntmps23 rfl rfl;refine zh ?_
 apply aN i' T zo rfl rfl;intro nb w1 O1 j6 k1 k5 l0;apply ar k5 (T+1) zo (Mu _) rfl
 intro xb w2 O2 j2 i9 k4 k';have i2:=j6.upd i9 zo zo;have n0:w2.cell? (nA nb 0)=some ig:=i2.cell 0 rfl;have n1:w2.cell? (nA nb 1)=some kp:=i2.cell 1 rfl;refine zh ?_;apply zv (aF Km (Mu _) rfl (by simp only[L9,o1,o2];rfl) rfl rfl);apply ar k4 (T+2) zo (Mu _) rfl;intro ob w3 O3 i0 k0 k3 k9;apply zsb (us:=#[ig,kp,nS]) i0 (Ml _) (by simp only[L9,o1,o2];rfl);have j4:=i0.setRow (us:=#[ig,kp,nS]);have i8:M0 (λq=>q=T+2) O3 w3 O3 (w3.setRow ob #[ig,kp,nS]):=L0 zo i0.tag rfl;have f7:=k0.trans i8;have k2:=k3.upd i8;have j5:=i2.upd f7 zo zo;have j1:=j2.upd f7 zo zo;have i3:M0 (λq=>T<=q) O w O3 _:=((k1.mono (λ_ h=>by rw[h];omega) b2).trans (i9.mono (λ_ h=>by rw[h];omega) b2)).trans (f7.mono (λ_ h=>by rw[h];omega) b2);generalize w3.setRow ob #[ig,kp,nS]=w4 at *;refine zh ?_
 apply zlp (λy:Nat×(Nat->Nat)×World×L4×List X3=>[(1,nP nb),(2,nP xb),(3,nP ob),(4,nI y.1)]) (λy=>y.2.2.1) (λy=>y.1<=xs.length/\Mc y.2.1 y.2.2.1 T nb #[ig,kp,ru] 45/\Mc y.2.1 y.2.2.1 (T+1) xb #[nS,nS,nS] 56/\Mc y.2.1 y.2.2.1 (T+2) ob #[ig,kp,y.2.2.2.1] 56/\NI bP 122 7 y.2.1 y.2.2.1 (T+3) y.2.2.2.1 y.2.2.2.2/\y.2.2.2.2.length=y.1/\(∀m,m<y.1->Rt y.2.1 y.2.2.1 (nth ts m) (nth y.2.2.2.2 m))/\M0 (λq=>T<=q) O w y.2.1 y.2.2.1/\N8 B y.2.1 y.2.2.1) (λy=>xs.length-y.1) (0,O3,w4,nS,[]) ⟨LP _,j5,j1,j4,MG _ _ _ _ _ _,rfl,λm hm=>absurd hm (LQ m),i3,k2⟩;rintro⟨i,O1,g3,lv,zs⟩ ⟨hi,f5,d1,e',c8,d7,h9,d9,g2⟩;dsimp only at hi f5 d1 e' c8 d7 h9 d9 g2 ⊢;have i6:=az d9 b5;have k7:=h3.ext i6;have c2:g3.cell? (nA nb 2)=some ru:=f5.cell 2 rfl;refine zh ?_
 refine zC ?_ ?_
 ·intro b3;replace b3:i<xs.length:=dT b3;obtain⟨z1,z2⟩:=f4 i zo;have i1:=f5.drew;have i7:=d1.drew;have h':=e'.drew;have e0:=c8.drew;have h8:=g2.drew;have g8:∀m,m<i->Rt O1 g3.drew (nth ts m) (nth zs m):=λm hm=>(h9 m hm).ext (LY g3).drew
  have f6:=d9.drew;have i4:=az f6 b5;have b6:=LO (i1.cell 2 rfl) i4;have j8:∀W,ME w W->∀(j:Nat) (u:L4),(aX (nth xs i).1)[j]? = some u->W.cell? (((adr ru 7 i).add 0).add j)=some u:=λW hE j u hu=>by
   have e:(((adr ru 7 i).add 0).add j)=(adr ru 7 i).add j:=by rw[PA,PD]
   rw[e];refine hE.cell (h3.cell b3 ?_);simp only[aX]at hu
   match j,hu with
   |0,hu=>exact hu
   |1,hu=>exact hu
   |2,hu=>exact hu
  have j3:∀W,ME w W->∀(j:Nat) (u:L4),(aX (nth xs i).2.1)[j]? = some u->W.cell? (((adr ru 7 i).add 3).add j)=some u:=λW hE j u hu=>by
   have e:(((adr ru 7 i).add 3).add j)=(adr ru 7 i).add (3+j):=by rw[PA]
   rw[e];refine hE.cell (h3.cell b3 ?_);simp only[aX]at hu
   match j,hu with
   |0,hu=>exact hu
   |1,hu=>exact hu
   |2,hu=>exact hu
  obtain⟨brk,g'⟩:∃b,b=(nth xs i).2.2:=⟨_,rfl⟩
  have j':∀W,ME w W->W.cell? ((adr ru 7 i).add 6)=some (.bool brk):=λW hE=>by rw[g'];exact hE.cell (h3.cell b3 rfl)
  refine zh ?_;apply aQ (λW=>W.cell? ⟨nb,2,none⟩=some ru/\ME w W) 27 rfl zk
  apply zrf 0 rfl b6 rfl;apply zrf 2 rfl b6 rfl
  apply zt 3 rfl b6 (λw1 b8=>RV.ld b8.1 rfl);apply zrm 4 rfl b6 rfl
  apply zt 5 rfl b6 (λw1 b8=>M4 (h3.ext b8.2) P4 (PJ _) rfl rfl i rfl b3);apply zrf 6 rfl b6 rfl
  apply zt 7 rfl b6 (λw1 b8=>ai (us:=aX (nth xs i).1) (j8 _ b8.2) (Mj _) (LZ _) rfl);apply zrf 9 rfl b6 rfl
  apply zt 10 rfl b6 (λw1 b8=>RV.ld b8.1 rfl);apply zrm 11 rfl b6 rfl
  apply zt 12 rfl b6 (λw1 b8=>M4 (h3.ext b8.2) P4 (PJ _) rfl rfl i rfl b3);apply zrf 13 rfl b6 rfl
  apply zt 14 rfl b6 (λw1 b8=>ai (us:=aX (nth xs i).2.1) (j3 _ b8.2) (Mj _) (LZ _) rfl);apply zrf 16 rfl b6 rfl
  apply zt 17 rfl b6 (λw1 b8=>RV.ld b8.1 rfl);apply zrm 18 rfl b6 rfl
  apply zt 19 rfl b6 (λw1 b8=>M4 (h3.ext b8.2) P4 (PJ _) rfl rfl i rfl b3);apply zrf 20 rfl b6 rfl
  apply zt 21 rfl b6 (λw1 b8=>RV.ld (j' _ b8.2) rfl);generalize g3.drew=wD at *;refine bB 1 8 zk rfl rfl ?_ ?_
  ·refine zvH (RV.ld (h'.cell 2 rfl) rfl) ?_;apply aa b6
   apply L7 8 zk rfl;apply zc NG (lP 1000000 (L3 _) (nth ts i).1 zo B O1 (nth xs i).1 wD h8 ((h5 i b3).1.ext i4))
   rintro v5 w5 ⟨y1,rfl,h0,i5⟩;have c5:M0 (λ_=>False) O1 wD O1 w5:=ae (λh=>h) O1 i5;have g6:=i1.upd c5 zo (λh=>h);have h6:=i7.upd c5 zo (λh=>h);have g9:=h'.upd c5 zo (λh=>h);have c7:=e0.upd c5 zo (λh=>h);have g1:=h8.upd c5;have d6:∀m,m<i->Rt O1 w5 (nth ts m) (nth zs m):=λm hm=>(g8 m hm).upd c5
   have d0:=f6.trans (c5.mono (λ_ h=>h.elim) b2);have f9:=LO (g6.cell 2 rfl) (az d0 b5);refine zh ?_;apply aa f9;apply L7 15 zk rfl;apply zc NG (lP 1000000 (L3 _) (nth ts i).2.1 zo B O1 (nth xs i).2.1 w5 g1 ((h5 i b3).2.1.ext f9.2));rintro v6 w6 ⟨y2,rfl,g4,e4⟩;have c':=h0.upd (ae (S:=λ_=>False) (λh=>h) O1 e4);have a':M0 (λ_=>False) O1 w5 O1 w6:=ae (λh=>h) O1 e4;have d8:=g6.upd a' zo (λh=>h);have g5:=h6.upd a' zo (λh=>h);have e9:=g9.upd a' zo (λh=>h);have b4:=c7.upd a' zo (λh=>h);have g7:=g1.upd a';have c9:∀m,m<i->Rt O1 w6 (nth ts m) (nth zs m):=λm hm=>(d6 m hm).upd a'
   have b7:=d0.trans (a'.mono (λ_ h=>h.elim) b2);have d':=LO (d8.cell 2 rfl) (az b7 b5);refine zh ?_;apply aa d';apply zr 22 rfl d' (λ_=>Mw (vs:=[(0,nv y1),(1,nv y2),(2,.bool brk)]) (cells:=(bP (y1,y2,brk)).toArray) Cm (P3 _) rfl zk);apply L7 23 zk rfl;apply aU elR (enc:=bP) (y1,y2,brk) rfl rfl rfl zd rfl;intro w7 h7 c6;have a7:=c'.upd (ae (S:=λ_=>False) (λh=>h) O1 c6);have a6:=g4.upd (ae (S:=λ_=>False) (λh=>h) O1 c6);have a2:M0 (λ_=>False) O1 w6 O1 w7:=ae (λh=>h) O1 c6;have d4:=d8.upd a2 zo (λh=>h);have e6:=g5.upd a2 zo (λh=>h);have e2:=e9.upd a2 zo (λh=>h);have a8:=b4.upd a2 zo (λh=>h);have g0:=g7.upd a2;have b9:∀m,m<i->Rt O1 w7 (nth ts m) (nth zs m):=λm hm=>(c9 m hm).upd a2
   have b1:=b7.trans (a2.mono (λ_ h=>h.elim) b2);have e3:=LO (d4.cell 2 rfl) (az b1 b5);refine zh ?_;apply aa e3;have a9:∀u∈[((y1,y2,brk):X3)],∀c∈bP u,c.oneCell'=true:=λu hu=>by
    rw[L5.1 hu];exact bJ a7.one a6.one
   apply L7 24 zk rfl;apply aD elR a8 g0 h7 (by simp) rfl rfl (λ_ _=>rfl) a9 (by simp;omega) (by simp;omega) zo rfl
   intro a5 w8 O8 a1 a4 f';have e7:=a1.one;have d3:=L2 d4 a4 zo zo;have b':=L2 e2 a4 zo zo;have e5:=L2 e6 a4 zo zo;have b0:=b1.trans (a4.mono (λ_ h=>by rw[h];omega) b2);have d5:=LO (d3.cell 2 rfl) (az b0 b5);refine zh ?_;apply aa d5;apply zrf 25 rfl d5 rfl;apply L7 26 zk rfl;apply ak (j:=2) b' rfl (Pe _) e7 rfl rfl rfl;have e8:Mc O8 (w8.setCell ⟨ob,2,none⟩ a5) (T+2) ob #[ig,kp,a5] 56:=b'.set 2 a5;have a0:M0 (λq=>q=T+2) O8 w8 O8 (w8.setCell ⟨ob,2,none⟩ a5):=M1 zo b'.tag rfl;have d2:=d3.upd a0 zo zo;have a3:=b0.trans (a0.mono (λ_ h=>by rw[h];omega) b2);have f8:=LO (d2.cell 2 rfl) (az a3 b5);refine zh ?_;apply aa f8;apply Me zk;refine zh ?_;refine zxd (i+1,O8,(w8.setCell ⟨ob,2,none⟩ a5),a5,zs++[((y1,y2,brk):X3)]) ⟨b3,d2,e5.upd a0 zo zo,e8,a1.upd a0 zo zo,by simp[d7],λm hm=>?_,a3,f'.upd a0⟩;dsimp only at hm ⊢
   by_cases e:m<i
   ·rw[aB (xs:=zs++[((y1,y2,brk):X3)]) (by simp;omega),LW zo,<-aB zo];exact((b9 m e).upd a4).upd a0
   obtain rfl:m=zs.length:=zo;rw[aB (xs:=zs++[((y1,y2,brk):X3)]) (by simp),LU zo];simp only[Mo,Md];rw[d7];exact⟨(a7.upd a4).upd a0,(a6.upd a4).upd a0,g'.trans (h5 i b3).2.2⟩
  apply zc NG (lP 1000000 (L3 _) (nth ts i).1 zo B O1 (nth xs i).1 wD h8 ((h5 i b3).1.ext i4));rintro v5 w5 ⟨y1,rfl,h0,i5⟩;have c5:M0 (λ_=>False) O1 wD O1 w5:=ae (λh=>h) O1 i5;have g6:=i1.upd c5 zo (λh=>h);have h6:=i7.upd c5 zo (λh=>h);have g9:=h'.upd c5 zo (λh=>h);have c7:=e0.upd c5 zo (λh=>h);have g1:=h8.upd c5;have d6:∀m,m<i->Rt O1 w5 (nth ts m) (nth zs m):=λm hm=>(g8 m hm).upd c5
  have d0:=f6.trans (c5.mono (λ_ h=>h.elim) b2);have f9:=LO (g6.cell 2 rfl) (az d0 b5);refine zh ?_;apply aa f9;refine bB 1 15 zk rfl rfl ?_ ?_
  ·refine zvH (RV.ld (g9.cell 2 rfl) rfl) ?_;apply aa f9
   apply L7 15 zk rfl;apply zc NG (lP 1000000 (L3 _) (nth ts i).2.1 zo B O1 (nth xs i).2.1 w5 g1 ((h5 i b3).2.1.ext f9.2))
   rintro v6 w6 ⟨y2,rfl,g4,e4⟩;have c':=h0.upd (ae (S:=λ_=>False) (λh=>h) O1 e4);have a':M0 (λ_=>False) O1 w5 O1 w6:=ae (λh=>h) O1 e4;have d8:=g6.upd a' zo (λh=>h);have g5:=h6.upd a' zo (λh=>h);have e9:=g9.upd a' zo (λh=>h);have b4:=c7.upd a' zo (λh=>h);have g7:=g1.upd a';have c9:∀m,m<i->Rt O1 w6 (nth ts m) (nth zs m):=λm hm=>(d6 m hm).upd a'
   have b7:=d0.trans (a'.mono (λ_ h=>h.elim) b2);have d':=LO (d8.cell 2 rfl) (az b7 b5);refine zh ?_;apply aa d';apply zr 22 rfl d' (λ_=>Mw (vs:=[(0,nv y1),(1,nv y2),(2,.bool brk)]) (cells:=(bP (y1,y2,brk)).toArray) Cm (P3 _) rfl zk);apply L7 23 zk rfl;apply aU elR (enc:=bP) (y1,y2,brk) rfl rfl rfl zd rfl;intro w7 h7 c6;have a7:=c'.upd (ae (S:=λ_=>False) (λh=>h) O1 c6);have a6:=g4.upd (ae (S:=λ_=>False) (λh=>h) O1 c6);have a2:M0 (λ_=>False) O1 w6 O1 w7:=ae (λh=>h) O1 c6;have d4:=d8.upd a2 zo (λh=>h);have e6:=g5.upd a2 zo (λh=>h);have e2:=e9.upd a2 zo (λh=>h);have a8:=b4.upd a2 zo (λh=>h);have g0:=g7.upd a2;have b9:∀m,m<i->Rt O1 w7 (nth ts m) (nth zs m):=λm hm=>(c9 m hm).upd a2
   have b1:=b7.trans (a2.mono (λ_ h=>h.elim) b2);have e3:=LO (d4.cell 2 rfl) (az b1 b5);refine zh ?_;apply aa e3;have a9:∀u∈[((y1,y2,brk):X3)],∀c∈bP u,c.oneCell'=true:=λu hu=>by
    rw[L5.1 hu];exact bJ a7.one a6.one
   apply L7 24 zk rfl;apply aD elR a8 g0 h7 (by simp) rfl rfl (λ_ _=>rfl) a9 (by simp;omega) (by simp;omega) zo rfl
   intro a5 w8 O8 a1 a4 f';have e7:=a1.one;have d3:=L2 d4 a4 zo zo;have b':=L2 e2 a4 zo zo;have e5:=L2 e6 a4 zo zo;have b0:=b1.trans (a4.mono (λ_ h=>by rw[h];omega) b2);have d5:=LO (d3.cell 2 rfl) (az b0 b5);refine zh ?_;apply aa d5;apply zrf 25 rfl d5 rfl;apply L7 26 zk rfl;apply ak (j:=2) b' rfl (Pe _) e7 rfl rfl rfl;have e8:Mc O8 (w8.setCell ⟨ob,2,none⟩ a5) (T+2) ob #[ig,kp,a5] 56:=b'.set 2 a5;have a0:M0 (λq=>q=T+2) O8 w8 O8 (w8.setCell ⟨ob,2,none⟩ a5):=M1 zo b'.tag rfl;have d2:=d3.upd a0 zo zo;have a3:=b0.trans (a0.mono (λ_ h=>by rw[h];omega) b2);have f8:=LO (d2.cell 2 rfl) (az a3 b5);refine zh ?_;apply aa f8;apply Me zk;refine zh ?_;refine zxd (i+1,O8,(w8.setCell ⟨ob,2,none⟩ a5),a5,zs++[((y1,y2,brk):X3)]) ⟨b3,d2,e5.upd a0 zo zo,e8,a1.upd a0 zo zo,by simp[d7],λm hm=>?_,a3,f'.upd a0⟩;dsimp only at hm ⊢
   by_cases e:m<i
   ·rw[aB (xs:=zs++[((y1,y2,brk):X3)]) (by simp;omega),LW zo,<-aB zo];exact((b9 m e).upd a4).upd a0
   obtain rfl:m=zs.length:=zo;rw[aB (xs:=zs++[((y1,y2,brk):X3)]) (by simp),LU zo];simp only[Mo,Md];rw[d7];exact⟨(a7.upd a4).upd a0,(a6.upd a4).upd a0,g'.trans (h5 i b3).2.2⟩
  apply zc NG (lP 1000000 (L3 _) (nth ts i).2.1 zo B O1 (nth xs i).2.1 w5 g1 ((h5 i b3).2.1.ext f9.2));rintro v6 w6 ⟨y2,rfl,g4,e4⟩;have c':=h0.upd (ae (S:=λ_=>False) (λh=>h) O1 e4);have a':M0 (λ_=>False) O1 w5 O1 w6:=ae (λh=>h) O1 e4;have d8:=g6.upd a' zo (λh=>h);have g5:=h6.upd a' zo (λh=>h);have e9:=g9.upd a' zo (λh=>h);have b4:=c7.upd a' zo (λh=>h);have g7:=g1.upd a';have c9:∀m,m<i->Rt O1 w6 (nth ts m) (nth zs m):=λm hm=>(d6 m hm).upd a'
  have b7:=d0.trans (a'.mono (λ_ h=>h.elim) b2);have d':=LO (d8.cell 2 rfl) (az b7 b5);refine zh ?_;apply aa d';apply zr 22 rfl d' (λ_=>Mw (vs:=[(0,nv y1),(1,nv y2),(2,.bool brk)]) (cells:=(bP (y1,y2,brk)).toArray) Cm (P3 _) rfl zk);refine bB 1 23 zk rfl rfl ?_ ?_
  ·refine zvH (RV.ld (e9.cell 2 rfl) rfl) ?_;apply aa d'
   apply L7 23 zk rfl;apply aU elR (enc:=bP) (y1,y2,brk) rfl rfl rfl zd rfl
   intro w7 h7 c6;have a7:=c'.upd (ae (S:=λ_=>False) (λh=>h) O1 c6);have a6:=g4.upd (ae (S:=λ_=>False) (λh=>h) O1 c6);have a2:M0 (λ_=>False) O1 w6 O1 w7:=ae (λh=>h) O1 c6;have d4:=d8.upd a2 zo (λh=>h);have e6:=g5.upd a2 zo (λh=>h);have e2:=e9.upd a2 zo (λh=>h);have a8:=b4.upd a2 zo (λh=>h);have g0:=g7.upd a2;have b9:∀m,m<i->Rt O1 w7 (nth ts m) (nth zs m):=λm hm=>(c9 m hm).upd a2
   have b1:=b7.trans (a2.mono (λ_ h=>h.elim) b2);have e3:=LO (d4.cell 2 rfl) (az b1 b5);refine zh ?_;apply aa e3;have a9:∀u∈[((y1,y2,brk):X3)],∀c∈bP u,c.oneCell'=true:=λu hu=>by
    rw[L5.1 hu];exact bJ a7.one a6.one
   apply L7 24 zk rfl;apply aD elR a8 g0 h7 (by simp) rfl rfl (λ_ _=>rfl) a9 (by simp;omega) (by simp;omega) zo rfl
   intro a5 w8 O8 a1 a4 f';have e7:=a1.one;have d3:=L2 d4 a4 zo zo;have b':=L2 e2 a4 zo zo;have e5:=L2 e6 a4 zo zo;have b0:=b1.trans (a4.mono (λ_ h=>by rw[h];omega) b2);have d5:=LO (d3.cell 2 rfl) (az b0 b5);refine zh ?_;apply aa d5;apply zrf 25 rfl d5 rfl;apply L7 26 zk rfl;apply ak (j:=2) b' rfl (Pe _) e7 rfl rfl rfl;have e8:Mc O8 (w8.setCell ⟨ob,2,none⟩ a5) (T+2) ob #[ig,kp,a5] 56:=b'.set 2 a5;have a0:M0 (λq=>q=T+2) O8 w8 O8 (w8.setCell ⟨ob,2,none⟩ a5):=M1 zo b'.tag rfl;have d2:=d3.upd a0 zo zo;have a3:=b0.trans (a0.mono (λ_ h=>by rw[h];omega) b2);have f8:=LO (d2.cell 2 rfl) (az a3 b5);refine zh ?_;apply aa f8;apply Me zk;refine zh ?_;refine zxd (i+1,O8,(w8.setCell ⟨ob,2,none⟩ a5),a5,zs++[((y1,y2,brk):X3)]) ⟨b3,d2,e5.upd a0 zo zo,e8,a1.upd a0 zo zo,by simp[d7],λm hm=>?_,a3,f'.upd a0⟩;dsimp only at hm ⊢
   by_cases e:m<i
   ·rw[aB (xs:=zs++[((y1,y2,brk):X3)]) (by simp;omega),LW zo,<-aB zo];exact((b9 m e).upd a4).upd a0
   obtain rfl:m=zs.length:=zo;rw[aB (xs:=zs++[((y1,y2,brk):X3)]) (by simp),LU zo];simp only[Mo,Md];rw[d7];exact⟨(a7.upd a4).upd a0,(a6.upd a4).upd a0,g'.trans (h5 i b3).2.2⟩
  apply aU elR (enc:=bP) (y1,y2,brk) rfl rfl rfl zd rfl;intro w7 h7 c6;have a7:=c'.upd (ae (S:=λ_=>False) (λh=>h) O1 c6);have a6:=g4.upd (ae (S:=λ_=>False) (λh=>h) O1 c6);have a2:M0 (λ_=>False) O1 w6 O1 w7:=ae (λh=>h) O1 c6;have d4:=d8.upd a2 zo (λh=>h);have e6:=g5.upd a2 zo (λh=>h);have e2:=e9.upd a2 zo (λh=>h);have a8:=b4.upd a2 zo (λh=>h);have g0:=g7.upd a2;have b9:∀m,m<i->Rt O1 w7 (nth ts m) (nth zs m):=λm hm=>(c9 m hm).upd a2
  have b1:=b7.trans (a2.mono (λ_ h=>h.elim) b2);have e3:=LO (d4.cell 2 rfl) (az b1 b5);refine zh ?_;apply aa e3;apply L7 1 zk rfl;refine zvH (RV.ld (e2.cell 2 rfl) rfl) ?_;apply aa e3;have a9:∀u∈[((y1,y2,brk):X3)],∀c∈bP u,c.oneCell'=true:=λu hu=>by
   rw[L5.1 hu];exact bJ a7.one a6.one
  apply L7 24 zk rfl;apply aD elR a8 g0 h7 (by simp) rfl rfl (λ_ _=>rfl) a9 (by simp;omega) (by simp;omega) zo rfl
  intro a5 w8 O8 a1 a4 f';have e7:=a1.one;have d3:=L2 d4 a4 zo zo;have b':=L2 e2 a4 zo zo;have e5:=L2 e6 a4 zo zo;have b0:=b1.trans (a4.mono (λ_ h=>by rw[h];omega) b2);have d5:=LO (d3.cell 2 rfl) (az b0 b5);refine zh ?_;apply aa d5;apply zrf 25 rfl d5 rfl;apply L7 26 zk rfl;apply ak (j:=2) b' rfl (Pe _) e7 rfl rfl rfl;have e8:Mc O8 (w8.setCell ⟨ob,2,none⟩ a5) (T+2) ob #[ig,kp,a5] 56:=b'.set 2 a5;have a0:M0 (λq=>q=T+2) O8 w8 O8 (w8.setCell ⟨ob,2,none⟩ a5):=M1 zo b'.tag rfl;have d2:=d3.upd a0 zo zo;have a3:=b0.trans (a0.mono (λ_ h=>by rw[h];omega) b2);have f8:=LO (d2.cell 2 rfl) (az a3 b5);refine zh ?_;apply aa f8;apply Me zk;refine zh ?_;refine zxd (i+1,O8,(w8.setCell ⟨ob,2,none⟩ a5),a5,zs++[((y1,y2,brk):X3)]) ⟨b3,d2,e5.upd a0 zo zo,e8,a1.upd a0 zo zo,by simp[d7],λm hm=>?_,a3,f'.upd a0⟩;dsimp only at hm ⊢
  by_cases e:m<i
  ·rw[aB (xs:=zs++[((y1,y2,brk):X3)]) (by simp;omega),LW zo,<-aB zo];exact((b9 m e).upd a4).upd a0
  obtain rfl:m=zs.length:=zo;rw[aB (xs:=zs++[((y1,y2,brk):X3)]) (by simp),LU zo];simp only[Mo,Md];rw[d7];exact⟨(a7.upd a4).upd a0,(a6.upd a4).upd a0,g'.trans (h5 i b3).2.2⟩
 intro j9;obtain rfl:i=xs.length:=dF j9;have j7:=c8.one;refine zh ?_;apply zv (ai (us:=[ig,kp,lv]) e'.cellsAdd (Nc _) (Ml _) rfl);apply zsb (us:=#[ig,kp,lv]) d1 (Ml _) (by simp only[L9,o1,o2,j7];rfl);have j0:=d1.setRow (us:=#[ig,kp,lv]);have a0:M0 (λq=>q=T+1) O1 g3 O1 (g3.setRow xb #[ig,kp,lv]):=L0 zo d1.tag rfl;have e1:=c8.upd a0 zo zo;have a3:=d9.trans (a0.mono (λ_ h=>by rw[h];omega) b2);have k6:=az a3 b5;refine zh ?_;refine aL rfl rfl j0.cellsAdd (Nc _) (Ml _) ⟨lv,rfl,⟨zs,e1.sl,e1.freeT zo (λb=>by have:=hT b;omega) (g2.upd a0) a3,zo,λm hm=>((h9 m zo).upd a0).weak (λb e=>a3.z0 b e)⟩,k6⟩
theorem qC(q:Int):∀(n:Nat) (t:Nd),nsz t<=n->∀(x:N3) (w:ln),Nt (λ_=>0) w t x->MK M9 148 [nv x,nI q] w λv w'=>v=.bool (Br q t)/\ME w w'
 |0,t,hn=>by have:=dd t;omega
 |n+1,.mk k c kids,hn=>by
  intro x w h;have a7:=h.ones;obtain⟨xs,hs,hf,hl,hk⟩:=h.kids;simp only[Pi]at hl hk;simp only[nsz]at hn;have hM:Br q (.mk k c kids)=((k==q)||D3 q kids):=rfl;rw[hM];generalize x.2.2=sv at *;subst a7;simp only[Ph,Py];have a':=hs.len_le;apply ix func148 ntmps148 rfl rfl;refine zh ?_;apply aN (ax w) 1 zo rfl rfl;intro xb w1 O1 a4 b1 b2 a2;have c0:w1.cell? (nA xb 0)=some (nI k):=a4.cell 0 rfl;have c2:w1.cell? (nA xb 2)=some sv:=a4.cell 2 rfl;have a9:=hs.ext a2;refine zh ?_;apply zlp (λy:Nat×ln=>[(1,nI q),(2,nP xb),(5,nI y.1)]) (λy=>y.2) (λy=>y.1<=xs.length/\ME w1 y.2/\∀i,i<y.1->Br q (nth kids i)=false) (λy=>xs.length-y.1) (0,w1) ⟨LP _,LY _,λi hi=>absurd hi (LQ i)⟩;rintro⟨i,w2⟩ ⟨hi,a0,a3⟩;dsimp only at hi a0 a3 ⊢;have a8:=a9.ext a0;have d0:=a0.cell c0;have d2:=a0.cell c2;refine zh ?_;refine zC ?_ ?_
  ·intro a1;replace a1:i<xs.length:=dT a1;have b0:=bM kids i zo;refine zh ?_;refine zvH (ai (us:=aX (nth xs i)) (λj u hu=>a8.cell a1 hu) (Mj _) (LZ _) rfl) ?_;apply zc call148 (qC q n (nth kids i) zo (nth xs i) w2 ((hk i a1).ext (a2.trans a0)));rintro v w3 ⟨rfl,a6⟩;refine zh ?_;refine zC ?_ ?_
   ·intro hy;have hL:D3 q kids=true:=by rw[<-sP];exact eD.2 ⟨i,zo,hy⟩
    refine zh ?_;refine af rfl rfl ⟨by rw[hL,Bool.or_true],(a2.trans a0).trans a6⟩
   intro hy;refine zh ?_;refine zxd (i+1,w3) ⟨a1,a0.trans a6,λj hj=>(L1.1 hj).elim (a3 j) (λe=>by rw[e];exact hy)⟩
  intro a5;replace a5:xs.length<=i:=dF a5;have hL:D3 q kids=false:=by rw[<-sP];exact bK.2 λj hj=>a3 j zo
  refine zh ?_;refine af rfl rfl ⟨by rw[hL,Bool.or_false],a2.trans a0⟩
theorem jB:∀(n:Nat),n<=1000000->∀(t:Nd),nsz t<=n->(∃wi,bS t wi=true)->∀(x:N3) (w:ln),Nt (λ_=>0) w t x->MK M9 147 [nv x] w λv w'=>v=nI (cz t)/\ME w w'
 |0,_,t,hn,_=>by have:=dd t;omega
 |n+1,hn6,.mk k c kids,hn,⟨wi,hfit⟩=>by
  intro x w h;have b2:=h.ones;obtain⟨xs,hs,hf,hl,hk⟩:=h.kids;simp only[Pi]at hl hk;simp only[nsz]at hn;simp only[bS,LV]at hfit;obtain⟨a7,a6⟩:=hfit;have d4:=dE a7;have hM:cz (.mk k c kids)=if k=6\/k=7 then -1 else if k=9 then 0 else if k=4\/k=5\/k=8 then cP (k==4) 0 kids else 1:=rfl
  generalize x.2.2=sv at *;subst b2;simp only[Ph,Py];have b9:=hs.len_le;have d1:=ey kids;apply ix func147 ntmps147 rfl rfl;refine zh ?_;apply aN (ax w) 1 zo rfl rfl;intro xb w1 O1 b0 d5 d6 a4;have c0:w1.cell? (nA xb 0)=some (nI k):=b0.cell 0 rfl;have c2:w1.cell? (nA xb 2)=some sv:=b0.cell 2 rfl;have b5:=hs.ext a4;refine zh ?_;refine ct (λw1=>_=w1) ((k==7)) 3 rfl rfl rfl rfl rfl rfl ?_ ?_
  ·intro a1;refine zh ?_;refine nE 10 4 rfl a1
  rintro _ rfl;refine zh ?_;refine zC ?_ ?_
  ·intro hc;simp only[Nm,beq_iff_eq]at hc;refine zh ?_;refine af rfl rfl ⟨by rw[hM,if_pos hc],a4⟩
  intro hc;simp only[N5,beq_eq_false_iff_ne]at hc;refine zh ?_;refine zC ?_ ?_
  ·intro a8;replace a8:=of_decide_eq_true a8;refine zh ?_;refine af rfl rfl ⟨by rw[hM,if_neg zo,if_neg zo,if_neg zo],a4⟩
  intro a8;replace a8:=of_decide_eq_false a8;have c6:cz (.mk k c kids)=cP (k==4) 0 kids:=by
   rw[hM,if_neg zo]
   by_cases h9:k=9
   ·obtain rfl:kids=[]:=M8 zo;rw[if_pos h9];rfl
   rw[if_neg h9,if_pos zo]
  rw[c6];refine zh ?_;apply zlp (λy:Nat×Int×Int×ln=>[(1,nP xb),(3,nI y.2.1),(4,nI y.2.2.1),(5,nI y.1)]) (λy=>y.2.2.2) (λy=>y.1<=xs.length/\0<=y.2.1/\y.2.1<=dI (kids.take y.1)/\0<=y.2.2.1/\y.2.2.1<=dI (kids.take y.1)/\cP true y.2.1 (kids.drop y.1)=cP true 0 kids/\cP false y.2.2.1 (kids.drop y.1)=cP false 0 kids/\ME w1 y.2.2.2) (λy=>xs.length-y.1) (0,0,0,w1) ⟨LP _,PI _,by simp[dI],PI _,by simp[dI],rfl,rfl,LY _⟩;rintro⟨i,su,mo,w2⟩ ⟨hi,b6,b3,b8,b7,a0,a2,a3⟩;dsimp only at hi b6 b3 b8 b7 a0 a2 a3 ⊢;have b4:=b5.ext a3;have d0:=a3.cell c0;have d2:=a3.cell c2;refine zh ?_;refine zC ?_ ?_
  ·intro a5;replace a5:i<xs.length:=dT a5;have c':=bM kids i zo;have c8:=dV kids i zo;have c7:=cJ kids (i+1);have c9:=kW (nth kids i);have b':bS (nth kids i) true=true:=oZ kids a6 _ (by rw[aB zo];exact Ni _);rw[jZ zo]at a0 a2;have hu:∀s a9,cP s a9 (nth kids i::kids.drop (i+1))=if cz (nth kids i)<0 then -1 else cP s (if s=true then a9+cz (nth kids i)else max a9 (cz (nth kids i))) (kids.drop (i+1)):=λs a9=>rfl
   rw[hu]at a0 a2;refine zh ?_;apply zv (ai (us:=aX (nth xs i)) (λj u hu=>b4.cell a5 hu) (Mj _) (LZ _) rfl);apply zc call147 (jB n zo (nth kids i) zo ⟨true,b'⟩ (nth xs i) w2 ((hk i a5).ext (a4.trans a3)));rintro v w3 ⟨rfl,b1⟩;refine zh ?_;refine zC ?_ ?_
   ·intro hy;replace hy:=of_decide_eq_true hy;rw[if_pos hy]at a0 a2;have a':cP (k==4) 0 kids = -1:=by
     cases d3:(k==4)with
     |false=>exact a2.symm
     |true=>exact a0.symm
    refine zh ?_;refine af rfl rfl ⟨by rw[a'],(a4.trans a3).trans b1⟩
   intro hy;replace hy:=of_decide_eq_false hy;rw[if_neg hy]at a0 a2;refine zh ?_;refine zvH (gQ rfl rfl) ?_;refine zxd (i+1,su+cz (nth kids i),max mo (cz (nth kids i)),w3) ⟨a5,by dsimp only;omega,by dsimp only;omega,by dsimp only;omega,by dsimp only;omega,a0,a2,a3.trans b1⟩
  intro c5;obtain rfl:i=xs.length:=dF c5;rw[NF zo]at a0 a2;refine zh ?_;refine zC ?_ ?_
  ·intro h4;refine zh ?_;refine af rfl rfl ⟨by rw[h4,<-a0];rfl,a4.trans a3⟩
  intro h4;refine zh ?_;refine af rfl rfl ⟨by rw[h4,<-a2];rfl,a4.trans a3⟩
theorem uy(t:Nd)(x:N3)(w:ln)(h:Nt (λ_=>0) w t x)(hr:bp t=true):MK M9 107 [nv x] w λv w'=>v=nI (dm t)/\ME w w':=by
 have hx:=h.ones;have a4:=hr;simp only[bp,LV,decide_eq_true_eq]at hr;apply ix func107 ntmps107 rfl rfl;refine zh ?_;apply aN (ax w) 1 zo rfl rfl;intro xb w1 O1 a6 a9 a' a3;have a5:∀W,ME w1 W->∀(j:Nat) (u:L4),(aX x)[j]? = some u->W.cell? (nA xb j)=some u:=λW hE j u hu=>hE.cell (a6.cellsAdd j u hu)
 refine zh ?_;apply zv (ai (us:=aX x) (a5 w1 (LY _)) (Mj _) (LZ _) rfl)
 apply zc call147 (jB 2000 zd t hr.1 ⟨false,hr.2⟩ x w1 (h.ext a3));rintro v w2 ⟨rfl,a2⟩;refine zh ?_
 apply zv (ai (us:=aX x) (a5 w2 a2) (Mj _) (LZ _) rfl);apply zc call148 (qC 3 (nsz t) t (L3 _) x w2 (h.ext (a3.trans a2)))
 rintro v w3 ⟨rfl,a8⟩;have a0:=(a3.trans a2).trans a8;refine zh ?_;refine zC ?_ ?_
 ·intro h1;refine zh ?_;refine af rfl rfl ⟨by unfold dm;rw[a4,h1];rfl,a0⟩
 intro h1;have a7:dm t=if(decide (cz t<0)||decide (4<cz t))=true then 8 else 0:=by
  unfold dm uQ uP;rw[a4,h1,if_neg zd,if_pos rfl]
  by_cases h0:cz t<0
  ·rw[decide_eq_true h0,decide_eq_false (show¬(0:Int)<=cz t by omega)];rfl
  rw[decide_eq_false h0,decide_eq_true (show(0:Int)<=cz t by omega),show max (cz t) 0=cz t by omega];rfl
 rw[a7];refine zh ?_;refine ct (λw1=>_=w1) (decide (4<cz t)) 2 rfl rfl rfl rfl rfl rfl ?_ ?_
 ·intro a1;refine zh ?_;refine nE 12 3 rfl a1
 rintro _ rfl;refine zh ?_;refine zC ?_ ?_
 ·intro h2;refine zh ?_;refine af rfl rfl ⟨by rw[if_pos h2],a0⟩
 intro h2;refine zh ?_;refine af rfl rfl ⟨by rw[if_neg (by rw[h2];decide)],a0⟩
theorem KV{kids:List Nd}(h:(k<0\/9<k)\/(k=9/\wi=true)):bS (.mk k c kids) wi=false:=by
 cases hq:bS (.mk k c kids) wi with
 |false=>rfl
 |true=>
  simp only[bS,LV]at hq;have hc:=dE hq.1
  rcases h with h|⟨rfl,rfl⟩
  ·omega
  simp at hc
theorem J0{kids:List Nd}(hk:k=0\/k=2):bS (.mk k c kids) wi=(((((kids.length:Nat):Int)==0)&&decide (0<=c))&&decide (c<=35)):=by
 rw[Nn]
 cases kids with
 |nil=>rcases hk with rfl|rfl<;>simp[bS,eO,fz,least,fJ,named]<;>omega
 |cons a r=>
  constructor
  ·intro h;simp only[bS,LV]at h;have hc:=dE h.1;simp only[MV]at hc;omega
  intro h;simp at h;omega
theorem IV{kids:List Nd}(hk:(k=1\/k=3)\/(k=9/\wi=false)):bS (.mk k c kids) wi=((((kids.length:Nat):Int)==0)&&(c==0)):=by
 rw[Nn]
 cases kids with
 |nil=>rcases hk with(rfl|rfl)|⟨rfl,rfl⟩<;>simp[bS,eO,fz,least,fJ,named]
 |cons a r=>
  constructor
  ·intro h;simp only[bS,LV]at h;have hc:=dE h.1;simp only[MV]at hc;omega
  intro h;simp at h;omega
theorem JZ{kids:List Nd}(hk:k=4\/k=5)(h:kids.length<2):bS (.mk k c kids) wi=false:=by
 cases hq:bS (.mk k c kids) wi with
 |false=>rfl
 |true=>
  simp only[bS,LV]at hq;have hc:=dE hq.1;omega
theorem IU{kids:List Nd}(hk:k=6\/k=7\/k=8)(h:kids.length≠1):bS (.mk k c kids) wi=false:=by
 cases hq:bS (.mk k c kids) wi with
 |false=>rfl
 |true=>
  simp only[bS,LV]at hq;have hc:=dE hq.1;omega
theorem Df{kids:List Nd}(hk:((k=4\/k=5)/\2<=kids.length)\/((k=6\/k=7\/k=8)/\kids.length=1))(hn:kids.length<=2000)(hf:eO kids=true):bS (.mk k c kids) wi=(c==0):=by
 have hF:bS (.mk k c kids) wi=(fz k c kids.length wi&&eO kids):=rfl;rw[hF,hf,Pq,Nn];generalize kids.length=m at *
 rcases hk with⟨rfl|rfl,h⟩|⟨rfl|rfl|rfl,rfl⟩<;>simp[fz,least,fJ,named]<;>omega
theorem De{kids:List Nd}(hi:i<kids.length)(hy:bS (nth kids i) true=false):bS (.mk k c kids) wi=false:=by
 have a0:eO kids=false:=by
  cases hq:eO kids with
  |false=>rfl
  |true=>exact absurd (oZ kids hq (nth kids i) (by rw[aB hi];exact Ni _)) (by rw[hy];decide)
 have hF:bS (.mk k c kids) wi=(fz k c kids.length wi&&eO kids):=rfl;rw[hF,a0,Nw]
theorem dj:∀(n:Nat),n<=2000->∀(t:Nd),nsz t<=n->∀(x:N3) (w:ln) (wi:Bool),Nt (λ_=>0) w t x->MK M9 260 [nv x,.bool wi] w λv w'=>v=.bool (bS t wi)/\ME w w'
 |0,_,t,hn=>by have:=dd t;omega
 |n+1,hn2,.mk k c kids,hn=>by
  intro x w wi h;have c5:=h.ones;have b9:=h;obtain⟨xs,hs,hf,hl,hk⟩:=h.kids;simp only[Pi]at hl hk;have d1:nsz (.mk k c kids)<=2000:=zo;simp only[nsz]at hn;have d2:=ey kids;have b0:kids.length<=2000:=zo;generalize c':x.2.2=sv at *;subst c5;simp only[Ph,Py];simp only[Ph,Py]at b9;have c6:=hs.len_le;apply ix func260 ntmps260 rfl rfl;refine zh ?_;apply aN (ax w) 1 zo rfl rfl;intro xb w1 O1 b7 d4 d5 a7;have c9:∀W,ME w1 W->∀(j:Nat) (u:L4),(aX (k,c,sv))[j]? = some u->W.cell? (nA xb j)=some u:=λW hE j u hu=>hE.cell (b7.cellsAdd j u hu)
  have c0:∀W,ME w1 W->W.cell? (nA xb 0)=some (nI k):=λW hE=>hE.cell (b7.cell 0 rfl)
  have c1:∀W,ME w1 W->W.cell? (nA xb 1)=some (nI c):=λW hE=>hE.cell (b7.cell 1 rfl)
  have c2:∀W,ME w1 W->W.cell? (nA xb 2)=some sv:=λW hE=>hE.cell (b7.cell 2 rfl)
  refine zh ?_;refine aT (ME w1) false 3 (LY w1) rfl rfl rfl rfl rfl ?_ ?_
  ·intro a1;refine zh ?_;refine zvH (ai (us:=aX (k,c,sv)) (c9 _ (LY _)) (Mj _) (LZ _) rfl) ?_;apply zc call146 (ow (nsz (.mk k c kids)) (.mk k c kids) (L3 _) (k,c,sv) w1 2000 (b9.ext a7) zd);rintro v w2 ⟨rfl,a8⟩;rw[show min (nsz (.mk k c kids)) (2000+1)=nsz (.mk k c kids)from by omega];refine zh ?_;rw[decide_eq_false (show¬((2000:Int)<((nsz (.mk k c kids):Nat):Int))from by omega)];refine zh ?_;refine nE 9 4 a8 a1
  intro w2 a8;refine zh ?_;refine ct (λw1=>_=w1) (decide (k<0)) 3 rfl rfl rfl rfl rfl rfl ?_ ?_
  ·intro a2;refine zh ?_;refine zvH (RV.ld (c0 _ a8) rfl) ?_;refine nE 14 4 rfl a2
  rintro _ rfl;refine zh ?_;refine ct (λw1=>_=w1) (decide (9<k)) 3 rfl rfl rfl rfl rfl rfl ?_ ?_
  ·intro a3;refine zh ?_;refine zvH (RV.ld (c0 _ a8) rfl) ?_;refine nE 19 4 rfl a3
  rintro _ rfl;refine zh ?_;refine ct (λw1=>_=w1) (((k==9)&&wi)) 6 rfl rfl rfl rfl rfl rfl ?_ ?_
  ·intro a4;refine zh ?_;refine zvH (RV.ld (c0 _ a8) rfl) ?_
   cases c8:(k==9)with
   |true=>
    apply au (d:=28) rfl (b':=true) rfl;refine zh ?_
    refine nE 24 8 rfl a4
   |false=>
    apply au (d:=28) rfl (b':=false) rfl;refine zh ?_
    refine nE 24 8 rfl a4
  rintro _ rfl;have hE:=a7.trans a8;refine zh ?_;refine zC ?_ ?_
  ·intro hc
   have hz:bS (.mk k c kids) wi=false:=KV (by
    simp only[Nw,Pp,Nm,LV,decide_eq_true_eq,beq_iff_eq]at hc
    exact hc)
   refine zh ?_;refine af rfl rfl ⟨by rw[hz],hE⟩
  intro hc;simp only[Nw,Pp,N5,decide_eq_false_iff_not]at hc;obtain⟨⟨d3,c8⟩,h9⟩:=hc;have d0:=hs.ext hE;refine zh ?_;refine zvH (RV.ld (c2 _ a8) rfl) ?_;refine zvH (RV.ld (c0 _ a8) rfl) ?_;have c7:k=0\/k=1\/k=2\/k=3\/k=4\/k=5\/k=6\/k=7\/k=8\/k=9:=zo
  rcases c7 with rfl|rfl|rfl|rfl|rfl|rfl|rfl|rfl|rfl|rfl
  ·refine zTH rfl rfl ?_;refine zTH rfl rfl ?_
   refine aT (λw1=>_=w1) (decide (0<=c)) 3 rfl rfl rfl rfl rfl rfl ?_ ?_
   ·intro b1;refine zh ?_;refine zvH (RV.ld (c1 _ a8) rfl) ?_;refine nE 44 4 rfl b1
   rintro _ rfl;refine zh ?_;refine aT (λw1=>_=w1) (decide (c<=35)) 3 rfl rfl rfl rfl rfl rfl ?_ ?_
   ·intro b2;refine zh ?_;refine zvH (RV.ld (c1 _ a8) rfl) ?_;refine nE 49 4 rfl b2
   rintro _ rfl;have hz:=J0 (k:=0) (c:=c) (kids:=kids) (wi:=wi) zd;rw[hl]at hz;refine zh ?_;refine af rfl rfl ⟨by rw[hz],hE⟩
  ·refine zFH rfl rfl ?_;refine zFH rfl rfl ?_
   refine zTH rfl rfl ?_;refine zTH rfl rfl ?_
   refine aT (λw1=>_=w1) ((c==0)) 3 rfl rfl rfl rfl rfl rfl ?_ ?_
   ·intro b1;refine zh ?_;refine zvH (RV.ld (c1 _ a8) rfl) ?_;refine nE 60 4 rfl b1
   rintro _ rfl;have hz:=IV (k:=1) (c:=c) (kids:=kids) (wi:=wi) (.inl zd);rw[hl]at hz;refine zh ?_;refine af rfl rfl ⟨by rw[hz],hE⟩
  ·refine zFH rfl rfl ?_;refine zTH rfl rfl ?_
   refine aT (λw1=>_=w1) (decide (0<=c)) 3 rfl rfl rfl rfl rfl rfl ?_ ?_
   ·intro b1;refine zh ?_;refine zvH (RV.ld (c1 _ a8) rfl) ?_;refine nE 44 4 rfl b1
   rintro _ rfl;refine zh ?_;refine aT (λw1=>_=w1) (decide (c<=35)) 3 rfl rfl rfl rfl rfl rfl ?_ ?_
   ·intro b2;refine zh ?_;refine zvH (RV.ld (c1 _ a8) rfl) ?_;refine nE 49 4 rfl b2
   rintro _ rfl;have hz:=J0 (k:=2) (c:=c) (kids:=kids) (wi:=wi) zd;rw[hl]at hz;refine zh ?_;refine af rfl rfl ⟨by rw[hz],hE⟩
  ·refine zFH rfl rfl ?_;refine zFH rfl rfl ?_
   refine zFH rfl rfl ?_;refine zTH rfl rfl ?_
   refine zTH rfl rfl ?_;refine aT (λw1=>_=w1) ((c==0)) 3 rfl rfl rfl rfl rfl rfl ?_ ?_
   ·intro b1;refine zh ?_;refine zvH (RV.ld (c1 _ a8) rfl) ?_;refine nE 60 4 rfl b1
   rintro _ rfl;have hz:=IV (k:=3) (c:=c) (kids:=kids) (wi:=wi) (.inl zd);rw[hl]at hz;refine zh ?_;refine af rfl rfl ⟨by rw[hz],hE⟩
  ·refine zFH rfl rfl ?_;refine zFH rfl rfl ?_
   refine zFH rfl rfl ?_;refine zFH rfl rfl ?_
   refine zFH rfl rfl ?_;refine zTH rfl rfl ?_
   refine zTH rfl rfl ?_;refine zC ?_ ?_
   ·intro h2;replace h2:=of_decide_eq_true h2;have hz:=JZ (k:=4) (c:=c) (wi:=wi) (kids:=kids) zd zo;refine zh ?_;refine af rfl rfl ⟨by rw[hz],hE⟩
   intro h2;replace h2:=of_decide_eq_false h2;have b5:((((4:Int)=4\/(4:Int)=5)/\2<=kids.length)\/(((4:Int)=6\/(4:Int)=7\/(4:Int)=8)/\kids.length=1)):=.inl ⟨zd,zo⟩;refine zh ?_;apply zlp (λy:Nat×ln=>[(2,nP xb),(5,nI xs.length),(6,nI y.1)]) (λy=>y.2) (λy=>y.1<=xs.length/\ME w1 y.2/\∀i,i<y.1->bS (nth kids i) true=true) (λy=>xs.length-y.1) (0,w2) ⟨LP _,a8,λi hi=>absurd hi (LQ i)⟩;rintro⟨i,w3⟩ ⟨hi,a0,a5⟩;dsimp only at hi a0 a5 ⊢;have b3:=hs.ext (a7.trans a0);refine zh ?_;refine zC ?_ ?_
   ·intro a6;replace a6:i<xs.length:=dT a6;have b8:=bM kids i zo;refine zh ?_;refine zvH (RV.ld (c2 _ a0) rfl) ?_;apply zv (ai (us:=aX (nth xs i)) (λj u hu=>b3.cell a6 hu) (Mj _) (LZ _) rfl);apply zc ND (dj n zo (nth kids i) zo (nth xs i) w3 true ((hk i a6).ext (a7.trans a0)));rintro u w4 ⟨rfl,a'⟩;refine zh ?_;refine zC ?_ ?_
    ·intro hy;replace hy:bS (nth kids i) true=false:=by simpa using hy
     have hz:=De (k:=4) (c:=c) (wi:=wi) (show i<kids.length by omega) hy;refine zh ?_;refine af rfl rfl ⟨by rw[hz],(a7.trans a0).trans a'⟩
    intro hy;replace hy:bS (nth kids i) true=true:=by simpa using hy
    refine zh ?_;refine zxd (i+1,w4) ⟨a6,a0.trans a',λj hj=>(L1.1 hj).elim (a5 j) (λe=>by rw[e];exact hy)⟩
   intro a9;replace a9:xs.length<=i:=dF a9;have b4:eO kids=true:=by
    rw[<-gi,MA];exact bK.2 λj hj=>by rw[a5 j zo];rfl
   have hz:=Df (k:=4) (c:=c) (wi:=wi) b5 b0 b4;refine zh ?_;refine zvH (RV.ld (c1 _ a0) rfl) ?_;refine af rfl rfl ⟨by rw[hz],a7.trans a0⟩
  ·refine zFH rfl rfl ?_;refine zFH rfl rfl ?_
   refine zFH rfl rfl ?_;refine zFH rfl rfl ?_
   refine zFH rfl rfl ?_;refine zFH rfl rfl ?_
   refine zTH rfl rfl ?_;refine zC ?_ ?_
   ·intro h2;replace h2:=of_decide_eq_true h2;have hz:=JZ (k:=5) (c:=c) (wi:=wi) (kids:=kids) zd zo;refine zh ?_;refine af rfl rfl ⟨by rw[hz],hE⟩
   intro h2;replace h2:=of_decide_eq_false h2;have b5:((((5:Int)=4\/(5:Int)=5)/\2<=kids.length)\/(((5:Int)=6\/(5:Int)=7\/(5:Int)=8)/\kids.length=1)):=.inl ⟨zd,zo⟩;refine zh ?_;apply zlp (λy:Nat×ln=>[(2,nP xb),(5,nI xs.length),(6,nI y.1)]) (λy=>y.2) (λy=>y.1<=xs.length/\ME w1 y.2/\∀i,i<y.1->bS (nth kids i) true=true) (λy=>xs.length-y.1) (0,w2) ⟨LP _,a8,λi hi=>absurd hi (LQ i)⟩;rintro⟨i,w3⟩ ⟨hi,a0,a5⟩;dsimp only at hi a0 a5 ⊢;have b3:=hs.ext (a7.trans a0);refine zh ?_;refine zC ?_ ?_
   ·intro a6;replace a6:i<xs.length:=dT a6;have b8:=bM kids i zo;refine zh ?_;refine zvH (RV.ld (c2 _ a0) rfl) ?_;apply zv (ai (us:=aX (nth xs i)) (λj u hu=>b3.cell a6 hu) (Mj _) (LZ _) rfl);apply zc ND (dj n zo (nth kids i) zo (nth xs i) w3 true ((hk i a6).ext (a7.trans a0)));rintro u w4 ⟨rfl,a'⟩;refine zh ?_;refine zC ?_ ?_
    ·intro hy;replace hy:bS (nth kids i) true=false:=by simpa using hy
     have hz:=De (k:=5) (c:=c) (wi:=wi) (show i<kids.length by omega) hy;refine zh ?_;refine af rfl rfl ⟨by rw[hz],(a7.trans a0).trans a'⟩
    intro hy;replace hy:bS (nth kids i) true=true:=by simpa using hy
    refine zh ?_;refine zxd (i+1,w4) ⟨a6,a0.trans a',λj hj=>(L1.1 hj).elim (a5 j) (λe=>by rw[e];exact hy)⟩
   intro a9;replace a9:xs.length<=i:=dF a9;have b4:eO kids=true:=by
    rw[<-gi,MA];exact bK.2 λj hj=>by rw[a5 j zo];rfl
   have hz:=Df (k:=5) (c:=c) (wi:=wi) b5 b0 b4;refine zh ?_;refine zvH (RV.ld (c1 _ a0) rfl) ?_;refine af rfl rfl ⟨by rw[hz],a7.trans a0⟩
  ·refine zFH rfl rfl ?_;refine zFH rfl rfl ?_
   refine zFH rfl rfl ?_;refine zFH rfl rfl ?_
   refine zFH rfl rfl ?_;refine zFH rfl rfl ?_
   refine zFH rfl rfl ?_;refine zC ?_ ?_
   ·intro h2;have b6:(xs.length:Int)≠1:=by simpa using h2
    have hz:=IU (k:=6) (c:=c) (wi:=wi) (kids:=kids) zd zo;refine zh ?_;refine af rfl rfl ⟨by rw[hz],hE⟩
   intro h2;have b6:(xs.length:Int)=1:=by simpa using h2
   have b5:((((6:Int)=4\/(6:Int)=5)/\2<=kids.length)\/(((6:Int)=6\/(6:Int)=7\/(6:Int)=8)/\kids.length=1)):=.inr ⟨zd,zo⟩;refine zh ?_;apply zlp (λy:Nat×ln=>[(2,nP xb),(5,nI xs.length),(6,nI y.1)]) (λy=>y.2) (λy=>y.1<=xs.length/\ME w1 y.2/\∀i,i<y.1->bS (nth kids i) true=true) (λy=>xs.length-y.1) (0,w2) ⟨LP _,a8,λi hi=>absurd hi (LQ i)⟩;rintro⟨i,w3⟩ ⟨hi,a0,a5⟩;dsimp only at hi a0 a5 ⊢;have b3:=hs.ext (a7.trans a0);refine zh ?_;refine zC ?_ ?_
   ·intro a6;replace a6:i<xs.length:=dT a6;have b8:=bM kids i zo;refine zh ?_;refine zvH (RV.ld (c2 _ a0) rfl) ?_;apply zv (ai (us:=aX (nth xs i)) (λj u hu=>b3.cell a6 hu) (Mj _) (LZ _) rfl);apply zc ND (dj n zo (nth kids i) zo (nth xs i) w3 true ((hk i a6).ext (a7.trans a0)));rintro u w4 ⟨rfl,a'⟩;refine zh ?_;refine zC ?_ ?_
    ·intro hy;replace hy:bS (nth kids i) true=false:=by simpa using hy
     have hz:=De (k:=6) (c:=c) (wi:=wi) (show i<kids.length by omega) hy;refine zh ?_;refine af rfl rfl ⟨by rw[hz],(a7.trans a0).trans a'⟩
    intro hy;replace hy:bS (nth kids i) true=true:=by simpa using hy
    refine zh ?_;refine zxd (i+1,w4) ⟨a6,a0.trans a',λj hj=>(L1.1 hj).elim (a5 j) (λe=>by rw[e];exact hy)⟩
   intro a9;replace a9:xs.length<=i:=dF a9;have b4:eO kids=true:=by
    rw[<-gi,MA];exact bK.2 λj hj=>by rw[a5 j zo];rfl
   have hz:=Df (k:=6) (c:=c) (wi:=wi) b5 b0 b4;refine zh ?_;refine zvH (RV.ld (c1 _ a0) rfl) ?_;refine af rfl rfl ⟨by rw[hz],a7.trans a0⟩
  ·refine zFH rfl rfl ?_;refine zFH rfl rfl ?_
   refine zFH rfl rfl ?_;refine zFH rfl rfl ?_
   refine zFH rfl rfl ?_;refine zFH rfl rfl ?_
   refine zFH rfl rfl ?_;refine zC ?_ ?_
   ·intro h2;have b6:(xs.length:Int)≠1:=by simpa using h2
    have hz:=IU (k:=7) (c:=c) (wi:=wi) (kids:=kids) zd zo;refine zh ?_;refine af rfl rfl ⟨by rw[hz],hE⟩
   intro h2;have b6:(xs.length:Int)=1:=by simpa using h2
   have b5:((((7:Int)=4\/(7:Int)=5)/\2<=kids.length)\/(((7:Int)=6\/(7:Int)=7\/(7:Int)=8)/\kids.length=1)):=.inr ⟨zd,zo⟩;refine zh ?_;apply zlp (λy:Nat×ln=>[(2,nP xb),(5,nI xs.length),(6,nI y.1)]) (λy=>y.2) (λy=>y.1<=xs.length/\ME w1 y.2/\∀i,i<y.1->bS (nth kids i) true=true) (λy=>xs.length-y.1) (0,w2) ⟨LP _,a8,λi hi=>absurd hi (LQ i)⟩;rintro⟨i,w3⟩ ⟨hi,a0,a5⟩;dsimp only at hi a0 a5 ⊢;have b3:=hs.ext (a7.trans a0);refine zh ?_;refine zC ?_ ?_
   ·intro a6;replace a6:i<xs.length:=dT a6;have b8:=bM kids i zo;refine zh ?_;refine zvH (RV.ld (c2 _ a0) rfl) ?_;apply zv (ai (us:=aX (nth xs i)) (λj u hu=>b3.cell a6 hu) (Mj _) (LZ _) rfl);apply zc ND (dj n zo (nth kids i) zo (nth xs i) w3 true ((hk i a6).ext (a7.trans a0)));rintro u w4 ⟨rfl,a'⟩;refine zh ?_;refine zC ?_ ?_
    ·intro hy;replace hy:bS (nth kids i) true=false:=by simpa using hy
     have hz:=De (k:=7) (c:=c) (wi:=wi) (show i<kids.length by omega) hy;refine zh ?_;refine af rfl rfl ⟨by rw[hz],(a7.trans a0).trans a'⟩
    intro hy;replace hy:bS (nth kids i) true=true:=by simpa using hy
    refine zh ?_;refine zxd (i+1,w4) ⟨a6,a0.trans a',λj hj=>(L1.1 hj).elim (a5 j) (λe=>by rw[e];exact hy)⟩
   intro a9;replace a9:xs.length<=i:=dF a9;have b4:eO kids=true:=by
    rw[<-gi,MA];exact bK.2 λj hj=>by rw[a5 j zo];rfl
   have hz:=Df (k:=7) (c:=c) (wi:=wi) b5 b0 b4;refine zh ?_;refine zvH (RV.ld (c1 _ a0) rfl) ?_;refine af rfl rfl ⟨by rw[hz],a7.trans a0⟩
  ·refine zFH rfl rfl ?_;refine zFH rfl rfl ?_
   refine zFH rfl rfl ?_;refine zFH rfl rfl ?_
   refine zFH rfl rfl ?_;refine zFH rfl rfl ?_
   refine zFH rfl rfl ?_;refine zC ?_ ?_
   ·intro h2;have b6:(xs.length:Int)≠1:=by simpa using h2
    have hz:=IU (k:=8) (c:=c) (wi:=wi) (kids:=kids) zd zo;refine zh ?_;refine af rfl rfl ⟨by rw[hz],hE⟩
   intro h2;have b6:(xs.length:Int)=1:=by simpa using h2
   have b5:((((8:Int)=4\/(8:Int)=5)/\2<=kids.length)\/(((8:Int)=6\/(8:Int)=7\/(8:Int)=8)/\kids.length=1)):=.inr ⟨zd,zo⟩;refine zh ?_;apply zlp (λy:Nat×ln=>[(2,nP xb),(5,nI xs.length),(6,nI y.1)]) (λy=>y.2) (λy=>y.1<=xs.length/\ME w1 y.2/\∀i,i<y.1->bS (nth kids i) true=true) (λy=>xs.length-y.1) (0,w2) ⟨LP _,a8,λi hi=>absurd hi (LQ i)⟩;rintro⟨i,w3⟩ ⟨hi,a0,a5⟩;dsimp only at hi a0 a5 ⊢;have b3:=hs.ext (a7.trans a0);refine zh ?_;refine zC ?_ ?_
   ·intro a6;replace a6:i<xs.length:=dT a6;have b8:=bM kids i zo;refine zh ?_;refine zvH (RV.ld (c2 _ a0) rfl) ?_;apply zv (ai (us:=aX (nth xs i)) (λj u hu=>b3.cell a6 hu) (Mj _) (LZ _) rfl);apply zc ND (dj n zo (nth kids i) zo (nth xs i) w3 true ((hk i a6).ext (a7.trans a0)));rintro u w4 ⟨rfl,a'⟩;refine zh ?_;refine zC ?_ ?_
    ·intro hy;replace hy:bS (nth kids i) true=false:=by simpa using hy
     have hz:=De (k:=8) (c:=c) (wi:=wi) (show i<kids.length by omega) hy;refine zh ?_;refine af rfl rfl ⟨by rw[hz],(a7.trans a0).trans a'⟩
    intro hy;replace hy:bS (nth kids i) true=true:=by simpa using hy
    refine zh ?_;refine zxd (i+1,w4) ⟨a6,a0.trans a',λj hj=>(L1.1 hj).elim (a5 j) (λe=>by rw[e];exact hy)⟩
   intro a9;replace a9:xs.length<=i:=dF a9;have b4:eO kids=true:=by
    rw[<-gi,MA];exact bK.2 λj hj=>by rw[a5 j zo];rfl
   have hz:=Df (k:=8) (c:=c) (wi:=wi) b5 b0 b4;refine zh ?_;refine zvH (RV.ld (c1 _ a0) rfl) ?_;refine af rfl rfl ⟨by rw[hz],a7.trans a0⟩
  have hw:wi=false:=by simpa using h9
  refine zFH rfl rfl ?_;refine zFH rfl rfl ?_
  refine zFH rfl rfl ?_;refine zFH rfl rfl ?_
  refine zTH rfl rfl ?_;refine aT (λw1=>_=w1) ((c==0)) 3 rfl rfl rfl rfl rfl rfl ?_ ?_
  ·intro b1;refine zh ?_;refine zvH (RV.ld (c1 _ a8) rfl) ?_;refine nE 60 4 rfl b1
  rintro _ rfl;have hz:=IV (k:=9) (c:=c) (kids:=kids) (wi:=wi) (.inr ⟨rfl,hw⟩);rw[hl]at hz;refine zh ?_;refine af rfl rfl ⟨by rw[hz],hE⟩
theorem PostC.shape{li lk:List Int}{ts:List R3}(h:Ns B w v li lk ts):∃cs:List L4,∃e:Int,v=.tuple #[.agg cs.toArray,nI e]/\cs.length=17/\(cs.all Ma=true):=by
 rcases h with⟨_,rfl⟩|⟨_,⟨a,b,a1,a0,u,_,_,_,_,_,_,rfl,hT,_⟩|⟨_,rfl⟩⟩
 ·exact⟨_,1,rfl,rfl,rfl⟩
 ·obtain⟨gv,lc,rc,rfl,h1,h2,h3⟩:=hT;obtain⟨ll,lo⟩:=h2.one;obtain⟨rl,ro⟩:=h3.one;refine⟨_,0,rfl,by simp[ll,rl],?_⟩;rw[List.all_eq_true];intro x hx;simp only[Pk,Mh,Nh,or_false]at hx
  rcases hx with(hx|hx)|hx
  ·rcases hx with rfl|rfl|rfl|rfl|rfl
   ·rfl
   ·rfl
   ·rfl
   ·rfl
   exact h1.one
  ·exact lo x hx
  exact ro x hx
 exact⟨_,7,rfl,rfl,rfl⟩
theorem TabV.ext{w w':ln}{v:L4}{t:TabM}(h:TabV w v t)(e:ME w w'):TabV w' v t:=by
 obtain⟨gv,lc,rc,rfl,h1,h2,h3⟩:=h;exact⟨gv,lc,rc,rfl,h1.ext e,h2.ext e,h3.ext e⟩
theorem TabN.mono{B B':Nat}{v:L4}(h:TabN B v)(hb:B'<=B):TabN B' v:=λcs e x hx=>(h cs e x hx).mono hb
theorem PostC.ext{B B':Nat}{w w':ln}{v:L4}{li lk:List Int}{ts:List R3}(h:Ns B w v li lk ts)(e:ME w w')(hb:B'<=B):Ns B' w' v li lk ts:=by
 rcases h with h|⟨h0,⟨a,b,a1,a0,u,h1,h2,h3,h4,h5,h6,h7,hT,hN⟩|h⟩
 ·exact .inl h
 ·exact .inr ⟨h0,.inl ⟨a,b,a1,a0,u,h1,h2,h3,h4,h5,h6,h7,hT.ext e,hN.mono hb⟩⟩
 exact .inr ⟨h0,.inr h⟩
theorem PostC.upd{B:Nat}{S:Nat->Prop}{O O':Nat->Nat}{w0 w w':ln}{v:L4}{li lk:List Int}{ts:List R3}(h:Ns w0.heap.size w v li lk ts)(r:N8 B O w0)(u:M0 S O w O' w'):Ns w0.heap.size w' v li lk ts:=by
 rcases h with h|⟨h0,⟨a,b,a1,a0,x,h1,h2,h3,h4,h5,h6,h7,hT,hN⟩|h⟩
 ·exact .inl h
 ·refine .inr ⟨h0,.inl ⟨a,b,a1,a0,x,h1,h2,h3,h4,h5,h6,h7,?_,hN⟩⟩;obtain⟨gv,lc,rc,rfl,k1,k2,k3⟩:=hT;have hn:=hN _ rfl;have n1:NewV w0.heap.size gv:=hn gv (by simp);exact⟨gv,lc,rc,rfl,k1.upd (n1.free k1 (λx _=>by simp) r) u,k2.upd (λx hx=>hn x (by simp[hx])) r u,k3.upd (λx hx=>hn x (by simp[hx])) r u⟩
 exact .inr ⟨h0,.inr h⟩
def Kh(B:Nat)(w:ln)(v:L4):TK->Prop
 |.bad p e=>v=.tuple #[.agg pN,nI (p:Int),nI e]/\e≠0
 |.ok st=>∃(cs:List L4) (e:Int),v=.tuple #[.agg cs.toArray,nI 0,nI e]/\Ns B w (.tuple #[.agg cs.toArray,nI e]) st.li st.lk st.ts
theorem pM(l:List UInt8)(w:ln)(b9:l.length<=1000000000):MK M9 28 [.string (bs l)] w λv w'=>ME w w'/\Kh w.heap.size w' v (ij l):=by
 apply ix func28 ntmps28 rfl rfl;refine zh ?_
 apply ar (ax w) 1 zo (Na _) rfl;intro cb w1 O1 a8 b8 b5 d0;refine zh ?_
 apply zc call21 (oz l w.heap.size O1 w1 b5 b9);rintro v w2 ⟨a7,hP⟩;have d2:=b5.ext a7;have hz:¬(0=1):=zo
 cases hM:ij l with
 |bad p e=>
  rw[hM]at hP;obtain⟨rfl,he⟩:=hP;refine zh ?_;apply ar (ax w2) 1 zo (Mu _) rfl;intro tb w3 O3 a1 b4 c8 c';apply zsa (us:=#[tE,tE,tE]) a1 (Ml _);have a0:=(b4.trans (L0 (us:=#[tE,tE,tE]) zd a1.tag rfl)).ext;generalize w3.setRow tb #[tE,tE,tE]=w4 at *;have c5:=ae (S:=λq=>q=1) hz O1 (a7.trans a0);have a4:=a8.upd (ae (S:=λ_=>False) (λh=>h) O1 (a7.trans a0)) zd (λh=>h);refine zh ?_;refine zTH rfl ((by simpa using he)) ?_;refine zvH (Mw (cells:=pN) It (Na _) rfl rfl) ?_;apply zsa (us:=pN) a4 (Mn _);have b3:=a4.setRow (us:=pN);have c7:M0 (λj=>j=1) O1 w4 O1 (w4.setRow cb pN):=L0 zd a4.tag rfl;refine zh ?_;refine cD rfl rfl rfl rfl b3.cellsAdd (Nf _) (Mn _) ⟨((b8.trans c5).trans c7).ext,rfl,he⟩
 |ok st=>
  rw[hM]at hP;obtain⟨tv,rfl,hx⟩:=hP;obtain⟨ta,a5,tc,xs,rfl,x1,x2,x3,_⟩:=hx.ex;have o1:=x1.one;have o2:=x2.one;have o3:=x3.one;refine zh ?_;apply ar (ax w2) 1 zo (Mu _) rfl;intro tb w3 O3 a1 b4 c8 c';apply zsb (us:=#[ta,a5,tc]) a1 (Ml _) (by simp[o1,o2,o3]);have b1:=a1.setRow (us:=#[ta,a5,tc]);have a0:=(b4.trans (L0 (us:=#[ta,a5,tc]) zd a1.tag rfl)).ext;generalize w3.setRow tb #[ta,a5,tc]=w4 at *;refine zh ?_;refine zFH rfl rfl ?_;apply zv (ai (us:=[ta,a5,tc]) b1.cellsAdd (Nc _) (Ml _) rfl);apply zc call55 (yj st.li st.lk st.ts (Am ta a5 tc) w4 (hx.ext a0));rintro v w5 ⟨c9,hC⟩;obtain⟨cs,e,rfl,a6,b6⟩:=hC.shape;refine zh ?_;apply ar (ax w5) 1 zo (Na _) rfl;intro xb w6 O6 a2 c6 d1 d3;apply bG (us:=cs.toArray) a2 (show cs.toArray.size=17 from by simpa using a6) (by rw[show cs.toArray.size=17 from by simpa using a6];exact Mn _) (by simpa using b6) rfl rfl rfl;have b0:=a2.setRow (us:=cs.toArray);have a9:=(c6.trans (L0 (us:=cs.toArray) zd a2.tag rfl)).ext;generalize w6.setRow xb cs.toArray=w7 at *;have a':=((a7.trans a0).trans c9).trans a9;have b':=ae (S:=λq=>q=1) hz O1 a';have a3:=a8.upd (ae (S:=λ_=>False) (λh=>h) O1 a') zd (λh=>h);refine zh ?_;refine zvH (ai (us:=cs) (by simpa using b0.cellsAdd) (Nf _) (by rw[a6];exact Mn _) rfl) ?_
  apply bG (us:=cs.toArray) a3 (show cs.toArray.size=17 from by simpa using a6) (by rw[show cs.toArray.size=17 from by simpa using a6];exact Mn _) (by simpa using b6) rfl rfl rfl;have b2:=a3.setRow (us:=cs.toArray);have b7:M0 (λj=>j=1) O1 w7 O1 (w7.setRow cb cs.toArray):=L0 zd a3.tag rfl;refine zh ?_
  refine cD rfl rfl rfl rfl (us:=cs) (by simpa using b2.cellsAdd) (Nf _) (by rw[a6];exact Mn _) ⟨((b8.trans b').trans b7).ext,cs,e,rfl,((hC.ext a9 (L3 _)).upd (b5.ext (a7.trans a0)) b7).ext (LY _) (((d0.trans a7).trans a0).size)⟩
theorem yc(l l':List Bool)(av bv:L4)(w:ln)(h:Sl vx 1 w av l)(h':Sl vx 1 w bv l'):MK M9 12 [av,bv] w λv w'=>v=.bool (decide (l=l'))/\ME w w':=by
 have q1:=h.len_le;have q2:=h'.len_le;apply ix func12 ntmps12 rfl rfl;refine zh ?_;refine zvH (NO h' P5 rfl) ?_;refine zC ?_ ?_
 ·intro a4;have a1:¬l=l':=λe=>by subst e;simp at a4
  refine zh ?_;refine af rfl rfl ⟨by rw[decide_eq_false a1],LY w⟩
 intro a7;have a9:l.length=l'.length:=by have:=of_decide_eq_true (p:=((l.length:Int)=(l'.length:Int))) (by simpa using a7);omega
 refine zh ?_;apply zlp (λz:Nat×ln=>[(0,av),(1,bv),(5,nI (z.1:Nat))]) (λz=>z.2) (λz=>z.1<=l.length/\ME w z.2/\∀i,i<z.1->nth l i=nth l' i) (λz=>l.length-z.1) (0,w) ⟨LP _,LY w,λi hi=>absurd hi (LQ i)⟩
 rintro⟨k,w1⟩ ⟨hk,hE,a0⟩;dsimp only at hk hE a0 ⊢;have h1:=h.ext hE;have h2:=h'.ext hE;refine zh ?_;refine zC ?_ ?_
 ·intro a2;replace a2:k<l.length:=dT a2;have e1:w1.cell? (adr av 1 k)=some (.bool (nth l k)):=by have:=h1.cell (i:=k) (j:=0) a2 rfl;rw[aA]at this;exact this
  have e2:w1.cell? (adr bv 1 k)=some (.bool (nth l' k)):=by have:=h2.cell (i:=k) (j:=0) zo rfl;rw[aA]at this;exact this
  refine zh ?_;apply aQ (λW=>W.cell? (adr av 1 k)=some (.bool (nth l k))/\W.cell? (adr bv 1 k)=some (.bool (nth l' k))) 9 rfl zk
  refine zin ⟨e1,e2⟩ λzS=>?_
  apply zrm 0 rfl zS rfl;apply zrm 1 rfl zS rfl
  apply zr 2 rfl zS (λ_=>aC h1.sh underlying39 (P6 _) rfl rfl k rfl zo);apply zt 3 rfl zS (λw1 a3=>RV.ld a3.1 rfl)
  apply zrm 4 rfl zS rfl;apply zrm 5 rfl zS rfl
  apply zr 6 rfl zS (λ_=>aC h2.sh P5 (P6 _) rfl rfl k rfl zo);apply zt 7 rfl zS (λw1 a3=>RV.ld a3.2 rfl)
  apply zr 8 rfl zS (λ_=>tz underlying4 rfl rfl);apply Me zk
  refine zh ?_;refine zC ?_ ?_
  ·intro a4;have a1:¬l=l':=λe=>by subst e;simp at a4
   refine zh ?_;refine af rfl rfl ⟨by rw[decide_eq_false a1],hE.drew⟩
  intro a7;have a6:nth l k=nth l' k:=by simpa using a7
  refine zh ?_;have a8:∀i,i<k+1->nth l i=nth l' i:=λi hi=>(L1.1 hi).elim (a0 i) (λe=>by rw[e];exact a6)
  refine zxd (k+1,w1.drew) ⟨a2,hE.drew,a8⟩
 intro b0;have a':k=l.length:=dF b0;subst a';have a5:l=l':=List.ext_getElem a9 λi i1 i2=>by have:=a0 i i1;rwa[aB i1,aB i2]at this
 refine zh ?_;refine af rfl rfl ⟨by rw[decide_eq_true a5],hE⟩
def F7(x:Int):List Int->List Int
 |[]=>[x]
 |y::r=>if x<y then x::y::r else if x=y then y::r else y::F7 x r
def rm(l:List Int):List Int:=l.foldr F7 []
theorem sK(x z:Int):∀l:List Int,z∈F7 x l↔z=x\/z∈l
 |[]=>by simp[F7]
 |y::r=>by
  unfold F7
  split
  ·simp
  split
  ·rename_i h;subst h;simp
  rw[Mh,sK x z r,Mh]
  constructor
  ·rintro(h|h|h)
   ·exact .inr (.inl h)
   ·exact .inl h
   exact .inr (.inr h)
  rintro(h|h|h)
  ·exact .inr (.inl h)
  ·exact .inl h
  exact .inr (.inr h)
theorem CW(x:Int):∀l:List Int,l.Pairwise (· < ·)->(F7 x l).Pairwise (· < ·)
 |[],_=>by simp[F7]
 |y::r,h=>by
  obtain⟨h1,h2⟩:=Mx.1 h;unfold F7
  split
  ·rename_i hxy;refine Mx.2 ⟨λz hz=>?_,h⟩
   rcases Mh.1 hz with rfl|hz
   ·exact hxy
   have:=h1 z hz;omega
  split
  ·exact h
  refine Mx.2 ⟨λz hz=>?_,CW x r h2⟩
  rcases(sK x z r).1 hz with rfl|hz
  ·omega
  exact h1 z hz
theorem ph(l:List Int):(∀x,x∈rm l↔x∈l)/\(rm l).Pairwise (· < ·):=by
 induction l with
 |nil=>exact⟨λx=>Iff.rfl,.nil⟩
 |cons a l ih=>
  refine⟨λx=>?_,CW a _ ih.2⟩;show x∈F7 a (rm l)↔_;rw[sK,ih.1,Mh]
theorem GI:∀(a b:List Int),a.Pairwise (· < ·)->b.Pairwise (· < ·)->(∀x,x∈a↔x∈b)->a=b
 |[],[],_,_,_=>rfl
 |[],y::r,_,_,h=>absurd ((h y).2 (by simp)) (by simp)
 |x::a,[],_,_,h=>absurd ((h x).1 (by simp)) (by simp)
 |x::a,y::b,ha,hb,h=>by
  obtain⟨a1,a2⟩:=Mx.1 ha;obtain⟨b1,b2⟩:=Mx.1 hb;have a4:x=y:=by
   rcases Mh.1 ((h x).1 (by simp))with e|e
   ·exact e
   rcases Mh.1 ((h y).2 (by simp))with e'|e'
   ·exact e'.symm
   have:=a1 y e';have:=b1 x e;omega
  subst a4;congr 1;refine GI a b a2 b2 λz=>?_
  have hz:=h z;simp only[Mh]at hz
  constructor
  ·intro a3
   rcases hz.1 (.inr a3)with e|e
   ·subst e;exact absurd (a1 z a3) zo
   exact e
  intro a0
  rcases hz.2 (.inr a0)with e|e
  ·subst e;exact absurd (b1 z a0) zo
  exact e
theorem zX(l:List Int):rk l=rm l:=GI _ _ (zW l) (ph l).2 λx=>by rw[vB,(ph l).1]
def JD(se:Bool)(g:Gr)(s:List Int)(m:Int):List Int:=rm (JL se g s m)
theorem step_eq(se:Bool)(g:Gr):da se g=JD se g:=funext λ_=>funext λ_=>zX _
def stK(se:Bool)(ts:List Nd):Option (List (List Nat)×List Nat):=if ec ts=0 then Gf (JD se (kq ts)) (dH (kq ts))else none
theorem stM_eq(se:Bool)(ts:List Nd):stM se ts=stK se ts:=by unfold stM stK;rw[step_eq]
theorem PostC.made{li lk:List Int}{ts:List R3}(h:Ns B w v li lk ts):
  (∃e:Int,e≠0/\v=.tuple #[.agg pN,nI e]/\((e=1/\eW li lk ts=false)\/(e=7/\eW li lk ts=true/\(stM true (nt ts)=none\/stM false (fw ts)=none))))\/
  ∃a b a1 a0 gv lc rc,Made li lk ts a b a1 a0/\v=.tuple #[.agg (fm (cy li lk ts a b a1 a0).ig (cy li lk ts a b a1 a0).kp (cy li lk ts a b a1 a0).br (cy li lk ts a b a1 a0).rules gv lc rc).toArray,nI 0]/\
   Ints w gv (cy li lk ts a b a1 a0).groups/\Q2 w lc (cy li lk ts a b a1 a0).left (cy li lk ts a b a1 a0).lt/\Q2 w rc (cy li lk ts a b a1 a0).right (cy li lk ts a b a1 a0).rt/\Ji B (gv::(lc++rc)):=by
 rcases h with⟨h0,rfl⟩|⟨h0,⟨a,b,a1,a0,u,h1,h2,h3,h4,h5,h6,rfl,hT,hN⟩|⟨h1,rfl⟩⟩
 ·exact .inl ⟨1,zd,rfl,.inl ⟨rfl,h0⟩⟩
 ·obtain⟨gv,lc,rc,rfl,k1,k2,k3⟩:=hT;have hn:=hN _ rfl;exact .inr ⟨a,b,a1,a0,gv,lc,rc,⟨h0,h1,h2,h3,h4,h5,h6⟩,rfl,k1,k2,k3,λx hx=>hn x (by simp only[Pk,Mh,Nh,or_false]at hx ⊢;rcases hx with hx|hx|hx<;>simp[hx])⟩
 exact .inl ⟨7,zd,rfl,.inr ⟨rfl,h0,h1⟩⟩
def JS:LM->LM
 |.bad p e=>.bad p e
 |.ok []=>.bad 0 4
 |.ok (a::l)=>.ok (rm (a::l))
def FU(r:List UInt8):LM:=JS (fQ (r.length+1) [] r)
theorem FT:dt=FU:=funext λr=>by
 unfold dt FU
 cases fQ (r.length+1) [] r with
 |bad p e=>rfl
 |ok l=>cases l with
  |nil=>rfl
  |cons a l=>exact congrArg LM.ok (zX (a::l))
def zb(kn:Kn)(st:St)(seg:List UInt8):RK:=
 if(bj seg).length=0 then .go kn st
 else if((bj seg).takeWhile aj==[108,101,116])=true then Kb kn st (bF seg).length (tF kn ((bj seg).dropWhile aj))
 else if((bj seg).takeWhile aj==[105,103,110,111,114,101])=true then
  (if st.hi=true then .bad ((bF seg).length-(bj seg).length) 11 else ml kn (Kv st (bF seg).length (FU ((bj seg).dropWhile aj))))
 else if((bj seg).takeWhile aj==[107,101,101,112])=true then
  (if st.hk=true then .bad ((bF seg).length-(bj seg).length) 11 else ml kn (Ku st (bF seg).length (FU ((bj seg).dropWhile aj))))
 else ml kn (Kr st ((bF seg).length-(bj seg).length) (if st.ts.length=40 then NR 0 3 else gZ kn (bj seg)))
theorem Cj:cY=zb:=funext λkn=>funext λst=>funext λseg=>by unfold cY zb;rw[FT]
def sF:Nat->Kn->St->Nat->List UInt8->TK
 |0,_,_,_,_=>.bad 0 3
 |n+1,kn,st,fr,r=>
  match zb kn st (dz r)with
  |.bad p e=>.bad (fr+p) e
  |.go kn' st'=>if(dz r).length=r.length then .ok st' else sF n kn' st' (fr+(dz r).length+1) (r.drop ((dz r).length+1))
theorem qL:∀(n:Nat) (kn:Kn) (st:St) (fr:Nat) (r:List UInt8),mP n kn st fr r=sF n kn st fr r
 |0,_,_,_,_=>rfl
 |n+1,kn,st,fr,r=>by
  unfold mP sF;rw[Cj]
  cases zb kn st (dz r)with
  |bad p e=>rfl
  |go kn' st'=>dsimp only;rw[qL n]
def oH(l:List UInt8):TK:=if 4096<l.length then .bad 0 3 else sF (l.length+1) [] st0 0 l
theorem AE(l:List UInt8):ij l=oH l:=by unfold ij oH;rw[qL]
def okK(l:List UInt8):Bool:=match oH l with
 |.ok st=>eW st.li st.lk st.ts&&(stK true (nt st.ts)).isSome&&(stK false (fw st.ts)).isSome
 |.bad _ _=>false
def cS(l:List UInt8):St:=match oH l with
 |.ok st=>st
 |.bad _ _=>st0
theorem Cs{l:List UInt8}(h:okK l=true):ij l=.ok (cS l)/\eW (cS l).li (cS l).lk (cS l).ts=true/\(stM true (nt (cS l).ts)).isSome=true/\(stM false (fw (cS l).ts)).isSome=true:=by
 rw[AE,stM_eq,stM_eq];unfold okK at h;unfold cS
 cases hp:oH l with
 |bad p e=>rw[hp]at h;cases h
 |ok st=>
  rw[hp]at h;simp only[LV]at h;exact⟨rfl,h.1.1,h.1.2,h.2⟩
def jM:List UInt8:=[67,82,32,33,32,76,70,10,67,82,124,76,70,124,78,101,119,108,105,110,101,124,67,111,110,116,114,111,108,124,71,97,112,32,47,10,47,32,67,82,124,76,70,124,78,101,119,108,105,110,101,124,67,111,110,116,114,111,108,124,71,97,112,10,76,32,33,32,76,124,86,124,76,86,124,76,86,84,10,76,86,124,86,32,33,32,86,124,84,10,76,86,84,124,84,32,33,32,84,10,33,32,69,120,116,101,110,100,124,90,87,74,124,83,112,97,99,105,110,103,124,70,111,114,109,97,116,10,80,114,101,112,101,110,100,32,33,10,80,105,99,116,32,69,120,116,101,110,100,42,32,90,87,74,32,33,32,80,105,99,116,10,94,32,40,82,101,103,105,111,110,97,108,32,82,101,103,105,111,110,97,108,41,42,32,82,101,103,105,111,110,97,108,32,33,32,82,101,103,105,111,110,97,108,10,126,82,101,103,105,111,110,97,108,32,40,82,101,103,105,111,110,97,108,32,82,101,103,105,111,110,97,108,41,42,32,82,101,103,105,111,110,97,108,32,33,32,82,101,103,105,111,110,97,108,10]
def jL:List UInt8:=[105,103,110,111,114,101,32,69,120,116,101,110,100,32,70,111,114,109,97,116,10,107,101,101,112,32,67,82,32,76,70,32,78,101,119,108,105,110,101,10,108,101,116,32,108,101,116,116,101,114,32,61,32,85,112,112,101,114,124,76,111,119,101,114,124,76,101,116,116,101,114,10,108,101,116,32,109,105,100,32,61,32,77,105,100,76,101,116,116,101,114,124,68,111,116,124,65,112,111,115,116,114,111,112,104,101,10,108,101,116,32,110,117,109,32,61,32,77,105,100,78,117,109,124,68,111,116,124,65,112,111,115,116,114,111,112,104,101,10,108,101,116,32,112,97,114,116,32,61,32,108,101,116,116,101,114,124,68,105,103,105,116,124,75,97,116,97,107,97,110,97,10,67,82,32,33,32,76,70,10,67,82,124,76,70,124,78,101,119,108,105,110,101,32,47,10,47,32,67,82,124,76,70,124,78,101,119,108,105,110,101,10,90,87,74,32,33,32,80,105,99,116,10,33,32,90,87,74,10,83,112,97,99,101,32,33,32,83,112,97,99,101,10,108,101,116,116,101,114,32,33,32,108,101,116,116,101,114,10,108,101,116,116,101,114,32,33,32,109,105,100,32,108,101,116,116,101,114,10,108,101,116,116,101,114,32,109,105,100,32,33,32,108,101,116,116,101,114,10,68,105,103,105,116,32,33,32,68,105,103,105,116,10,108,101,116,116,101,114,32,33,32,68,105,103,105,116,10,68,105,103,105,116,32,33,32,108,101,116,116,101,114,10,68,105,103,105,116,32,110,117,109,32,33,32,68,105,103,105,116,10,68,105,103,105,116,32,33,32,110,117,109,32,68,105,103,105,116,10,75,97,116,97,107,97,110,97,32,33,32,75,97,116,97,107,97,110,97,10,112,97,114,116,124,74,111,105,110,101,114,32,33,32,74,111,105,110,101,114,10,74,111,105,110,101,114,32,33,32,112,97,114,116,10,94,32,40,82,101,103,105,111,110,97,108,32,82,101,103,105,111,110,97,108,41,42,32,82,101,103,105,111,110,97,108,32,33,32,82,101,103,105,111,110,97,108,10,126,82,101,103,105,111,110,97,108,32,40,82,101,103,105,111,110,97,108,32,82,101,103,105,111,110,97,108,41,42,32,82,101,103,105,111,110,97,108,32,33,32,82,101,103,105,111,110,97,108,10]
def jK:List UInt8:=[105,103,110,111,114,101,32,69,120,116,101,110,100,32,90,87,74,32,70,111,114,109,97,116,10,107,101,101,112,32,67,82,32,76,70,32,78,101,119,108,105,110,101,10,108,101,116,32,99,108,111,115,101,32,61,32,67,108,111,115,101,124,81,117,111,116,101,124,65,112,111,115,116,114,111,112,104,101,10,108,101,116,32,101,110,100,32,61,32,84,101,114,109,124,68,111,116,10,108,101,116,32,112,97,114,32,61,32,67,82,124,76,70,124,78,101,119,108,105,110,101,10,67,82,32,33,32,76,70,10,112,97,114,32,47,10,68,111,116,32,33,32,68,105,103,105,116,10,40,85,112,112,101,114,124,76,111,119,101,114,41,32,68,111,116,32,33,32,85,112,112,101,114,10,68,111,116,32,99,108,111,115,101,42,32,83,112,97,99,101,42,32,33,32,76,111,119,101,114,10,101,110,100,32,99,108,111,115,101,42,32,83,112,97,99,101,42,32,33,32,77,105,100,78,117,109,124,77,105,100,76,101,116,116,101,114,124,72,121,112,104,101,110,124,101,110,100,10,101,110,100,32,99,108,111,115,101,42,32,33,32,99,108,111,115,101,124,83,112,97,99,101,124,112,97,114,10,101,110,100,32,99,108,111,115,101,42,32,83,112,97,99,101,42,32,33,32,83,112,97,99,101,124,112,97,114,10,101,110,100,32,99,108,111,115,101,42,32,83,112,97,99,101,42,32,47,10,33,10]
def gV:List UInt8:=[105,103,110,111,114,101,32,69,120,116,101,110,100,32,90,87,74,32,70,111,114,109,97,116,10,107,101,101,112,32,67,82,32,76,70,32,78,101,119,108,105,110,101,32,83,112,97,99,101,32,71,97,112,10,108,101,116,32,97,108,32,61,32,79,116,104,101,114,124,85,112,112,101,114,124,76,111,119,101,114,124,76,101,116,116,101,114,124,68,105,103,105,116,124,74,111,105,110,101,114,124,80,114,101,112,101,110,100,10,108,101,116,32,112,97,114,32,61,32,67,82,124,76,70,124,78,101,119,108,105,110,101,10,67,82,32,33,32,76,70,10,112,97,114,32,47,10,33,32,112,97,114,10,33,32,83,112,97,99,101,124,71,97,112,10,71,97,112,32,83,112,97,99,101,42,32,47,10,33,32,71,108,117,101,10,71,108,117,101,32,33,10,33,32,67,108,111,115,101,124,84,101,114,109,124,77,105,100,78,117,109,124,77,105,100,76,101,116,116,101,114,124,68,111,116,10,79,112,101,110,32,83,112,97,99,101,42,32,33,10,33,32,81,117,111,116,101,124,65,112,111,115,116,114,111,112,104,101,10,81,117,111,116,101,124,65,112,111,115,116,114,111,112,104,101,32,33,10,83,112,97,99,101,32,47,10,33,32,72,121,112,104,101,110,10,72,121,112,104,101,110,32,33,32,68,105,103,105,116,10,97,108,32,33,32,97,108,10,97,108,32,33,32,79,112,101,110,10,67,108,111,115,101,32,33,32,97,108,10,40,77,105,100,78,117,109,124,68,111,116,124,77,105,100,76,101,116,116,101,114,41,32,33,32,68,105,103,105,116,10,76,32,33,32,76,124,86,124,76,86,124,76,86,84,10,76,86,124,86,32,33,32,86,124,84,10,76,86,84,124,84,32,33,32,84,10,75,97,116,97,107,97,110,97,32,33,32,75,97,116,97,107,97,110,97,10,94,32,40,82,101,103,105,111,110,97,108,32,82,101,103,105,111,110,97,108,41,42,32,82,101,103,105,111,110,97,108,32,33,32,82,101,103,105,111,110,97,108,10,126,82,101,103,105,111,110,97,108,32,40,82,101,103,105,111,110,97,108,32,82,101,103,105,111,110,97,108,41,42,32,82,101,103,105,111,110,97,108,32,33,32,82,101,103,105,111,110,97,108,10,47,10]
def eF:Nat->List UInt8
 |0=>jM
 |1=>jL
 |2=>jK
 |_=>gV
theorem Fl:okK jM=true:=by decide +kernel
theorem Fk:okK jL=true:=by decide +kernel
theorem Fj:okK jK=true:=by decide +kernel
theorem Fi:okK gV=true:=by decide +kernel
theorem xj:∀m,okK (eF m)=true
 |0=>Fl
 |1=>Fk
 |2=>Fj
 |_+3=>Fi
theorem Bg:tf (cS gV).li (cS gV).lk [18,29,18] (cS gV).ts=[true,false,true,true]:=by decide +kernel
theorem iG(q:Addr)(x:Int)(w:ln)(hc:w.cell? q=some (.int .u32 x)):MK M9 53 [.pointer (some q)] w λv w'=>v=.bool (!(decide (x=0)))/\w=w':=by
 apply ix func53 ntmps53 rfl rfl;refine zh ?_
 refine zvH (NC (vs:=[.pointer (some q)]) (run_call_load func85 zk zk zk .u32 zk hc) rfl) ?_;refine af rfl rfl ⟨rfl,rfl⟩
theorem I0(w:ln):MK M9 127 [.bool true] w λv w'=>v=.int .u32 1/\w'=w:=by
 apply ix func127 ntmps127 rfl rfl;refine zh ?_
 refine zTH rfl rfl ?_;refine af rfl rfl ⟨rfl,rfl⟩
theorem tj(O:Nat->Nat)(i b j:Nat)(cs:Array L4)(T:NH)(x:L4)(w:ln)(hb:Mc O w i b cs T)(hj:cs[j]? = some x):
  MK M9 88 [.pointer (some ⟨b,j,none⟩),.bool true] w (λ_ w'=>w'=w.drew.setCell ⟨b,j,none⟩ (.int .u32 1))/\Lc M9 88 [.pointer (some ⟨b,j,none⟩),.bool true] w (λ_ w'=>w'=w.drew.setCell ⟨b,j,none⟩ (.int .u32 1)):=by
 have hc:=hb.drew.cell j hj;have hf:w.drew.frozen? ⟨b,j,none⟩=false:=by simp[Nz,hb.drew.blk]
 apply PH func88 ntmps88 rfl rfl;apply MH 5 rfl rfl zk zk
 refine zh ?_;apply WS.call call127 rfl (I0 _) rfl
 apply Nb;apply PO (vs:=[.pointer (some ⟨b,j,none⟩),.int .u32 1]) (run_call_store func126 zk zk zk zk hc hf) rfl rfl
 refine zh ?_;exact aJ rfl rfl
theorem CD:(prog.info? 71).map (λi=>decide (i.size=0))=some false:=by kernel_rfl
theorem AT(O:Nat->Nat)(i b j:Nat)(cs:Array L4)(T:NH)(w:ln)(hb:Mc O w i b cs T)(hj:cs[j]? = some (.int .i32 0)):
  MK M9 124 [.pointer (some ⟨b,j,none⟩)] w λ_ w'=>w'=w.setCell ⟨b,j,none⟩ (.int .i32 1):=by
 have hc:=hb.cell j hj;have hf:w.frozen? ⟨b,j,none⟩=false:=by simp[Nz,hb.blk]
 have a0:j<cs.size:=(Array.getElem?_eq_some_iff.1 hj).1;have a1:(w.setCell ⟨b,j,none⟩ (.int .i32 1)).cell? ⟨b,j,none⟩=some (.int .i32 1):=(hb.set j (.int .i32 1)).cell j (by simp[a0]);apply ix func124 ntmps124 rfl rfl;refine zh ?_;refine zvH (NC (vs:=[]) (run_call_mark0 func167 zk zk zk .disable zk _) rfl) ?_;apply PO (vs:=[.pointer (some ⟨b,j,none⟩),.int .i32 0,.int .i32 1]) (run_call_cas_hit func168 zk zk zk .i32 zk hc hf) rfl rfl;refine zh ?_;refine zTH rfl rfl ?_;refine zTH rfl rfl ?_;refine zvH (NC (vs:=[]) (run_call_mark0 func169 zk zk zk .enable zk _) rfl) ?_;apply zv (Ag (run_convert_to_unsafe PN PM CD a1) rfl);refine zvH (NC (vs:=[.pointer (some ⟨b,j,none⟩)]) (run_call_marked func170 zk zk zk .acquire zk _ _) rfl) ?_;exact cG rfl rfl
theorem Ar(O:Nat->Nat)(i b j:Nat)(cs:Array L4)(T:NH)(w:ln)(hb:Mc O w i b cs T)(hj:cs[j]? = some (.int .i32 0)):
  MK M9 86 [.pointer (some ⟨b,j,none⟩)] w λ_ w'=>w'=w.setCell ⟨b,j,none⟩ (.int .i32 1):=by
 apply ix func86 ntmps86 rfl rfl;refine zh ?_
 apply zc call124 (AT O i b j cs T w hb hj);rintro v w' rfl;refine zh ?_
 exact aJ rfl rfl
theorem vk(O:Nat->Nat)(i b j:Nat)(cs:Array L4)(T:NH)(w:ln)(hb:Mc O w i b cs T)(hj:cs[j]? = some (.int .i32 1)):
  MK M9 125 [.pointer (some ⟨b,j,none⟩)] w λ_ w'=>w'=w.setCell ⟨b,j,none⟩ (.int .i32 0):=by
 have hc:=hb.cell j hj;have hf:w.frozen? ⟨b,j,none⟩=false:=by simp[Nz,hb.blk]
 apply ix func125 ntmps125 rfl rfl;refine zg ?_
 apply zTG rfl rfl;refine zvG (RV.ld hc rfl) ?_
 apply zv (Ag (run_convert_to_unsafe PN PM CD hc) rfl);refine zvG (NC (vs:=[.pointer (some ⟨b,j,none⟩)]) (run_call_marked func172 zk zk zk .releaseMerge zk _ _) rfl) ?_
 refine zvG (NC (vs:=[]) (run_call_mark0 func167 zk zk zk .disable zk _) rfl) ?_;apply PO (vs:=[.pointer (some ⟨b,j,none⟩),.int .i32 (-1)]) (run_call_add func173 zk zk zk .i32 zk (s:=0) hc hf rfl) rfl rfl
 refine zg ?_;apply zFG rfl rfl
 refine zvG (NC (vs:=[]) (run_call_mark0 func169 zk zk zk .enable zk _) rfl) ?_;exact aJ rfl rfl
theorem tY(O:Nat->Nat)(i b j:Nat)(cs:Array L4)(T:NH)(w:ln)(hb:Mc O w i b cs T)(hj:cs[j]? = some (.int .i32 1)):
  MK M9 87 [.pointer (some ⟨b,j,none⟩)] w (λ_ w'=>w'=w.setCell ⟨b,j,none⟩ (.int .i32 0))/\Lc M9 87 [.pointer (some ⟨b,j,none⟩)] w (λ_ w'=>w'=w.setCell ⟨b,j,none⟩ (.int .i32 0)):=by
 apply PH func87 ntmps87 rfl rfl;refine zh ?_
 apply zc call125 (vk O i b j cs T w hb hj);rintro v w' rfl;refine zh ?_
 exact aJ rfl rfl
theorem yh(O:Nat->Nat)(i b o:Nat)(cs:Array L4)(T:NH)(w:ln)(hi:i≠0)(hb:Mc O w i b cs T)(h0:cs[o]? = some (.int .u32 0))(h1:cs[o+1]? = some (.int .i32 0))(g:Pn)(fs:List L4)(c0:Array L4) 
  (hg:∀(args:Array L4) (w:ln),(callFunc g args).run M9 w=.ok (.enter g args) w) (K:(Nat->Nat)->ln->Array L4->Prop)
  (hf:∀W,Mc O W i b (cs.setIfInBounds (o+1) (.int .i32 1)) T->M0 (λk=>k=i) O w O W->MK M9 g (fs++c0.toList) W λ_ W'=>∃O' cs',Mc O' W' i b cs' T/\o+1<cs'.size/\cs'[o+1]? = some (.int .i32 1)/\K O' W' cs') :
  MK M9 54 [.pointer (some ⟨b,o,none⟩),.func (.func g) fs.toArray c0] w λ_ w'=>∃O' W' cs',Mc O' W' i b cs' T/\K O' W' cs'/\w'=(W'.drew.setCell ⟨b,o,none⟩ (.int .u32 1)).setCell ⟨b,o+1,none⟩ (.int .i32 0):=by
 have hz:¬(λk=>k=i) 0:=λe=>hi e.symm
 apply mH func54 ntmps54 rfl rfl;apply Pv
 apply Nk (by first|exact .inl rfl|exact .inr rfl) (λ_ _ h=>h);refine zh ?_
 apply zc call86 (Ar O i b (o+1) cs T w hb h1);rintro v w1 rfl;have a2:=hb.set (o+1) (.int .i32 1);have a4:M0 (λk=>k=i) O w O (w.setCell ⟨b,o+1,none⟩ (.int .i32 1)):=M1 hz hb.tag rfl;have a7:(cs.setIfInBounds (o+1) (.int .i32 1))[o]? = some (.int .u32 0):=by rw[M5 zo];exact h0
 generalize w.setCell ⟨b,o+1,none⟩ (.int .i32 1)=w1 at *;refine zh ?_;apply Q0;apply aZ;apply Pv;apply Nk (by first|exact .inl rfl|exact .inr rfl) (λ_ _ h=>h);refine zh ?_;apply mY rfl;apply aZ;apply Pv;apply Nk (by first|exact .inl rfl|exact .inr rfl) (λ_ _ h=>h);refine zh ?_;apply zc Q5 (iG ⟨b,o,none⟩ 0 w1 (a2.cell o a7));rintro v _ ⟨rfl,rfl⟩;refine zh ?_;apply Q0;apply aZ;apply nV rfl rfl;apply Pv;apply Nk (by first|exact .inl rfl|exact .inr rfl) (λ_ _ h=>h);refine zh ?_;apply mY rfl;apply aZ;apply Nk (by first|exact .inl rfl|exact .inr rfl) (λ_ _ h=>h);refine zh ?_;apply DJ (fs:=fs) (cs:=c0) rfl hg rfl (by simpa using hf w1 a2 a4) rfl;rintro v w2 ⟨O2,a0,a1,a8,a5,hK⟩;refine zh ?_;apply Q0;have a6:a0[o]? = some (a0[o]'(zo)):=Array.getElem?_eq_getElem _;refine I9 (PE call88 (tj O2 i b o a0 T _ w2 a1 a6).2 ?_);rintro v w3 rfl;have a3:=a1.drew.set o (.int .u32 1);apply PE call87 (tY O2 i b (o+1) _ T _ a3 (by rw[M5 zo];exact a5)).2;rintro v w4 rfl;exact kj rfl ⟨O2,w2,a0,a1,hK,rfl⟩
theorem xC(O:Nat->Nat)(i b o:Nat)(cs:Array L4)(T:NH)(w:ln)(hi:i≠0)(hb:Mc O w i b cs T)(h0:cs[o]? = some (.int .u32 0))(h1:cs[o+1]? = some (.int .i32 0))(g:Pn)(fs:List L4)(c0:Array L4) 
  (hg:∀(args:Array L4) (w:ln),(callFunc g args).run M9 w=.ok (.enter g args) w) (K:(Nat->Nat)->ln->Array L4->Prop)
  (hf:∀W,Mc O W i b (cs.setIfInBounds (o+1) (.int .i32 1)) T->M0 (λk=>k=i) O w O W->MK M9 g (fs++c0.toList) W λ_ W'=>∃O' cs',Mc O' W' i b cs' T/\o+1<cs'.size/\cs'[o+1]? = some (.int .i32 1)/\K O' W' cs') :
  MK M9 26 [.pointer (some ⟨b,o,none⟩),.func (.func g) fs.toArray c0] w λ_ w'=>∃O' W' cs',Mc O' W' i b cs' T/\K O' W' cs'/\w'=(W'.drew.setCell ⟨b,o,none⟩ (.int .u32 1)).setCell ⟨b,o+1,none⟩ (.int .i32 0):=by
 apply ix func26 ntmps26 rfl rfl;refine zh ?_
 apply zc Q5 (iG ⟨b,o,none⟩ 0 w (hb.cell o h0));rintro v _ ⟨rfl,rfl⟩;refine zh ?_
 refine zTH rfl rfl ?_;apply zc call54 (yh O i b o cs T w hi hb h0 h1 g fs c0 hg K hf)
 rintro v w' h;refine zh ?_;exact aJ rfl h
theorem xD(b o:Nat)(w:ln)(hc:w.cell? ⟨b,o,none⟩=some (.int .u32 1))(f:L4):MK M9 26 [.pointer (some ⟨b,o,none⟩),f] w λ_ w'=>w'=w:=by
 apply ix func26 ntmps26 rfl rfl;refine zh ?_
 apply zc Q5 (iG ⟨b,o,none⟩ 1 w hc);rintro v _ ⟨rfl,rfl⟩;refine zh ?_
 refine zFH rfl rfl ?_;exact aJ rfl rfl
theorem vm(w:ln):MK M9 38 [] w λv w'=>v=.string (bs jM)/\w'=w:=by
 apply ix func38 ntmps38 rfl rfl;refine zh ?_
 refine af rfl rfl ⟨rfl,rfl⟩
theorem Bw(w:ln):MK M9 39 [] w λv w'=>v=.string (bs jL)/\w'=w:=by
 apply ix func39 ntmps39 rfl rfl;refine zh ?_
 refine af rfl rfl ⟨rfl,rfl⟩
theorem uf(w:ln):MK M9 40 [] w λv w'=>v=.string (bs jK)/\w'=w:=by
 apply ix func40 ntmps40 rfl rfl;refine zh ?_
 refine af rfl rfl ⟨rfl,rfl⟩
theorem CI(w:ln):MK M9 41 [] w λv w'=>v=.string (bs gV)/\w'=w:=by
 apply ix func41 ntmps41 rfl rfl;refine zh ?_
 refine af rfl rfl ⟨rfl,rfl⟩
theorem qs(m:Int)(w:ln):MK M9 25 [nI m] w λv w'=>v=.bool (decide (0<=m)&&decide (m<4))/\w'=w:=by
 apply ix func25 ntmps25 rfl rfl;refine zh ?_
 refine aT (λw1=>_=w1) (decide (m<4)) 2 rfl rfl rfl rfl rfl rfl ?_ ?_
 ·intro a1;refine zh ?_;refine nE 5 3 rfl a1
 rintro _ rfl;refine zh ?_;refine af rfl rfl ⟨rfl,rfl⟩
def nq(m:Int):List UInt8:=if m=0 then jM else if m=1 then jL else if m=2 then jK else if m=3 then gV else []
theorem kC:∀ {m:Nat},m<4->nq m=eF m
 |0,_=>rfl
 |1,_=>rfl
 |2,_=>rfl
 |3,_=>rfl
theorem mL(m:Int)(w:ln):MK M9 16 [nI m] w λv w'=>v=.string (bs (nq m))/\w'=w:=by
 apply ix func16 ntmps16 rfl rfl;refine zh ?_
 by_cases h0:m=0
 ·refine zTH rfl ((by rw[h0];rfl)) ?_;apply zc call38 (vm w)
  rintro v w9 ⟨rfl,a0⟩;rw[a0];clear a0 w9;refine zh ?_;refine af rfl rfl ⟨by unfold nq;rw[if_pos h0],rfl⟩
 refine zFH rfl ((beq_eq_false_iff_ne.2 h0)) ?_
 by_cases h1:m=1
 ·refine zTH rfl ((by rw[h1];rfl)) ?_;apply zc call39 (Bw w)
  rintro v w9 ⟨rfl,a0⟩;rw[a0];clear a0 w9;refine zh ?_;refine af rfl rfl ⟨by unfold nq;rw[if_neg h0,if_pos h1],rfl⟩
 refine zFH rfl ((beq_eq_false_iff_ne.2 h1)) ?_
 by_cases h2:m=2
 ·refine zTH rfl ((by rw[h2];rfl)) ?_;apply zc call40 (uf w)
  rintro v w9 ⟨rfl,a0⟩;rw[a0];clear a0 w9;refine zh ?_;refine af rfl rfl ⟨by unfold nq;rw[if_neg h0,if_neg h1,if_pos h2],rfl⟩
 refine zFH rfl ((beq_eq_false_iff_ne.2 h2)) ?_
 by_cases h3:m=3
 ·refine zTH rfl ((by rw[h3];rfl)) ?_;apply zc call41 (CI w)
  rintro v w9 ⟨rfl,a0⟩;rw[a0];clear a0 w9;refine zh ?_;refine af rfl rfl ⟨by unfold nq;rw[if_neg h0,if_neg h1,if_neg h2,if_pos h3],rfl⟩
 refine zFH rfl ((beq_eq_false_iff_ne.2 h3)) ?_;refine af rfl rfl ⟨by unfold nq;rw[if_neg h0,if_neg h1,if_neg h2,if_neg h3];rfl,rfl⟩
def Keeps(O:Nat->Nat)(w:ln)(P:ln->Prop):Prop:=∀(S:Nat->Prop) (O':Nat->Nat) (w':ln),M0 S O w O' w'->P w'
theorem Keeps.now(h:Keeps O w P):P w:=h (λ_=>False) O w (MI (λh=>h) O w)
theorem Keeps.upd{O':Nat->Nat}{w':ln}{S:Nat->Prop}(h:Keeps O w P)(u:M0 S O w O' w'):Keeps O' w' P:=λS' O2 w2 v=>
 h (λq=>S q\/S' q) O2 w2 ((u.mono (λ_ h=>.inl h) (λe=>e.elim u.z v.z)).trans (v.mono (λ_ h=>.inr h) (λe=>e.elim u.z v.z)))
def TabS(O:Nat->Nat)(w:ln)(m:Nat)(a0:List L4):Prop:=
 a0.length=17/\a0.all Ma=true/\∃(e:Int) (B0:Nat),Keeps O w λW=>Ns B0 W (.tuple #[.agg a0.toArray,nI e]) (cS (eF m)).li (cS (eF m)).lk (cS (eF m)).ts
theorem TabS.upd{O O':Nat->Nat}{w w':ln}{m:Nat}{a0:List L4}{S:Nat->Prop}(h:TabS O w m a0)(u:M0 S O w O' w'):TabS O' w' m a0:=by
 obtain⟨h1,h2,e,B0,h3⟩:=h;exact⟨h1,h2,e,B0,h3.upd u⟩
structure ShO(O:Nat->Nat)(w:ln)(i b:Nat)(cs:Array L4):Prop where
 blk:Mc O w i b cs 80
 size:cs.size=80
 place:∀m,m<4->(cs[m*20]? = some (.int .u32 0)/\cs[m*20+1]? = some (.int .i32 0))\/(cs[m*20]? = some (.int .u32 1)/\∃tcs,TabS O w m tcs/\∀j u,tcs[j]? = some u->cs[m*20+3+j]? = some u)
theorem Aq{l us:List L4}{off j:Nat}(h:off+us.length<=l.length):(l.take off++us++l.drop (off+us.length))[j]? = if j<off then l[j]? else if j<off+us.length then us[j-off]? else l[j]?:=by
 have ht:(l.take off).length=off:=by rw[List.length_take];omega
 by_cases h1:j<off
 ·rw[if_pos h1,P9,MP zo,List.getElem?_take,if_pos h1]
 rw[if_neg h1]
 by_cases h2:j<off+us.length
 ·rw[if_pos h2,MP (by rw[Mm];omega),Nv zo,ht]
 rw[if_neg h2,Nv (by rw[Mm];omega),Mm,ht,List.getElem?_drop];congr 1;omega
theorem LA:cE M9 80 #[(0,80)]:=⟨_,underlying80,λw=>by kernel_rfl⟩
theorem ud(B:Nat)(O:Nat->Nat)(w:ln)(i:Nat)(hi:i≠0)(hR:N8 B O w):MK M9 8 [] w λv w'=>∃b O' cs,v=nP b/\ShO O' w' i b cs/\M0 (λq=>q=i) O w O' w'/\N8 B O' w'/\ME w w':=by
 apply ix func8 ntmps8 rfl rfl;refine zh ?_
 apply zv (aF LA (zeroValue80 _) rfl (by first|rfl|(simp only[L9,M7];rfl)) rfl rfl);apply aN hR i zo rfl rfl
 intro xb w1 O1 a0 a1 a2 a3;refine zh ?_;refine af rfl rfl ⟨xb,O1,_,rfl,⟨a0,rfl,λm hm=>.inl ?_⟩,a1,a2,a3⟩;obtain rfl|rfl|rfl|rfl:m=0\/m=1\/m=2\/m=3:=zo
 ·exact⟨rfl,rfl⟩
 ·exact⟨rfl,rfl⟩
 ·exact⟨rfl,rfl⟩
 exact⟨rfl,rfl⟩
theorem tp(b n k:Nat):(⟨b,n,none⟩:Addr).add k=⟨b,n+k,none⟩:=by
 unfold Nx
 split
 ·rename_i e;subst e;rfl
 rfl
def vR(cs:Array L4)(o:Nat)(a0:List L4):Array L4:=(cs.toList.take (o+3)++a0.toArray.toList++cs.toList.drop (o+3+a0.toArray.size)).toArray
theorem ze{cs:Array L4}(h:o+3+a0.length<=cs.size)(j:Nat):(vR cs o a0)[j]? = if j<o+3 then cs[j]? else if j<o+3+a0.length then a0[j-(o+3)]? else cs[j]?:=by
 unfold vR;rw[List.getElem?_toArray];have:=Aq (l:=cs.toList) (us:=a0) (off:=o+3) (j:=j) (by simpa using h);simpa using this
theorem uA{cs:Array L4}(h:o+3+a0.length<=cs.size):(vR cs o a0).size=cs.size:=by
 unfold vR;simp;omega
theorem xe(m:Nat)(hm:m<4)(B:Nat)(O O0:Nat->Nat)(w:ln)(i b pb mb ip im o:Nat)(ho:o=m*20)(cs:Array L4)(hR:N8 B O w)(b6:N8 B O0 w)(hi:i≠0)(a9:ip≠0/\ip≠i)(a':im≠0/\im≠i)(hb:Mc O w i b cs 80)(b9:cs.size=80) 
  (b4:Mc O w im mb #[nI (m:Nat)] 36) (b3:Mc O w ip pb #[.pointer (some ⟨b,o,none⟩)] 82) :
  MK M9 27 [nP mb,nP pb] w λ_ w'=>∃a0 e W0,a0.length=17/\a0.all Ma=true/\Mc O w' i b (vR cs o a0) 80/\M0 (λq=>q=i) O w O w'/\N8 B O W0/\N8 B O0 W0/\Ns W0.heap.size w' (.tuple #[.agg a0.toArray,nI e]) (cS (eF m)).li (cS (eF m)).lk (cS (eF m)).ts:=by
 have hz:¬(λq=>q=i) 0:=λe=>hi e.symm
 have kE:∀W,M0 (λq=>q=i) O w O W->W.cell? ⟨mb,0,none⟩=some (nI (m:Nat))/\W.cell? ⟨pb,0,none⟩=some (.pointer (some ⟨b,o,none⟩)):=λW u=>⟨(b4.upd u a'.1 a'.2).cell 0 rfl,(b3.upd u a9.1 a9.2).cell 0 rfl⟩
 have a7:M0 (λq=>q=i) O w O w.drew:=(MI hz O w).drew;have a2:∀m,m<4->(eF m).length<=1000000000:=λm hm=>by
  obtain rfl|rfl|rfl|rfl:m=0\/m=1\/m=2\/m=3:=zo
  ·decide +kernel
  ·decide +kernel
  ·decide +kernel
  decide +kernel
 apply ix func27 ntmps27 rfl rfl;apply aQ (λW=>W.cell? ⟨mb,0,none⟩=some (nI (m:Nat))/\W.cell? ⟨pb,0,none⟩=some (.pointer (some ⟨b,o,none⟩))) 11 rfl zk
 refine zin (kE _ a7) λzS=>?_
 apply zt 0 rfl zS (λw1 a1=>RV.ld (by first|exact a1.1|exact a1.2) rfl);apply zt 1 rfl zS (λw1 a1=>RV.ld (by first|exact a1.1|exact a1.2) rfl)
 apply L7 2 zk rfl;apply zc call16 (mL (m:Nat) w.drew)
 rintro v w9 ⟨rfl,a8⟩;rw[a8,kC hm];clear a8 w9;refine zh ?_;apply aa ((kE _ a7));apply L7 3 zk rfl;apply zc call28 (pM (eF m) w.drew (a2 m hm));rintro v w2 ⟨b7,hP⟩;rw[(Cs (xj m)).1]at hP;obtain⟨a0,e,rfl,hC⟩:=hP;have b2:a0.length=17/\a0.all Ma=true:=by
  obtain⟨b',e',h1,h2,h3⟩:=hC.shape;simp only[NB,P2,NQ,NN,NM,and_true,true_and]at h1;rw[h1.1];exact⟨h2,h3⟩
 obtain⟨a3,b0⟩:=b2;have b1:M0 (λ_=>False) O w.drew O w2:=ae (λh=>h) O b7;have a6:=a7.trans (b1.mono (λ_ h=>h.elim) hz);have a4:=hb.drew.upd b1 hi (λh=>h);refine zh ?_;refine zaf ((kE _ a6)) λzS=>?_
 apply zrm 4 rfl zS rfl;apply zr 5 rfl zS (λ_=>My rfl rfl)
 apply zr 6 rfl zS (λ_=>My rfl rfl);apply zr 7 rfl zS (λ_=>My rfl rfl)
 apply zr 8 rfl zS (λ_=>aq rfl);apply zrf 9 rfl zS rfl
 apply L7 10 zk rfl;apply bT (us:=a0.toArray) (o+3) (vR cs o a0) a4 rfl (by simp only[List.size_toArray,a3];omega) (by rw[show a0.toArray.size=17 from by simpa using a3];exact Mn _) (by simpa using b0) rfl rfl rfl
 have b5:Mc O (w2.setRow b (vR cs o a0)) i b (vR cs o a0) 80:=a4.setRow;have a5:M0 (λq=>q=i) O w2 O (w2.setRow b (vR cs o a0)):=L0 hz a4.tag rfl;have b8:=hC.upd hR.drew a5;refine zh ?_;apply aa ((kE _ (a6.trans a5)));apply Me zk;exact aJ rfl ⟨a0,e,w.drew,a3,b0,b5,a6.trans a5,hR.drew,b6.drew,b8⟩
set_option maxHeartbeats 1000000 in
theorem pP(m:Nat)(hm:m<4)(B:Nat)(O:Nat->Nat)(w:ln)(i b:Nat)(cs:Array L4)(hR:N8 B O w)(hi:i≠0)(h:ShO O w i b cs):
  MK M9 9 [nP b,nI (m:Nat)] w λv w'=>∃a5 a0,v=.tuple #[.agg a0.toArray,.bool true]/\ShO O w' i b a5/\TabS O w' m a0/\M0 (λq=>q=i) O w O w':=by
 obtain⟨T,h7,hT⟩:=hR.bound;have h6:i<T:=by rw[<-h.blk.tag];exact hT b
 have a6:¬(λq:Nat=>q=i\/T<=q) 0:=λe=>by rcases e with e|e<;>omega
 have b7:¬(λq:Nat=>q=i) 0:=λe=>hi e.symm
 apply ix func9 ntmps9 rfl rfl;refine zh ?_
 apply aN hR T zo rfl rfl;intro mb w1 O1 f5 e7 h4 h';apply ar h4 (T+1) zo (Na _) rfl
 intro rb w2 O2 f3 d7 h3 h9;have c9:=f5.upd d7 zo zo;have d3:M0 (λq=>q=i\/T<=q) O w O2 w2:=(e7.mono (λ_ h=>.inr (by rw[h];exact L3 _)) a6).trans (d7.mono (λ_ h=>.inr (by rw[h];omega)) a6);have c0:w2.cell? ⟨mb,0,none⟩=some (nI (m:Nat)):=c9.cell 0 rfl;refine zh ?_;refine zvH (eS underlying33 rfl rfl) ?_;apply au (d:=9) rfl (b':=false) rfl;refine zh ?_;apply zc call25 (qs (m:Nat) w2);rintro v w9 ⟨rfl,b3⟩;rw[b3,show(decide ((0:Int)<=(m:Nat))&&decide (((m:Nat):Int)<4))=true from by rw[decide_eq_true zo,decide_eq_true zo];rfl];clear b3 w9;refine zh ?_;apply aI rfl rfl;have kE:∀O3 W,M0 (λq=>q=T+2) O2 w2 O3 W->W.cell? ⟨mb,0,none⟩=some (nI (m:Nat)):=λO3 W u=>(c9.upd u zo zo).cell 0 rfl
 have e4:M0 (λq=>q=T+2) O2 w2 O2 w2.drew:=(MI zo O2 w2).drew;refine zh ?_;apply aQ (λW=>W.cell? ⟨mb,0,none⟩=some (nI (m:Nat))) 7 rfl zk;refine zin (kE _ _ e4) λzS=>?_
 apply zrm 0 rfl zS rfl;apply zt 1 rfl zS (λw1 e9=>RV.ld e9 rfl)
 apply zr 2 rfl zS (λ_=>aq rfl);apply zrf 3 rfl zS rfl
 apply zr 4 rfl zS (λ_=>lL underlying78 (sizeOf77 _) rfl rfl m rfl hm);apply L7 5 zk rfl
 apply ar h3.drew (T+2) zo (zeroValue82 _) rfl;intro pb w4 O5 c7 f' g' h8;rw[show Nx (Nx ⟨b,0,none⟩ 0) (m*20)=⟨b,m*20,none⟩from by rw[tp,tp];simp];have b4:=e4.trans f';refine zh ?_
 apply aa ((kE _ _ b4));apply L7 6 zk rfl
 apply ak (j:=0) c7 rfl (sizeOf82 _) rfl rfl rfl rfl;have b8:Mc O5 (w4.setCell ⟨pb,0,none⟩ (.pointer (some ⟨b,m*20,none⟩))) (T+2) pb #[.pointer (some ⟨b,m*20,none⟩)] 82:=c7.set 0 (.pointer (some ⟨b,m*20,none⟩));have e6:M0 (λq=>q=T+2) O5 w4 O5 (w4.setCell ⟨pb,0,none⟩ (.pointer (some ⟨b,m*20,none⟩))):=M1 zo c7.tag rfl;have a3:=b4.trans e6;have g9:=g'.upd e6;generalize w4.setCell ⟨pb,0,none⟩ (.pointer (some ⟨b,m*20,none⟩))=w5 at *;refine zh ?_
 apply aa ((kE _ _ a3));have f4:=c9.upd a3 zo zo;have d9:=f3.upd a3 zo zo;have a9:=d3.trans (a3.mono (λ_ h=>.inr (by rw[h];omega)) a6);have d5:M0 (λq=>T<=q) O w O5 w5:=((e7.mono (λ_ h=>by rw[h];exact L3 _) zo).trans (d7.mono (λ_ h=>by rw[h];omega) zo)).trans (a3.mono (λ_ h=>by rw[h];omega) zo);have b9:=h.blk.upd d5 hi zo;have r2:w5.cell? ⟨pb,0,none⟩=some (.pointer (some ⟨b,m*20,none⟩)):=b8.cell 0 rfl;have a':=h.size;have e1:∀(W:ln) (d8:Array L4) (a0:List L4),Mc O5 W i b d8 80->(∀j u,a0[j]? = some u->d8[m*20+3+j]? = some u)->∀(j:Nat) (u:L4),a0[j]? = some u->W.cell? (((⟨b,m*20,none⟩:Addr).add 3).add j)=some u:=λW d8 a0 hB hc j u hu=>by rw[tp,tp];exact hB.cell (m*20+3+j) (hc j u hu)
 apply Me zk;refine zh ?_
 apply zv (dY rfl rfl);have d0:∀W,Mc O5 W i b (cs.setIfInBounds (m*20+1) (.int .i32 1)) 80->M0 (λq=>q=i) O5 w5 O5 W->MK M9 27 ([]++(#[nP mb,nP pb]:Array L4).toList) W λ_ W'=>∃O' a5,Mc O' W' i b a5 80/\m*20+1<a5.size/\a5[m*20+1]? = some (.int .i32 1)/\O'=O5/\M0 (λq=>q=i) O5 w5 O5 W'/\∃a0 e W0,a0.length=17/\a0.all Ma=true/\a5=vR (cs.setIfInBounds (m*20+1) (.int .i32 1)) (m*20) a0/\N8 B O5 W0/\N8 B O W0/\Ns W0.heap.size W' (.tuple #[.agg a0.toArray,nI e]) (cS (eF m)).li (cS (eF m)).lk (cS (eF m)).ts:=λW a8 a4=>by
  apply Ret.mono (xe m hm B O5 O W i b pb mb (T+2) T (m*20) rfl (cs.setIfInBounds (m*20+1) (.int .i32 1)) (g9.upd a4) (hR.upd ((a9.trans (a4.mono (λ_ h=>.inl h) a6)).priv hT hi)) hi zo zo a8 (by simpa using a') (f4.upd a4 zo zo) (b8.upd a4 zo zo));rintro v W' ⟨a0,e,W0,g1,g2,g3,g4,g5,g6,g7⟩;have hz:m*20+3+a0.length<=(cs.setIfInBounds (m*20+1) (.int .i32 1)).size:=by simp[a',g1];omega
  exact⟨O5,_,g3,by rw[uA hz];simp[a'];omega,by rw[ze hz,if_pos zo,N4 zo],rfl,a4.trans g4,a0,e,W0,g1,g2,rfl,g5,g6,g7⟩
 rcases h.place m hm with⟨h0,h1⟩|⟨h0,a0,g0,f6⟩
 ·apply zc call26 (xC O5 i b (m*20) cs 80 w5 hi b9 h0 h1 27 [] #[nP mb,nP pb] call27 (λO' W' a5=>O'=O5/\M0 (λq=>q=i) O5 w5 O5 W'/\∃a0 e W0,a0.length=17/\a0.all Ma=true/\a5=vR (cs.setIfInBounds (m*20+1) (.int .i32 1)) (m*20) a0/\N8 B O5 W0/\N8 B O W0/\Ns W0.heap.size W' (.tuple #[.agg a0.toArray,nI e]) (cS (eF m)).li (cS (eF m)).lk (cS (eF m)).ts) (λW a8 a4=>d0 W a8 a4));rintro v w9 ⟨O',W',a5,a8,⟨hO,a4,a0,e0,W0,a1,b0,rfl,b5,b6,hC⟩,rfl⟩;obtain rfl:O5=O':=hO.symm;have e3:=(a8.drew.set (m*20) (.int .u32 1)).set (m*20+1) (.int .i32 0);have f9:M0 (λq=>q=i) O5 W' O5 W'.drew:=(MI b7 O5 W').drew;have f8:M0 (λq=>q=i) O5 W'.drew O5 (W'.drew.setCell ⟨b,m*20,none⟩ (.int .u32 1)):=M1 b7 a8.tag rfl;have f7:M0 (λq=>q=i) O5 (W'.drew.setCell ⟨b,m*20,none⟩ (.int .u32 1)) O5 ((W'.drew.setCell ⟨b,m*20,none⟩ (.int .u32 1)).setCell ⟨b,m*20+1,none⟩ (.int .i32 0)):=M1 b7 a8.tag rfl;have e5:=(f9.trans f8).trans f7;have d6:=a4.trans e5;have h5:=hC.upd b5 e5;have d':(vR (cs.setIfInBounds (m*20+1) (.int .i32 1)) (m*20) a0).size=80:=by rw[uA (by simp[a',a1];omega)];simpa using a'
  have a2:∀x,x≠m*20->x≠m*20+1->(((vR (cs.setIfInBounds (m*20+1) (.int .i32 1)) (m*20) a0).setIfInBounds (m*20) (.int .u32 1)).setIfInBounds (m*20+1) (.int .i32 0))[x]? = if x<m*20+3 then cs[x]? else if x<m*20+3+a0.length then a0[x-(m*20+3)]? else cs[x]?:=λx h1 h2=>by
   rw[M5 zo,M5 zo,ze (by simp[a',a1];omega),M5 zo]
  have c8:(((vR (cs.setIfInBounds (m*20+1) (.int .i32 1)) (m*20) a0).setIfInBounds (m*20) (.int .u32 1)).setIfInBounds (m*20+1) (.int .i32 0))[m*20]? = some (.int .u32 1):=by
   rw[M5 zo,N4 (by rw[d'];omega)]
  have e':(((vR (cs.setIfInBounds (m*20+1) (.int .i32 1)) (m*20) a0).setIfInBounds (m*20) (.int .u32 1)).setIfInBounds (m*20+1) (.int .i32 0)).size=80:=by rw[NA,NA,d']
  generalize (W'.drew.setCell ⟨b,m*20,none⟩ (.int .u32 1)).setCell ⟨b,m*20+1,none⟩ (.int .i32 0)=w6 at *;generalize ((vR (cs.setIfInBounds (m*20+1) (.int .i32 1)) (m*20) a0).setIfInBounds (m*20) (.int .u32 1)).setIfInBounds (m*20+1) (.int .i32 0)=cs6 at *;have e2:∀j u,a0[j]? = some u->cs6[m*20+3+j]? = some u:=λj u hu=>by
   have hj:j<a0.length:=(MO.1 hu).1;rw[a2 _ zo zo,if_neg zo,if_pos zo,show m*20+3+j-(m*20+3)=j from by omega];exact hu
  have c5:=e1 w6 cs6 a0 e3 e2;have r3:w6.cell? ⟨pb,0,none⟩=some (.pointer (some ⟨b,m*20,none⟩)):=(b8.upd d6 zo zo).cell 0 rfl;have a7:=L2 d9 d6 zo zo;refine zh ?_;apply zv (ai (us:=a0) c5 (Nf _) (by rw[a1];exact Mn _) rfl);apply bG (us:=a0.toArray) a7 (show a0.toArray.size=17 from by simpa using a1) (by rw[show a0.toArray.size=17 from by simpa using a1];exact Mn _) (by simpa using b0) rfl rfl rfl;have c6:=Mk (us:=a0.toArray) a7;have b2:M0 (λq=>q=T+1) O5 w6 O5 (LX w6 rb a0.toArray):=L0 zo a7.tag rfl;have d1:=L2 e3 b2 hi zo;have d2:=(a9.trans (PU d6 (λ_ h=>.inl h) a6)).trans (b2.mono (λ_ h=>.inr (by rw[h];omega)) a6);have b1:=d2.priv hT hi;have e8:=h5.upd b5 b2;refine zh ?_;refine bE (us:=a0) rfl rfl rfl (λj u hu=>by simpa using c6.cellsAdd j u (by simpa using hu)) (Nf _) (by rw[a1];exact Mn _) ⟨cs6,a0,rfl,?_,?_,b1⟩
  ·have g8:TabS O (w6.setRow rb a0.toArray) m a0:=⟨a1,b0,e0,W0.heap.size,λS O'' w'' u=>e8.upd b6 u⟩
   refine⟨d1.fgt h.blk.tag,e',λm' c'=>?_⟩
   by_cases em:m'=m
   ·subst em;exact .inr ⟨c8,a0,g8,e2⟩
   rcases h.place m' c' with⟨p0,p1⟩|⟨p0,t',p1,p2⟩
   ·refine .inl ⟨?_,?_⟩
    ·rw[a2 _ zo zo]
     split
     ·exact p0
     rw[if_neg zo];exact p0
    rw[a2 _ zo zo]
    split
    ·exact p1
    rw[if_neg zo];exact p1
   refine .inr ⟨?_,t',p1.upd b1,λj u hu=>?_⟩
   ·rw[a2 _ zo zo]
    split
    ·exact p0
    rw[if_neg zo];exact p0
   have hj:j<t'.length:=(MO.1 hu).1;have hl:=p1.1;rw[a2 _ zo zo]
   split
   ·exact p2 j u hu
   rw[if_neg zo];exact p2 j u hu
  exact⟨a1,b0,e0,W0.heap.size,λS O'' w'' u=>e8.upd b6 u⟩
 apply zc call26 (xD b (m*20) w5 (b9.cell (m*20) h0) _);rintro v w9 b3;rw[b3];clear b3 w9;obtain⟨a1,b0,e0,B0,hK⟩:=g0;have c5:=e1 w5 cs a0 b9 f6;have d4:M0 (λq=>q=i) O5 w5 O5 w5:=MI b7 O5 w5;have r3:w5.cell? ⟨pb,0,none⟩=some (.pointer (some ⟨b,m*20,none⟩)):=(b8.upd d4 zo zo).cell 0 rfl;have a7:=L2 d9 d4 zo zo;refine zh ?_
 apply zv (ai (us:=a0) c5 (Nf _) (by rw[a1];exact Mn _) rfl);apply bG (us:=a0.toArray) a7 (show a0.toArray.size=17 from by simpa using a1) (by rw[show a0.toArray.size=17 from by simpa using a1];exact Mn _) (by simpa using b0) rfl rfl rfl
 have c6:=Mk (us:=a0.toArray) a7;have b2:M0 (λq=>q=T+1) O5 w5 O5 (LX w5 rb a0.toArray):=L0 zo a7.tag rfl;have d1:=L2 b9 b2 hi zo;have d2:=(a9.trans (PU d4 (λ_ h=>.inl h) a6)).trans (b2.mono (λ_ h=>.inr (by rw[h];omega)) a6);have b1:=d2.priv hT hi;refine zh ?_;refine bE (us:=a0) rfl rfl rfl (λj u hu=>by simpa using c6.cellsAdd j u (by simpa using hu)) (Nf _) (by rw[a1];exact Mn _) ⟨cs,a0,rfl,⟨d1.fgt h.blk.tag,h.size,λm' c'=>(h.place m' c').imp id (fun⟨p0,t',p1,p2⟩=>⟨p0,t',p1.upd b1,p2⟩)⟩,⟨a1,b0,e0,B0,hK.upd b1⟩,b1⟩
abbrev stS(m:Nat):St:=cS (eF m)
theorem TabS.made{O:Nat->Nat}{w:ln}{m:Nat}{a3:List L4}(h:TabS O w m a3):∃a b a1 a0 gv lc rc,Made (stS m).li (stS m).lk (stS m).ts a b a1 a0/\a3=fm (cy (stS m).li (stS m).lk (stS m).ts a b a1 a0).ig (cy (stS m).li (stS m).lk (stS m).ts a b a1 a0).kp (cy (stS m).li (stS m).lk (stS m).ts a b a1 a0).br (cy (stS m).li (stS m).lk (stS m).ts a b a1 a0).rules gv lc rc/\Ints w gv (cy (stS m).li (stS m).lk (stS m).ts a b a1 a0).groups/\Q2 w lc (cy (stS m).li (stS m).lk (stS m).ts a b a1 a0).left (cy (stS m).li (stS m).lk (stS m).ts a b a1 a0).lt/\Q2 w rc (cy (stS m).li (stS m).lk (stS m).ts a b a1 a0).right (cy (stS m).li (stS m).lk (stS m).ts a b a1 a0).rt:=by
 obtain⟨h1,h2,e,B0,hK⟩:=h;obtain⟨_,hr,ha,hb⟩:=Cs (xj m)
 rcases hK.now.made with⟨e',a4,hv,a2⟩|⟨a,b,a1,a0,gv,lc,rc,hM,hv,k1,k2,k3,hn⟩
 ·exfalso
  rcases a2 with⟨_,h1⟩|⟨_,_,h1|h1⟩
  ·rw[hr]at h1;cases h1
  ·rw[h1]at ha;cases ha
  rw[h1]at hb;cases hb
 refine⟨a,b,a1,a0,gv,lc,rc,hM,?_,k1,k2,k3⟩;simp only[NB,P2,NQ,NN,NM,and_true,true_and]at hv;exact hv.1
def eC(m:Int):Bool:=decide (0<=m)&&decide (m<4)
theorem px(w:ln)(hT:lF w):MK M9 7 [] w λv w'=>v=.bool true/\ME w w':=by
 apply ix func7 ntmps7 rfl rfl;refine zh ?_
 apply zc call8 (ud w.heap.size (λ_=>0) w 1 zd (ax w));rintro v w1 ⟨b,O1,cs,rfl,b9,b7,a',d2⟩;apply zc call9 (pP 3 zd w.heap.size O1 w1 1 b cs a' zd b9)
 rintro v w2 ⟨d3,a0,rfl,c',a9,a8⟩;have c5:=a'.upd a8;obtain⟨a4,b5,_⟩:=id a9;refine zh ?_;apply ar c5 2 zo (Na _) rfl;intro tb w3 O3 a3 b6 d0 d1;apply bG (us:=a0.toArray) a3 (show a0.toArray.size=17 from by simpa using a4) (by rw[show a0.toArray.size=17 from by simpa using a4];exact Mn _) (by simpa using b5) rfl rfl rfl;have b2:=a3.setRow (us:=a0.toArray);have a7:M0 (λq=>q=2) O1 w2 O3 (w3.setRow tb a0.toArray):=b6.trans (L0 zd a3.tag rfl);have a1:M0 (λq=>1<=q) (λ_=>0) w O3 (w3.setRow tb a0.toArray):=((b7.mono (λ_ h=>zo) zd).trans (a8.mono (λ_ h=>zo) zd)).trans (a7.mono (λ_ h=>zo) zd);have b8:=a9.upd a7;generalize w3.setRow tb a0.toArray=w4 at *;obtain⟨a,bb,c9,c8,gv,lc,rc,hM,b1,k1,k2,k3⟩:=b8.made;have hi:=hM.inv;have a5:=hM.breaks [18,29,18] zd;rw[show tf (stS 3).li (stS 3).lk [18,29,18] (stS 3).ts=[true,false,true,true]from Bg]at a5;generalize cy (stS 3).li (stS 3).lk (stS 3).ts a bb c9 c8=t at *;refine zh ?_;apply au (d:=9) rfl (b':=true) rfl;refine zh ?_;refine zvH (ai (us:=a0) (λj u hu=>by simpa using b2.cellsAdd j u (by simpa using hu)) (Nf _) (by rw[a4];exact Mn _) rfl) ?_;apply cp MS (MX _) (zeroValue3 _) encI [18,29,18] rfl rfl rfl rfl zk (by simp) rfl;intro dv w5 b4 a2;rw[b1];refine zh ?_
 apply zc call11 (qk w5 t gv lc rc (k1.ext a2) (k2.ext a2) (k3.ext a2) hi.ok hi.right (mG hT (a1.ext.trans a2)) [18,29,18] dv b4 zd);rintro bv w6 ⟨a6,c7⟩;rw[a5]at a6;refine zh ?_
 apply cp P5 (P6 _) (zeroValue4 _) vx [true,false,true,true] rfl rfl rfl rfl zk (by simp) rfl;intro ev w7 b3 b0;refine zh ?_
 apply zc call12 (yc [true,false,true,true] [true,false,true,true] bv ev w7 (a6.ext b0) b3);rintro v w8 ⟨rfl,c6⟩;refine zh ?_
 refine af rfl rfl ⟨rfl,(((a1.ext.trans a2).trans c7).trans b0).trans c6⟩
end Go.Proofs.YteolbhblkgjbhaaGreatDoor
section
namespace Go.VL
theorem zn[Inhabited α](h:i<n):nth (l.take n) i=nth l i:=by
 by_cases h2:i<l.length
 ·rw[aB (by simp;omega),aB h2,List.getElem_take]
 rw[List.take_of_length_le zo]
theorem zp[Inhabited α](l:List α)(n i:Nat):nth (l.drop n) i=nth l (n+i):=by
 induction n generalizing l with
 |zero=>rw[List.drop_zero,PD]
 |succ n ih=>
  cases l with
  |nil=>simp[nth]
  |cons a l=>rw[List.drop_succ_cons,ih,show n+1+i=(n+i)+1 by omega,aS]
def jt(l:List α)(a b:Nat):List α:=(l.take b).drop a
theorem nH(h:b<=l.length):(jt l a b).length=b-a:=by unfold jt;simp;omega
theorem yS[Inhabited α](h:a+i<b):nth (jt l a b) i=nth l (a+i):=by unfold jt;rw[zp,zn h]
theorem gx{α:Type}[Inhabited α]{p:α → Bool}: ∀ {r:List α} {k:Nat}, k ≤ r.length → (∀i, i < k → p (nth r i) = true) → (k = r.length ∨ p (nth r k) = false) → (r.takeWhile p).length = k
  | [], k, h, _, _ => by have : k = 0 := by simpa using h
                         subst this; rfl
  |a :: r, 0, _, _, h3 => by
    rcases h3 with h3 | h3
    · simp at h3
    · rw[ao]at h3; rw[List.takeWhile_cons_of_neg (by rw[h3]; decide)]; rfl
  |a :: r, k + 1, h, h2, h3 => by
    have h0 := h2 0 (by omega)
    rw[ao]at h0
    rw[Nu h0, MV, gx (k := k) (by simpa using h) (λi hi => by have := h2 (i + 1) (by omega); rwa[aS]at this) (by
      rcases h3 with h3 | h3
      · exact .inl (by simpa using h3)
      · rw[aS]at h3; exact .inr h3)]
def tw(p:α->Bool)(l:List α)(a b:Nat):Nat:=a+((jt l a b).takeWhile p).length
theorem vZ[Inhabited α]{k:Nat}(h1:a<=k)(h2:k<=b)(h3:b<=l.length)(h4:∀i,a<=i->i<k->p (nth l i)=true)(h5:k=b\/p (nth l k)=false):tw p l a b=k:=by
 unfold tw
 rw[gx (k:=k-a) (by rw[nH h3];omega) (λi hi=>by rw[yS zo];exact h4 _ zo zo) (by
  rcases h5 with h5|h5
  ·exact .inl (by rw[nH h3];omega)
  by_cases e:k=b
  ·exact .inl (by rw[nH h3];omega)
  exact .inr (by rw[yS zo,show a+(k-a)=k by omega];exact h5))]
 omega
theorem tQ(h:a<=b)(h3:b<=l.length):a<=tw p l a b/\tw p l a b<=b:=by
 unfold tw;have:=(List.takeWhile_sublist p (l:=jt l a b)).length_le;rw[nH h3]at this;omega
theorem G1[Inhabited α](h:a<b)(h3:b<=l.length)(hp:p (nth l a)=true):a<tw p l a b:=by
 unfold tw;have e:jt l a b=nth l a::jt l (a+1) b:=by
  unfold jt;rw[MR (by simp;omega),<-aB,zn zo]
 rw[e,Nu hp,MV];omega
end Go.VL
namespace Go.Proofs.YteolbhblkgjbhaaGreatDoor
open Go.VL Go.Proofs
set_option maxRecDepth 10000
abbrev T3:=UInt8×List UInt8×Nat
def lA(x:T3):List L4:=[.int .u8 (x.1.toNat:Int),.string (bs x.2.1),nI (x.2.2:Nat)]
def signL:List UInt8:=[40,41,124,42,43,63,126,94]
def BW(c:UInt8):UInt8:=if signL.contains c=true then c else 1
def D8(l:List UInt8):Nat->Nat->List T3
 |0,_=>[]
 |n+1,a=>
  if l.length<=a then [(0,[],l.length)]
  else if nth l a=32 then D8 l n (a+1)
  else if aj (nth l a)=true then(97,jt l a (tw aj l a l.length),a)::D8 l n (tw aj l a l.length)
  else(BW (nth l a),[],a)::D8 l n (a+1)
def yO(l:List UInt8):List T3:=D8 l (l.length+1) 0
abbrev PG:=List T3->Nat->Option (Nd×Nat)
def qH(kn:Kn)(s:List UInt8):Option Nd:=
 if s=[97,110,121]then some (.mk 1 0 [])
 else match kn.reverse.find? (Bp s)with
  |some m=>some m.2
  |none=>(lZ s).map λc=>.mk 0 (c:Nat) []
def Dz(al:Option PG)(kn:Kn):PG:=λts t=>
 if(nth ts t).1=97 then(qH kn (nth ts t).2.1).map λx=>(x,t+1)
 else if(nth ts t).1=126 then(if t+1<ts.length/\(nth ts (t+1)).1=97 then(lZ (nth ts (t+1)).2.1).map λc=>(.mk 2 (c:Nat) [],t+2)else none)
 else if(nth ts t).1=94 then some (.mk 3 0 [],t+1)
 else if(nth ts t).1=40 then(match al with
  |none=>none
  |some f=>match f ts (t+1)with
   |none=>none
   |some (x,u)=>if u<ts.length/\(nth ts u).1=41 then some (x,u+1)else none)
 else none
def AD(al:Option PG)(kn:Kn):PG:=λts t=>
 if t<ts.length then(match Dz al kn ts t with
  |none=>none
  |some (x,u)=>if u<ts.length then(match opM (nth ts u).1 with
   |some k=>some (.mk (6+(k:Nat)) 0 [x],u+1)
   |none=>some (x,u))else none)
 else none
def Jh(c:UInt8):Bool:=c==97||c==126||c==94||c==40
def Fo(al:Option PG)(kn:Kn)(ts:List T3):Nat->List Nd->Nat->Option (Nd×Nat)
 |0,_,_=>none
 |n+1,acc,t=>match AD al kn ts t with
  |none=>none
  |some (x,u)=>if u<ts.length then(if Jh (nth ts u).1=true then Fo al kn ts n (acc++[x]) u else some (oneM 4 (acc++[x]),u))else none
def GQ(al:Option PG)(kn:Kn)(ts:List T3):Nat->List Nd->Nat->Option (Nd×Nat)
 |0,_,_=>none
 |n+1,acc,t=>match Fo al kn ts (ts.length+1) [] t with
  |none=>none
  |some (x,u)=>if u<ts.length then(if(nth ts u).1=124 then GQ al kn ts n (acc++[x]) (u+1)else some (oneM 5 (acc++[x]),u))else none
def Bj(kn:Kn):Nat->PG
 |0=>λts t=>GQ none kn ts (ts.length+1) [] t
 |d+1=>λts t=>GQ (some (Bj kn d)) kn ts (ts.length+1) [] t
def Iy(kn:Kn)(l:List UInt8):Option Nd:=
 if 4096<l.length then none else
 match Bj kn 20 (yO l) 0 with
 |some (t,u)=>if u<(yO l).length/\(nth (yO l) u).1=0/\nsz t<=2000 then some t else none
 |none=>none
def bq(b:UInt8):Bool:=b==32
def nn(b:UInt8):Bool:=!(b==33) && !(b==47)
def GC(l:List Int)(c:Int):List Int:=
 if(l.dropWhile (λx=>decide (x<c))).head? = some c then l else l.takeWhile (λx=>decide (x<c))++[c]++l.dropWhile (λx=>decide (x<c))
def uT(l:List UInt8)(b:Nat):Nat->Nat->List Int->Option (List Int)
 |0,_,_=>none
 |n+1,a,acc=>
  if b<=a then some acc
  else if aj (nth l a)=true then(match lZ (jt l a (tw aj l a b))with
   |none=>none
   |some c=>uT l b n (tw bq l (tw aj l a b) b) (GC acc (c:Nat)))
  else none
def uU(l:List UInt8)(a b:Nat):Option (List Int):=match uT l b (l.length+1) (tw bq l a b) []with
 |some (x::r)=>some (x::r)
 |_=>none
def wordsG:List (List UInt8):=[[108,101,116],[105,103,110,111,114,101],[107,101,101,112],[97,110,121]]
def Jd(kn:Kn)(l:List UInt8)(a b:Nat):Option Kn:=
 if aj (nth l (tw bq l a b))=true/\tw bq l a b<b then
  (if(lZ (jt l (tw bq l a b) (tw aj l (tw bq l a b) b))).isSome=true\/wordsG.contains (jt l (tw bq l a b) (tw aj l (tw bq l a b) b))=true\/kn.any (λm=>m.1==jt l (tw bq l a b) (tw aj l (tw bq l a b) b))=true then none
  else if tw bq l (tw aj l (tw bq l a b) b) b<b/\nth l (tw bq l (tw aj l (tw bq l a b) b) b)=61 then
   (Iy kn (jt l (tw bq l (tw aj l (tw bq l a b) b) b+1) b)).map λn=>kn++[(jt l (tw bq l a b) (tw aj l (tw bq l a b) b),n)]
  else none)
 else none
def tZ(kn:Kn)(l:List UInt8)(a b:Nat):Option Nd:=if tw bq l a b=b then some (.mk 9 0 [])else Iy kn (jt l a b)
def Ax(kn:Kn)(ts:List R3)(l:List UInt8)(a b:Nat):Option (List R3):=
 if ts.length=40 then none
 else if tw nn l a b<b then
  match tZ kn l a (tw nn l a b),tZ kn l (tw nn l a b+1) b with
  |some x,some y=>if bp y=true/\dm y=0 then some (ts++[(x,y,nth l (tw nn l a b)==47)])else none
  |_,_=>none
 else none
def JT(l:List UInt8)(kn:Kn)(st:St)(a b:Nat):Option (Kn×St):=
 if jt l a (tw aj l a b)=[108,101,116]then(Jd kn l (tw aj l a b) b).map λk=>(k,st)
 else if jt l a (tw aj l a b)=[105,103,110,111,114,101]then(if st.hi=true then none else(uU l (tw aj l a b) b).map λx=>(kn,{ st with li:=x,hi:=true }))
 else if jt l a (tw aj l a b)=[107,101,101,112]then(if st.hk=true then none else(uU l (tw aj l a b) b).map λx=>(kn,{ st with lk:=x,hk:=true }))
 else(Ax kn st.ts l a b).map λts=>(kn,{ st with ts:=ts })
def pV(b:UInt8):Bool:=!(b==10)
def uL(b:UInt8):Bool:=!(b==35)
def jC(l:List UInt8):Nat->Kn->St->Nat->Option St
 |0,_,_,_=>none
 |n+1,kn,st,f=>
  if l.length<f then some st
  else if tw bq l f (tw uL l f (tw pV l f l.length))=tw uL l f (tw pV l f l.length)then jC l n kn st (tw pV l f l.length+1)
  else match JT l kn st (tw bq l f (tw uL l f (tw pV l f l.length))) (tw uL l f (tw pV l f l.length))with
   |none=>none
   |some (kn',st')=>jC l n kn' st' (tw pV l f l.length+1)
def AN(l:List UInt8):Option St:=if 4096<l.length then none else jC l (l.length+2) [] st0 0
def xm(l:List UInt8):Bool:=match AN l with
 |some st=>eqI st.li (cS l).li&&(eqI st.lk (cS l).lk&&(decide (st.ts.length=(cS l).ts.length)&&vU (λi=>oq (nth st.ts i) (nth (cS l).ts i)) st.ts.length))
 |none=>false
theorem JJ:xm jM=true:=by decide +kernel
theorem JI:xm jL=true:=by decide +kernel
theorem JH:xm jK=true:=by decide +kernel
theorem JG:xm gV=true:=by decide +kernel
end Go.Proofs.YteolbhblkgjbhaaGreatDoor
end
namespace Go.Proofs.YteolbhblkgjbhaaGreatDoor
theorem qB(c:Int)(w:ln):MK M9 142 [nI c] w λv w'=>v=.string (bs (xM c))/\ME w w':=by
 apply ix func142 ntmps142 rfl rfl;refine zh ?_
 refine ct (λw1=>_=w1) (decide ((35:Int)<c)) 2 rfl rfl rfl rfl rfl rfl ?_ ?_
 ·intro a1;refine zh ?_;refine nE 5 3 rfl a1
 rintro _ rfl;refine zh ?_;refine zC ?_ ?_
 ·intro hc;simp only[Nm,decide_eq_true_eq]at hc;have hn:xM c=[]:=by unfold xM;rw[if_neg zo]
  refine zh ?_;refine af rfl rfl ⟨by rw[hn];rfl,LY _⟩
 intro hc;simp only[N5,decide_eq_false_iff_not]at hc;have a2:c.toNat<namesL.length:=by rw[mh];omega
 have hn:xM c=nth namesL c.toNat:=by unfold xM;rw[if_pos zo]
 refine zh ?_;apply cp NT (PS _) (Q4 _) encS namesL rfl rfl rfl rfl zk (by simp) rfl
 intro sv w1 a0 a3;have m1:=a0.ld a2;refine zh ?_;refine zvH (M4 a0 NT (PS _) rfl rfl c.toNat zo a2) ?_;refine af rfl rfl ⟨by rw[hn],a3⟩
theorem uM{c:Nat}(h:c<36):xM (c:Int)=nth namesL c:=by unfold xM;rw[if_pos zo,Int.toNat_natCast]
theorem Ds{a b:UInt8}(h:¬a=b):((a.toNat:Int)==(b.toNat:Int))=false:=by
 simp only[beq_eq_false_iff_ne,ne_eq,Int.natCast_inj];exact λe=>h (UInt8.toNat_inj.1 e)
theorem oF(s:List UInt8)(w:ln):MK M9 259 [.string (bs s)] w λv w'=>v=nI (eN namesL s)/\ME w w':=by
 apply ix func259 ntmps259 rfl rfl;refine zh ?_
 apply zlp (λy:Nat×ln=>[(0,.string (bs s)),(3,nI y.1)]) (λy=>y.2) (λy=>y.1<=36/\ME w y.2/\∀i,i<y.1->(nth namesL i==s)=false) (λy=>36-y.1) (0,w) ⟨LP _,LY _,λi hi=>absurd hi (LQ i)⟩;rintro⟨c,w1⟩ ⟨hc,hE,a2⟩;dsimp only at hc hE a2 ⊢;refine zh ?_
 refine zC ?_ ?_
 ·intro a1;replace a1:c<36:=dT a1;refine zh ?_;apply zc call142 (qB (c:Int) w1);rintro v w2 ⟨rfl,a4⟩;rw[uM a1];refine zh ?_;refine zvH (bN rfl rfl) ?_;refine zC ?_ ?_
  ·intro hy;have a0:c<namesL.length:=by rw[mh];exact a1
   have hf:namesL.findIdx? (· == s)=some c:=Mz.2 ⟨a0,by rw[<-aB a0];exact hy,λj hj=>by rw[<-aB zo,a2 j hj];decide⟩;refine zh ?_;refine af rfl rfl ⟨by unfold eN;rw[hf],hE.trans a4⟩
  intro hy;refine zh ?_;refine zxd (c+1,w2) ⟨a1,hE.trans a4,λi hi=>(L1.1 hi).elim (a2 i) (λe=>by rw[e];exact hy)⟩
 intro a3;replace a3:36<=c:=dF a3;have hf:namesL.findIdx? (· == s)=none:=MQ.2 λx hx=>by
  obtain⟨j,hj,rfl⟩:=ck hx;exact a2 j (by have:namesL.length=36:=rfl;omega)
 refine zh ?_;refine af rfl rfl ⟨by unfold eN;rw[hf],hE⟩
theorem oE(s:List UInt8)(w:ln):MK M9 103 [.string (bs s)] w λv w'=>v=nI (eN namesL s)/\ME w w':=by
 apply ix func103 ntmps103 rfl rfl;refine zh ?_
 apply zlp (λy:Nat×ln=>[(0,.string (bs s)),(3,nI y.1)]) (λy=>y.2) (λy=>y.1<=36/\ME w y.2/\∀i,i<y.1->(nth namesL i==s)=false) (λy=>36-y.1) (0,w) ⟨LP _,LY _,λi hi=>absurd hi (LQ i)⟩;rintro⟨c,w1⟩ ⟨hc,hE,a2⟩;dsimp only at hc hE a2 ⊢;refine zh ?_
 refine zC ?_ ?_
 ·intro a1;replace a1:c<36:=dT a1;refine zh ?_;apply zc call142 (qB (c:Int) w1);rintro v w2 ⟨rfl,a4⟩;rw[uM a1];refine zh ?_;refine zvH (bN rfl rfl) ?_;refine zC ?_ ?_
  ·intro hy;have a0:c<namesL.length:=by rw[mh];exact a1
   have hf:namesL.findIdx? (· == s)=some c:=Mz.2 ⟨a0,by rw[<-aB a0];exact hy,λj hj=>by rw[<-aB zo,a2 j hj];decide⟩;refine zh ?_;refine af rfl rfl ⟨by unfold eN;rw[hf],hE.trans a4⟩
  intro hy;refine zh ?_;refine zxd (c+1,w2) ⟨a1,hE.trans a4,λi hi=>(L1.1 hi).elim (a2 i) (λe=>by rw[e];exact hy)⟩
 intro a3;replace a3:36<=c:=dF a3;have hf:namesL.findIdx? (· == s)=none:=MQ.2 λx hx=>by
  obtain⟨j,hj,rfl⟩:=ck hx;exact a2 j (by have:namesL.length=36:=rfl;omega)
 refine zh ?_;refine af rfl rfl ⟨by unfold eN;rw[hf],hE⟩
theorem GE:cE M9 96 #[(0,1),(1,1),(2,1)]:=⟨_,underlying96,λw=>by kernel_rfl⟩
theorem Fy:cE M9 237 #[(0,3),(3,1),(4,1),(5,1)]:=⟨_,underlying237,λw=>by kernel_rfl⟩
theorem Iu:cE M9 240 #[(0,1),(1,1),(2,1)]:=⟨_,underlying240,λw=>by kernel_rfl⟩
theorem K4:Elem M9 234 240 3 32:=⟨Ms,by kernel_rfl,zd⟩
def mK(c:UInt8)(i:Nat):UInt8:=if(signL.take i).contains c=true then c else 1
theorem oh{c:UInt8}(h:i<8):mK c (i+1)=if(nth signL i==c)=true then c else mK c i:=by
 unfold mK;have:signL.take (i+1)=signL.take i++[nth signL i]:=aY (by have:signL.length=8:=rfl;omega);rw[this]
 by_cases e:nth signL i=c
 ·rw[e];simp
 have:(c==nth signL i)=false:=by simpa using λh=>e h.symm
 simp[e];have h2:¬c=nth signL i:=λh=>e h.symm
 simp[h2]
theorem D9(l:List UInt8)(B:Nat)(O:Nat->Nat)(w:ln)(hR:N8 B O w)(hl:l.length<=4096):MK M9 143 [.string (bs l)] w λv w'=>ME w w'/\Sl lA 3 w' v (yO l)/\Po O w' v:=by
 obtain⟨T,e0,hT⟩:=hR.bound;have d':∀b,¬T<=O b:=λb=>by have:=hT b;omega
 have b1:¬(λq:Nat=>T<=q) 0:=λe=>zo
 apply ix func143 ntmps143 rfl rfl;refine zh ?_
 apply zlp (λy:Nat×Nat×List T3×L4×(Nat->Nat)×World=>[(0,.string (bs l)),(3,y.2.2.2.1),(4,nI (y.2.1:Nat))]) (λy=>y.2.2.2.2.2) (λy=>y.2.1<=l.length/\l.length<y.1+y.2.1/\y.2.2.1.length<=y.2.1/\y.2.2.1++D8 l y.1 y.2.1=yO l/\NI lA 240 3 y.2.2.2.2.1 y.2.2.2.2.2 T y.2.2.2.1 y.2.2.1/\M0 (λq=>T<=q) O w y.2.2.2.2.1 y.2.2.2.2.2/\N8 B y.2.2.2.2.1 y.2.2.2.2.2) (λy=>y.1) (l.length+1,0,[],nS,O,w) ⟨LP _,by dsimp only;omega,LP _,rfl,MG _ _ _ _ _ _,MI b1 _ _,hR⟩;rintro⟨n,a,c',lv,O1,w1⟩ ⟨ha,hn,d8,hM,a5,hU,b7⟩;dsimp only at ha hn d8 hM a5 hU b7 ⊢;obtain⟨n,rfl⟩:∃m,n=m+1:=⟨n-1,zo⟩
 refine zh ?_;refine zvH (bO L8 rfl) ?_
 refine zC ?_ ?_
 ·intro b5;replace b5:a<l.length:=dT b5;rw[D8,if_neg zo]at hM;refine zh ?_;refine zvH (bW L8 rfl rfl _ rfl zo) ?_
  by_cases c5:nth l a=32
  ·rw[if_pos c5]at hM;refine zTH rfl ((by rw[c5];rfl)) ?_;refine zxd (n,a+1,c',lv,O1,w1) ⟨b5,by dsimp only;omega,by dsimp only;omega,hM,a5,hU,b7⟩
  rw[if_neg c5]at hM;apply aI rfl ((eJ _ 32 zd c5));apply NL;apply ah;apply Nl;apply MY;apply zv (M6 rfl);apply zv (Pl rfl);apply Nj;apply ah;apply Nl;refine iO (λz:Nat=>[(0,.string (bs l)),(3,lv),(4,nI (a:Nat)),(5,.int .u8 ((nth l a).toNat:Int)),(6,nI (z:Nat))]) (λz:Nat=>w1) (λz:Nat=>a<=z/\z<=l.length/\(∀i,a<=i->i<z->aj (nth l i)=true)/\tw aj l a l.length=z) ?_ ?_
  ·intro Qm hN;apply Pw;apply zlp (λk:Nat=>[(0,.string (bs l)),(3,lv),(4,nI (a:Nat)),(5,.int .u8 ((nth l a).toNat:Int)),(6,nI (k:Nat))]) (λk=>w1) (λk=>a<=k/\k<=l.length/\∀i,a<=i->i<k->aj (nth l i)=true) (λk=>l.length-k) a ⟨L3 _,ha,λi h1 h2=>zo⟩;rintro k ⟨a',a8,a7⟩;apply Nl;apply Nl;apply MY;apply zv (M6 rfl);apply zv (M6 rfl);apply zv (bO L8 rfl);apply zv (RV.lss rfl rfl);apply zv (M6 rfl)
   by_cases a1:k<l.length
   ·obtain⟨c,hc⟩:∃c,c=nth l k:=⟨_,rfl⟩
    have d2:aj c=true->∀i,a<=i->i<k+1->aj (nth l i)=true:=λh i h1 h2=>(L1.1 h2).elim (a7 i h1) (λe=>by rw[e,<-hc];exact h)
    have a3:aj c=false->tw aj l a l.length=k:=λh=>vZ a' a8 (L3 _) a7 (.inr (by rw[<-hc];exact h))
    apply au (d:=25) rfl (b':=true) (decide_eq_true zo);apply aH rfl
    apply zv (M6 rfl);apply aH rfl
    apply zv (M6 rfl);apply aH rfl
    apply zv (bW L8 rfl rfl _ rfl zo);apply aH rfl
    apply zv (RV.geq rfl rfl);apply aH rfl
    apply zv (M6 rfl);rw[<-hc]
    by_cases h1:65<=c.toNat
    ·apply au (d:=30) rfl (b':=true) (decide_eq_true zo);apply aH rfl
     apply zv (M6 rfl);apply aH rfl
     apply zv (M6 rfl);apply aH rfl
     apply zv (bW L8 rfl rfl _ rfl zo);apply aH rfl
     apply zv (RV.leq rfl rfl);apply aH rfl
     apply zv (aV rfl rfl);apply aH rfl
     apply zv (M6 rfl);rw[<-hc]
     by_cases h2:c.toNat<=90
     ·have a6:aj c=true:=by simp[aj,h1,h2]
      apply au (d:=36) rfl (b':=true) (decide_eq_true zo);apply NK rfl rfl rfl
      apply NK rfl rfl rfl;apply NK rfl rfl rfl
      apply NK rfl rfl rfl;apply NK rfl rfl rfl
      apply bQ rfl rfl;apply bQ rfl rfl
      apply bQ rfl rfl;apply bQ rfl rfl
      apply NK rfl rfl rfl;apply aH rfl
      apply zv (aV rfl rfl);apply zv (aV rfl rfl)
      apply Nj;apply ah
      apply aP rfl rfl;apply NL
      apply ah;apply Pw
      apply MY;apply zv (M6 rfl)
      apply zv (N1 rfl rfl (MN zo));apply zv (Pl rfl)
      apply Nj;apply aE
      refine zxd (k+1) ⟨zo,a1,d2 a6⟩
     apply au (d:=36) rfl (b':=false) (decide_eq_false zo);apply aH rfl
     apply zv (M6 rfl);apply aH rfl
     apply zv (M6 rfl);apply aH rfl
     apply zv (bW L8 rfl rfl _ rfl zo);apply aH rfl
     apply zv (RV.geq rfl rfl);apply aH rfl
     apply zv (M6 rfl);rw[<-hc]
     by_cases h3:97<=c.toNat
     ·apply au (d:=41) rfl (b':=true) (decide_eq_true zo);apply aH rfl
      apply zv (M6 rfl);apply aH rfl
      apply zv (M6 rfl);apply aH rfl
      apply zv (bW L8 rfl rfl _ rfl zo);apply aH rfl
      apply zv (RV.leq rfl rfl);apply aH rfl
      apply zv (aV rfl rfl);apply aH rfl
      apply zv (aG rfl rfl);apply zv (aV rfl rfl)
      apply Nj;apply ah
      rw[<-hc]
      by_cases h4:c.toNat<=122
      ·have a6:aj c=true:=by simp[aj,h3,h4]
       apply aP rfl ((decide_eq_true zo));apply NL
       apply ah;apply Pw
       apply MY;apply zv (M6 rfl)
       apply zv (N1 rfl rfl (MN zo));apply zv (Pl rfl)
       apply Nj;apply aE
       refine zxd (k+1) ⟨zo,a1,d2 a6⟩
      have a6:aj c=false:=by simp[aj,h2,h4]
      apply aI rfl ((decide_eq_false zo));apply WC.exit
      apply aO;apply aO
      apply bC;exact dq (hN k ⟨a',a8,a7,a3 a6⟩) ⟨rfl,rfl,rfl,rfl,rfl,trivial⟩ rfl
     have a6:aj c=false:=by simp[aj,h2,h3]
     apply au (d:=41) rfl (b':=false) (decide_eq_false zo);refine zh ?_
     refine zFH rfl rfl ?_;exact dq (hN k ⟨a',a8,a7,a3 a6⟩) ⟨rfl,rfl,rfl,rfl,rfl,trivial⟩ rfl
    have a6:aj c=false:=by
     have:¬97<=c.toNat:=zo;simp[aj,h1,this]
    apply au (d:=30) rfl (b':=false) (decide_eq_false zo);refine zh ?_
    refine zvH (bW L8 rfl rfl _ rfl zo) ?_;apply au (d:=36) rfl (b':=false) rfl
    rw[<-hc];apply au (d:=41) rfl (b':=false) (decide_eq_false zo);refine zh ?_;refine zFH rfl rfl ?_;exact dq (hN k ⟨a',a8,a7,a3 a6⟩) ⟨rfl,rfl,rfl,rfl,rfl,trivial⟩ rfl
   obtain rfl:k=l.length:=zo;apply au (d:=25) rfl (b':=false) (decide_eq_false zo);refine zh ?_;refine zFH rfl rfl ?_;exact dq (hN l.length ⟨a',a8,a7,vZ a' a8 (L3 _) a7 (.inl rfl)⟩) ⟨rfl,rfl,rfl,rfl,rfl,trivial⟩ rfl
  rintro k ⟨a',a8,a7,d1⟩;refine zh ?_
  by_cases b9:aj (nth l a)=true
  ·have e4:a<k:=by rw[<-d1];exact G1 b5 (L3 _) b9
   rw[if_pos b9,d1]at hM;refine zTH rfl ((decide_eq_true zo)) ?_;refine zvH (cf L8 rfl rfl rfl a k rfl rfl a' a8) ?_;apply zv (aF Iu (No _) rfl (by first|rfl|(simp only[L9,M7];rfl)) rfl rfl);apply Ng K4 a5 b7 (((97,jt l a k,a):T3)) (λ_=>rfl) rfl rfl rfl (by simp[Ma,lA]) zo zo zo zd rfl rfl;intro d0 w2 O2 a0 b2 b6;refine zh ?_;refine zxd (n,k,c'++[(97,jt l a k,a)],d0,O2,w2) ⟨a8,by dsimp only;omega,by simp;omega,by rw[<-hM];simp,a0,hU.trans (b2.mono (λ_ h=>by rw[h];omega) b1),b6⟩
  obtain rfl:a=k:=by
   rcases Nat.lt_or_ge a k with h|h
   ·exact absurd (a7 a (L3 _) h) b9
   omega
  rw[if_neg b9]at hM;refine zFH rfl ((decide_eq_false zo)) ?_;apply zv (Mw (cells:=(lA (1,[],a)).toArray) Iu (No _) rfl rfl);apply ar b7 (T+1) zo (No _) rfl;intro tb wa O2 b8 d9 e1 e5;apply zsa (us:=(lA (1,[],a)).toArray) b8 (MJ _);have d5:Mc O2 (wa.setRow tb (lA (1,[],a)).toArray) (T+1) tb (lA (1,[],a)).toArray 240:=b8.setRow;have b2:M0 (λq=>q=T+1) O1 w1 O2 (wa.setRow tb (lA (1,[],a)).toArray):=d9.trans (L0 zo b8.tag rfl);have b6:=e1.upd (L0 (S:=λq=>q=T+1) (us:=(lA (1,[],a)).toArray) zo b8.tag rfl);generalize wa.setRow tb (lA (1,[],a)).toArray=w2 at *;have a0:=a5.upd b2 zo zo;have c8:=hU.trans (b2.mono (λ_ h=>by rw[h];omega) b1);refine zh ?_;apply zlp (λz:Nat×ln=>[(0,.string (bs l)),(3,lv),(4,nI (a:Nat)),(5,.int .u8 ((nth l a).toNat:Int)),(7,nP tb),(8,nI (z.1:Nat))]) (λz=>z.2) (λz=>z.1<=8/\Mc O2 z.2 (T+1) tb #[.int .u8 ((mK (nth l a) z.1).toNat:Int),.string (bs []),nI (a:Nat)] 240/\M0 (λq=>T+1=q) O2 w2 O2 z.2) (λz=>8-z.1) (0,w2) ⟨LP _,d5,MI zo _ _⟩;rintro⟨i,w3⟩ ⟨hi,b0,a9⟩;dsimp only at hi b0 a9 ⊢;refine zh ?_;refine zC ?_ ?_
  ·intro a2;replace a2:i<8:=dT a2;refine zh ?_;refine zvH (bW L8 rfl rfl _ rfl zo) ?_
   by_cases hs:nth signL i=nth l a
   ·have a4:mK (nth l a) (i+1)=nth l a:=by rw[oh a2,hs];simp
    refine zTH rfl ((by rw[show nth [40,41,124,42,43,63,126,94] i=nth l a from hs];simp)) ?_;apply ak (j:=0) b0 rfl (sizeOf5 _) rfl rfl rfl rfl
    have d4:=b0.set 0 (.int .u8 ((nth l a).toNat:Int));have c9:M0 (λq=>T+1=q) O2 w3 O2 (w3.setCell ⟨tb,0,none⟩ (.int .u8 ((nth l a).toNat:Int))):=M1 zo b0.tag rfl;refine zh ?_;refine zxd (i+1,w3.setCell ⟨tb,0,none⟩ (.int .u8 ((nth l a).toNat:Int))) ⟨a2,by dsimp only;rw[a4];exact d4,a9.trans c9⟩
   have a4:mK (nth l a) (i+1)=mK (nth l a) i:=by rw[oh a2,if_neg (by simpa using hs)]
   refine zFH rfl ((Ds hs)) ?_;refine zxd (i+1,w3) ⟨a2,by dsimp only;rw[a4];exact b0,a9⟩
  intro c6;obtain rfl:i=8:=dF c6;have d6:mK (nth l a) 8=BW (nth l a):=rfl;rw[d6]at b0;have b4:=a0.upd a9 zo zo;have c7:=c8.trans (a9.mono (λ_ h=>zo) b1);have e3:=b6.upd a9;refine zh ?_;apply zv (ai (us:=lA (BW (nth l a),[],a)) b0.cellsAdd (isAgg240 _) (MJ _) rfl);apply Ng K4 b4 e3 (((BW (nth l a),[],a):T3)) (λ_=>rfl) rfl rfl rfl (by simp[Ma,lA]) zo zo zo zd rfl rfl;intro d3 w4 O4 b3 c9 e2;refine zh ?_;refine zxd (n,a+1,c'++[(BW (nth l a),[],a)],d3,O4,w4) ⟨b5,by dsimp only;omega,by simp;omega,by rw[<-hM];simp,b3,c7.trans (c9.mono (λ_ h=>by rw[h];omega) b1),e2⟩
 intro d7;obtain rfl:a=l.length:=dF d7;rw[D8,if_pos (L3 _)]at hM;refine zh ?_;apply zv (bO L8 rfl);apply zv (aF Iu (No _) rfl (by first|rfl|(simp only[L9,M7];rfl)) rfl rfl);apply Ng K4 a5 b7 (((0,[],l.length):T3)) (λ_=>rfl) rfl rfl rfl (by simp[Ma,lA]) zo zo zo zd rfl rfl;intro d0 w2 O2 a0 b2 b6;have a9:=hU.trans (b2.mono (λ_ h=>by rw[h];omega) b1);rw[hM]at a0;refine zh ?_;refine af rfl rfl ⟨az a9 d',a0.sl,a0.freeT e0 hT b6 a9⟩
abbrev cL(x:N3)(t:Nat):List L4:=[nI x.1,nI x.2.1,x.2.2,nI (t:Nat),nI 0,nI 0]
abbrev oV(x:N3)(t:Nat):L4:=.agg (cL x t).toArray
theorem lu{x:N3}{k:Nat}{u:L4}(h:(aX x)[k]? = some u):(cL x t)[k]? = some u:=by
 obtain⟨hk,_⟩:=MO.1 h;rw[show cL x t=aX x++[nI (t:Nat),nI 0,nI 0]from rfl,MP hk];exact h
theorem gM{x:N3}(h:x.2.2.oneCell'=true)(t:Nat):(cL x t).toArray.toList.all Ma=true:=by
 simp only[L9,h];rfl
def vO(F:Pn)(kn:Kn)(op:Int)(M:PG):Prop:=∀(B:Nat) (O:Nat->Nat) (w:ln) (ts:List T3) (lv kv:L4) (t u:Nat) (nd:Nd),N8 B O w->Sl lA 3 w lv ts->Po O w lv->Known O w kv kn->ts.length<=4097->t<=ts.length->M ts t=some (nd,u)->
 MK M9 F [lv,nI (t:Nat),nI op,kv] w λv w'=>ME w w'/\u<=ts.length/\∃x,v=oV x u/\Nt O w' nd x
theorem K7:Elem M9 94 96 3 40:=⟨Np,by kernel_rfl,zd⟩
def Ja(al:Option PG)(kn:Kn)(op:Int):Prop:=match al with
 |none=>op=20
 |some f=>0<=op/\op<20/\vO 144 kn (op+1) f
theorem Cn{al:Option PG}{kn:Kn}{ts:List T3}{a0:Nd}(h:AD al kn ts t=some (a0,u')):
  t<ts.length/\∃nd u,Dz al kn ts t=some (nd,u)/\u<ts.length/\((∃k,opM (nth ts u).1=some k/\a0=.mk (6+(k:Nat)) 0 [nd]/\u'=u+1)\/(opM (nth ts u).1=none/\a0=nd/\u'=u)):=by
 unfold AD at h
 split at h
 ·rename_i ht;refine⟨ht,?_⟩
  cases ha:Dz al kn ts t with
  |none=>rw[ha]at h;cases h
  |some p=>
   obtain⟨x,u⟩:=p;rw[ha]at h;dsimp only at h
   split at h
   ·rename_i hu;refine⟨x,u,rfl,hu,?_⟩
    cases ho:opM (nth ts u).1 with
    |none=>rw[ho]at h;cases h;exact .inr ⟨rfl,rfl,rfl⟩
    |some k=>rw[ho]at h;cases h;exact .inl ⟨k,rfl,rfl,rfl⟩
   cases h
 cases h
theorem Fw{kn:Kn}{p:List UInt8×Nd->Bool}(hi:i<kn.length)(h:p (nth kn i)=true)(a0:∀j,i<j->j<kn.length->p (nth kn j)=false):kn.reverse.find? p=some (nth kn i):=by
 have e:kn=kn.take i++nth kn i::kn.drop (i+1):=by
  conv=>lhs;rw[<-List.take_append_drop i kn,MR hi,<-aB hi]
 conv=>lhs;rw[e]
 rw[List.reverse_append,List.reverse_cons,P9,List.find?_append];have:(kn.drop (i+1)).reverse.find? p=none:=by
  rw[P1];intro x hx;rw[Pd]at hx;obtain⟨j,hj,rfl⟩:=ck hx;rw[zp];rw[a0 _ zo (by simp at hj;omega)];decide
 rw[this,Option.none_or,List.cons_append,Mv,List.find?_cons_of_pos h]
theorem sg{kn:Kn}{p:List UInt8×Nd->Bool}(a0:∀j,j<kn.length->p (nth kn j)=false):kn.reverse.find? p=none:=by
 rw[P1];intro x hx;rw[Pd]at hx;obtain⟨j,hj,rfl⟩:=ck hx;rw[a0 _ hj];decide
def uO(s:List UInt8)(m:List UInt8×Nd):Bool:=((m.1==s && !(s==[97,110,121]))&&bp m.2)&&(m.2.kind != 9)
theorem xO{s:List UInt8}(h:¬s=[97,110,121])(m:List UInt8×Nd):uO s m=Bp s m:=by
 unfold uO Bp;have:(s==[97,110,121])=false:=by simpa using h
 rw[this];simp
set_option maxHeartbeats 1000000 in
theorem Co(al:Option PG)(kn:Kn)(op:Int)(hop:0 ≤ op ∧ op ≤ 20)(hsm:∀j, j < kn.length → nsz (nth kn j).2 ≤ 2000)(ha:Ja al kn op): vO 243 kn op (AD al kn) := by
  intro B O w ts lv kv t u' nd' hR hs hf hkn hl ht hM
  obtain⟨hlt, nd, u, hA, hu, hE⟩ := Cn hM
  obtain⟨T, hT0, hT⟩ := hR.bound
  have hTT:∀b, ¬T ≤ O b := fun b => by have := hT b; omega
  have hzz:¬(fun q:Nat => T ≤ q) 0 := fun e => by omega
  obtain⟨ms, hk0⟩ := hkn
  refine ix func243 ntmps243 rfl rfl ?_
  refine zh ?_
  refine ar hR T (by omega) (Mi _) rfl ?_
  intro xb w1 O1 hx1 hU1 hR1 hE1
  refine zh ?_
  refine zv (Mw (cells := (cL (0, 0, .slice none 0 0) (t + 1)).toArray) Fy (Mi _) rfl rfl) ?_
  refine ar hR1 (T + 1) (by omega) (Mi _) rfl ?_
  intro ob wa O2 hoa hUa hRa hEa
  refine zsa (us := (cL (0, 0, .slice none 0 0) (t + 1)).toArray) hoa (Mb _) ?_
  have ho2:Mc O2 (wa.setRow ob (cL (0, 0, .slice none 0 0) (t + 1)).toArray) (T + 1) ob (cL (0, 0, .slice none 0 0) (t + 1)).toArray 237 := hoa.setRow
  have hU2:M0 (fun q => q = T + 1) O1 w1 O2 (wa.setRow ob (cL (0, 0, .slice none 0 0) (t + 1)).toArray) := hUa.trans (L0 (by omega) hoa.tag rfl)
  have hR2 := hRa.upd (L0 (S := fun q => q = T + 1) (us := (cL (0, 0, .slice none 0 0) (t + 1)).toArray) (by omega) hoa.tag rfl)
  generalize wa.setRow ob (cL (0, 0, .slice none 0 0) (t + 1)).toArray = w2 at *
  have hx2 := hx1.upd hU2 (by omega) (by omega)
  have hUt2:M0 (fun q => T ≤ q) O w O2 w2 := (hU1.mono (fun _ h => by rw[h]; omega) hzz).trans (hU2.mono (fun _ h => by rw[h]; omega) hzz)
  have hE02 := az hUt2 hTT
  have hs2 := hs.ext hE02
  have hf2 := hf.upd hUt2
  have hk2 := hk0.upd hUt2
  have hd0:∀W, ME w W → ∀i, i < ts.length → W.cell? ((adr lv 3 i).add 0) = some (.int .u8 ((nth ts i).1.toNat:Int)) := fun W hE i hi => (hs.ext hE).cell hi rfl
  have hd1:∀W, ME w W → ∀i, i < ts.length → W.cell? ((adr lv 3 i).add 1) = some (.string (bs (nth ts i).2.1)) := fun W hE i hi => (hs.ext hE).cell hi rfl
  have g0 := hd0 w2 hE02 t hlt
  have g1 := hd1 w2 hE02 t hlt
  refine zh ?_
  refine iO (fun z:ln×N3 => [(0, lv), (8, .pointer (some ⟨xb, 0, none⟩)), (9, .pointer (some ⟨ob, 0, none⟩))]) (fun z:ln×N3 => z.1) (fun z:ln×N3 => Mc O2 z.1 T xb #[.int .i64 0, .int .i64 0, .slice none 0 0, .int .i64 0, .int .i64 0, .int .i64 0] 237 ∧ Mc O2 z.1 (T + 1) ob (cL z.2 u).toArray 237 ∧ Nt O2 z.1 nd z.2 ∧ M0 (fun q => T ≤ q) O w O2 z.1 ∧ N8 B O2 z.1) ?_ ?_
  · intro Qm hN
    refine zh ?_
    by_cases c97:(nth ts t).1 = 97
    · have hA2:∃y, qH kn (nth ts t).2.1 = some y ∧ nd = y ∧ u = t + 1 := by
        unfold Dz at hA
        rw[if_pos c97]at hA
        cases hn:qH kn (nth ts t).2.1 with
        |none => rw[hn]at hA; cases hA
        |some y => rw[hn]at hA; cases hA; exact⟨_, rfl, rfl, rfl⟩
      obtain⟨_, hn, rfl, rfl⟩ := hA2
      clear hA
      have hd1t:∀W, ME w W → W.cell? ((adr lv 3 t).add 1) = some (.string (bs (nth ts t).2.1)) := fun W hE => hd1 W hE t hlt
      obtain⟨s, hse⟩:∃s, s = (nth ts t).2.1 := ⟨_, rfl⟩
      rw[← hse]at hn hd1t g1
      refine zTH rfl ((by rw[c97]; rfl)) ?_
      refine zc call259 (oF s w2) ?_
      rintro v w3 ⟨rfl, hE3⟩
      have hX3:M0 (fun _ => False) O2 w2 O2 w3 := ae (fun h => h) O2 hE3
      have hx3 := hx2.upd hX3 (by omega) (fun h => h)
      have ho3 := ho2.upd hX3 (by omega) (fun h => h)
      have hR3 := hR2.upd hX3
      have hUt3 := hUt2.trans (hX3.mono (fun _ h => h.elim) hzz)
      have hk3 := hk2.upd hX3
      have hkl := hk3.1.len_le
      refine zh ?_
      refine zvH (NO (by first | exact hk3.1) MZ rfl) ?_
      refine zlp (fun y:Nat×Bool×ln×N3 => [(0, lv), (1, .int .i64 (t:Nat)), (3, kv), (8, .pointer (some ⟨xb, 0, none⟩)), (9, .pointer (some ⟨ob, 0, none⟩)), (10, .int .i64 (eN namesL s)), (11, .bool y.2.1), (12, .int .i64 ((y.1:Int) - 1))]) (fun y => y.2.2.1) (fun y => y.1 ≤ ms.length ∧ Mc O2 y.2.2.1 T xb #[.int .i64 0, .int .i64 0, .slice none 0 0, .int .i64 0, .int .i64 0, .int .i64 0] 237 ∧ Mc O2 y.2.2.1 (T + 1) ob (cL y.2.2.2 (t + 1)).toArray 237 ∧ M0 (fun q => T ≤ q) O w O2 y.2.2.1 ∧ N8 B O2 y.2.2.1 ∧ KnownM O2 y.2.2.1 kv kn ms ∧ (y.2.1 = false → y.2.2.2 = (0, 0, .slice none 0 0) ∧ ∀j, y.1 ≤ j → j < kn.length → uO s (nth kn j) = false) ∧ (y.2.1 = true → Nt O2 y.2.2.1 nd y.2.2.2)) (fun y => y.1) (ms.length, false, w3, (0, 0, .slice none 0 0)) (⟨L3 _, hx3, ho3, hUt3, hR3, hk3, fun _ => ⟨rfl, fun j h1 h2 => by have := hk3.2.2.1; dsimp only at h1; omega⟩, fun h => by cases h⟩) ?_
      rintro⟨i, found, w4, x⟩ ⟨hi, hx4, ho4, hUt4, hR4, hk4, hno, hyes⟩
      dsimp only at hi hx4 ho4 hUt4 hR4 hk4 hno hyes ⊢
      have hkn4 := hk4.2.2.1
      refine zh ?_
      refine aT (fun w1 => _ = w1) (!found) 2 (rfl) rfl rfl rfl rfl rfl ?_ ?_
      · skip
        intro a1
        refine zh ?_
        refine cg (tA := 39) 3 (rfl) rfl rfl rfl (fun v hv => (Mg hv).symm.trans (congrArg MW a1)) rfl
      rintro _ rfl
      refine zh ?_
      refine zC ?_ ?_
      · intro hc
        rw[LV]at hc
        obtain⟨hc1, hc2⟩ := hc
        obtain⟨j, rfl⟩:∃j, i = j + 1 := ⟨i - 1, by have := of_decide_eq_true hc1; omega⟩
        obtain rfl:found = false := by simpa using hc2
        obtain⟨rfl, hno2⟩ := hno rfl
        clear hno hyes hc1 hc2
        rw[show((j + 1:Nat):Int) - 1 = (j:Nat)from by omega]
        have hjm:j < ms.length := by omega
        have hjk:j < kn.length := by omega
        have hXD:M0 (fun _ => False) O2 w4 O2 w4.drew := ae (fun h => h) O2 (LY w4).drew
        have hxD := hx4.drew
        have hoD := ho4.drew
        have hRD := hR4.upd hXD
        have hUtD := hUt4.drew
        have hkD := hk4.upd hXD
        obtain⟨e1, e2⟩ := hkD.2.2.2 j hjm
        have hED := az hUtD hTT
        have m0:∀W, ME w W → W.cell? ((adr kv 4 j).add 0) = some (.string (bs (nth kn j).1)) := fun W hE => by rw[e1]; exact(hk0.1.ext hE).cell hjm rfl
        have mN:∀W, ME w W → ∀(k:Nat) (u:L4), (aX (nth ms j).2)[k]? = some u → W.cell? (((adr kv 4 j).add 1).add k) = some u := fun W hE k u hu => by
          have := (hk0.1.ext hE).cell hjm (j := k + 1) (u := u) hu
          rw[show((adr kv 4 j).add 1).add k = (adr kv 4 j).add (k + 1)from by simp[Nx, Pz, Nat.add_comm]]
          exact this
        have mk:∀W, ME w W → W.cell? (((adr kv 4 j).add 1).add 0) = some (.int .i64 (nth kn j).2.kind) := fun W hE => by rw[mN W hE 0 _ rfl, e2.kind]
        refine zh ?_
        refine aQ (fun W => ME w W) 36 rfl (by kernel_rfl) ?_
        refine zrm 0 rfl hED rfl ?_
        refine zrm 1 rfl hED rfl ?_
        refine zt 2 rfl hED (fun w1 hw1 => M4 (by first | exact hk0.1.ext hw1 | exact hs.ext hw1) MZ (NY _) rfl rfl _ rfl (by omega)) ?_
        refine zrf 3 rfl hED rfl ?_
        refine zt 4 rfl hED (fun w1 hw1 => RV.ld (by first | exact m0 _ hw1 | exact hd1t _ hw1 | exact mk _ hw1) rfl) ?_
        refine zrm 5 rfl hED rfl ?_
        refine zrm 6 rfl hED rfl ?_
        refine zt 7 rfl hED (fun w1 hw1 => M4 (by first | exact hk0.1.ext hw1 | exact hs.ext hw1) Ms (MJ _) rfl rfl _ rfl (by omega)) ?_
        refine zrf 8 rfl hED rfl ?_
        refine zt 9 rfl hED (fun w1 hw1 => RV.ld (by first | exact m0 _ hw1 | exact hd1t _ hw1 | exact mk _ hw1) rfl) ?_
        refine zr 10 rfl hED (fun _ => bN rfl rfl) ?_
        refine zrm 11 rfl hED rfl ?_
        cases b1:((nth kn j).1 == s)with
        |false =>
          have hq:uO s (nth kn j) = false := by unfold uO; rw[b1]; rfl
          refine dC (d := 56) rfl (b' := false) (rfl) ?_
          have hno3:∀j', j ≤ j' → j' < kn.length → uO s (nth kn j') = false := fun j' h1 h2 => by
            by_cases e:j' = j
            · subst e; exact hq
            · exact hno2 j' (by omega) h2
          refine zte 12 rfl rfl hED ?_
          refine zte 13 rfl rfl hED ?_
          refine zte 14 rfl rfl hED ?_
          refine zte 15 rfl rfl hED ?_
          refine zte 16 rfl rfl hED ?_
          refine zte 17 rfl rfl hED ?_
          refine zr 18 rfl hED (fun _ => aG rfl rfl) ?_
          refine zrm 19 rfl hED rfl ?_
          refine zte 20 rfl rfl hED ?_
          refine zte 21 rfl rfl hED ?_
          refine zte 22 rfl rfl hED ?_
          refine zte 23 rfl rfl hED ?_
          refine zte 24 rfl rfl hED ?_
          refine zte 25 rfl rfl hED ?_
          refine zr 26 rfl hED (fun _ => aG rfl rfl) ?_
          refine zrm 27 rfl hED rfl ?_
          refine zte 28 rfl rfl hED ?_
          refine zte 29 rfl rfl hED ?_
          refine zte 30 rfl rfl hED ?_
          refine zte 31 rfl rfl hED ?_
          refine zte 32 rfl rfl hED ?_
          refine zte 33 rfl rfl hED ?_
          refine zte 34 rfl rfl hED ?_
          refine zr 35 rfl hED (fun _ => aG rfl rfl) ?_
          refine Me (by kernel_rfl) ?_
          refine zh ?_
          refine zFH rfl rfl ?_
          refine zxd (j, false, w4.drew, (0, 0, .slice none 0 0)) (⟨by dsimp only; omega, hxD, hoD, hUtD, hRD, hkD, fun _ => ⟨rfl, hno3⟩, fun h => by cases h⟩)
        |true =>
          refine dC (d := 56) rfl (b' := true) (rfl) ?_
          refine zro 12 rfl hED (fun _ => M6 rfl) ?_
          refine zro 13 rfl hED (fun _ => M6 rfl) ?_
          refine zto 14 rfl hED (fun w1 hw1 => M4 (by first | exact hk0.1.ext hw1 | exact hs.ext hw1) Ms (MJ _) rfl rfl _ rfl (by omega)) ?_
          refine zro 15 rfl hED (fun _ => RV.fa rfl) ?_
          refine zto 16 rfl hED (fun w1 hw1 => RV.ld (by first | exact m0 _ hw1 | exact hd1t _ hw1 | exact mk _ hw1) rfl) ?_
          refine zro 17 rfl hED (fun _ => mJ rfl rfl) ?_
          refine zr 18 rfl hED (fun _ => aV rfl rfl) ?_
          refine zrm 19 rfl hED rfl ?_
          cases b2:(s == [97, 110, 121])with
          |true =>
            have hq:uO s (nth kn j) = false := by unfold uO; rw[b2]; simp
            refine dC (d := 64) rfl (b' := false) (rfl) ?_
            have hno3:∀j', j ≤ j' → j' < kn.length → uO s (nth kn j') = false := fun j' h1 h2 => by
              by_cases e:j' = j
              · subst e; exact hq
              · exact hno2 j' (by omega) h2
            refine zte 20 rfl rfl hED ?_
            refine zte 21 rfl rfl hED ?_
            refine zte 22 rfl rfl hED ?_
            refine zte 23 rfl rfl hED ?_
            refine zte 24 rfl rfl hED ?_
            refine zte 25 rfl rfl hED ?_
            refine zr 26 rfl hED (fun _ => aG rfl rfl) ?_
            refine zrm 27 rfl hED rfl ?_
            refine zte 28 rfl rfl hED ?_
            refine zte 29 rfl rfl hED ?_
            refine zte 30 rfl rfl hED ?_
            refine zte 31 rfl rfl hED ?_
            refine zte 32 rfl rfl hED ?_
            refine zte 33 rfl rfl hED ?_
            refine zte 34 rfl rfl hED ?_
            refine zr 35 rfl hED (fun _ => aG rfl rfl) ?_
            refine Me (by kernel_rfl) ?_
            refine zh ?_
            refine zFH rfl rfl ?_
            refine zxd (j, false, w4.drew, (0, 0, .slice none 0 0)) (⟨by dsimp only; omega, hxD, hoD, hUtD, hRD, hkD, fun _ => ⟨rfl, hno3⟩, fun h => by cases h⟩)
          |false =>
            refine dC (d := 64) rfl (b' := true) (rfl) ?_
            refine zro 20 rfl hED (fun _ => M6 rfl) ?_
            refine zro 21 rfl hED (fun _ => M6 rfl) ?_
            refine zto 22 rfl hED (fun w1 hw1 => M4 (by first | exact hk0.1.ext hw1 | exact hs.ext hw1) MZ (NY _) rfl rfl _ rfl (by omega)) ?_
            refine zro 23 rfl hED (fun _ => RV.fa rfl) ?_
            refine zto 24 rfl hED (fun w1 hw1 => ai (us := aX (nth ms j).2) (mN _ hw1) (Mj _) (LZ _) rfl) ?_
            refine L7 25 (by kernel_rfl) rfl ?_
            refine aH rfl ?_
            refine zc ND (dj 2000 (L3 _) (nth kn j).2 (hsm j hjk) (nth ms j).2 w4.drew false e2.zero) ?_
            rintro v w5 ⟨rfl, hE5⟩
            have hX5:M0 (fun _ => False) O2 w4.drew O2 w5 := ae (fun h => h) O2 hE5
            have hx5 := hxD.upd hX5 (by omega) (fun h => h)
            have ho5 := hoD.upd hX5 (by omega) (fun h => h)
            have hR5 := hRD.upd hX5
            have hUt5 := hUtD.trans (hX5.mono (fun _ h => h.elim) hzz)
            have hk5 := hkD.upd hX5
            have e5 := e2.upd hX5
            have hxo := e2.one
            refine zh ?_
            refine zaf ((hED.trans hE5)) fun zS => ?_
            refine zr 26 rfl zS (fun _ => aV rfl rfl) ?_
            refine zrm 27 rfl zS rfl ?_
            cases b3:bS (nth kn j).2 false with
            |false =>
              have hq:uO s (nth kn j) = false := by unfold uO bp; rw[b3]; simp
              refine dC (d := 72) rfl (b' := false) (rfl) ?_
              have hno3:∀j', j ≤ j' → j' < kn.length → uO s (nth kn j') = false := fun j' h1 h2 => by
                by_cases e:j' = j
                · subst e; exact hq
                · exact hno2 j' (by omega) h2
              refine zin ((hED.trans hE5)) fun zS => ?_
              refine zte 28 rfl rfl zS ?_
              refine zte 29 rfl rfl zS ?_
              refine zte 30 rfl rfl zS ?_
              refine zte 31 rfl rfl zS ?_
              refine zte 32 rfl rfl zS ?_
              refine zte 33 rfl rfl zS ?_
              refine zte 34 rfl rfl zS ?_
              refine zr 35 rfl zS (fun _ => aG rfl rfl) ?_
              refine Me (by kernel_rfl) ?_
              refine zh ?_
              refine zFH rfl rfl ?_
              refine zxd (j, false, w5, (0, 0, .slice none 0 0)) (⟨by dsimp only; omega, hx5, ho5, hUt5, hR5, hk5, fun _ => ⟨rfl, hno3⟩, fun h => by cases h⟩)
            |true =>
              refine dC (d := 72) rfl (b' := true) (rfl) ?_
              refine zin ((hED.trans hE5)) fun zS => ?_
              refine zro 28 rfl zS (fun _ => M6 rfl) ?_
              refine zro 29 rfl zS (fun _ => M6 rfl) ?_
              refine zto 30 rfl zS (fun w1 hw1 => M4 (by first | exact hk0.1.ext hw1 | exact hs.ext hw1) MZ (NY _) rfl rfl _ rfl (by omega)) ?_
              refine zro 31 rfl zS (fun _ => RV.fa rfl) ?_
              refine zro 32 rfl zS (fun _ => RV.fa rfl) ?_
              refine zto 33 rfl zS (fun w1 hw1 => RV.ld (by first | exact m0 _ hw1 | exact hd1t _ hw1 | exact mk _ hw1) rfl) ?_
              refine zro 34 rfl zS (fun _ => Px rfl rfl) ?_
              refine zr 35 rfl zS (fun _ => aV rfl rfl) ?_
              refine Me (by kernel_rfl) ?_
              refine zh ?_
              cases b4:((nth kn j).2.kind != 9)with
              |false =>
                have hq:uO s (nth kn j) = false := by unfold uO; rw[b4]; simp
                refine aI rfl rfl ?_
                have hno3:∀j', j ≤ j' → j' < kn.length → uO s (nth kn j') = false := fun j' h1 h2 => by
                  by_cases e:j' = j
                  · subst e; exact hq
                  · exact hno2 j' (by omega) h2
                refine zh ?_
                refine zxd (j, false, w5, (0, 0, .slice none 0 0)) (⟨by dsimp only; omega, hx5, ho5, hUt5, hR5, hk5, fun _ => ⟨rfl, hno3⟩, fun h => by cases h⟩)
              |true =>
                have hq:uO s (nth kn j) = true := by unfold uO bp; rw[b1, b2, b3, b4, decide_eq_true (hsm j hjk)]; rfl
                have hsa:¬s = [97, 110, 121] := by simpa using b2
                obtain rfl:nd = (nth kn j).2 := by
                  unfold qH at hn
                  rw[if_neg hsa, Fw (i := j) hjk (by rw[← xO hsa]; exact hq) (fun k h1 h2 => by rw[← xO hsa]; exact hno2 k h1 h2)]at hn
                  exact(Mg hn).symm
                refine zTH rfl rfl ?_
                refine zvH (M4 (by first | exact hk0.1.ext (hED.trans hE5)) MZ (NY _) rfl rfl _ rfl (by omega)) ?_
                refine zvH (ai (us := aX (nth ms j).2) (mN w5 (hED.trans hE5)) (Mj _) (LZ _) rfl) ?_
                refine bT (us := #[.int .i64 ((nth ms j).2).1, .int .i64 ((nth ms j).2).2.1, ((nth ms j).2).2.2]) 0 (cL (nth ms j).2 (t + 1)).toArray ho5 rfl (Mr rfl) (LZ _) (bX hxo) rfl rfl rfl ?_
                have hoN:Mc O2 (LX w5 ob (cL (nth ms j).2 (t + 1)).toArray) (T + 1) ob (cL (nth ms j).2 (t + 1)).toArray 237 := Mk ho5
                have hUN:M0 (fun q => q = T + 1) O2 w5 O2 (LX w5 ob (cL (nth ms j).2 (t + 1)).toArray) := L0 (by omega) (N6 ho5) rfl
                have hxN := L2 hx5 hUN (by omega) (by omega)
                have hUtN := Mf hUt5 (hUN.mono (fun _ h => by rw[h]; omega) hzz)
                have hRN := N0 hR5 hUN
                refine zh ?_
                refine zxd (j, true, _, (nth ms j).2) (⟨by dsimp only; omega, hxN, hoN, hUtN, hRN, hk5.upd hUN, fun h => (by cases h), fun _ => e5.upd hUN⟩)
      · intro hc
        refine zh ?_
        cases found with
        |true =>
          refine zTH rfl rfl ?_
          exact dq (hN ((w4, x)) (⟨hx4, ho4, hyes rfl, hUt4, hR4⟩)) ⟨rfl, rfl, rfl, trivial⟩ rfl
        |false =>
          obtain⟨rfl, hno2⟩ := hno rfl
          obtain rfl:i = 0 := by
            rw[Bool.not_false, Pq]at hc
            have := of_decide_eq_false hc; omega
          refine aI rfl rfl ?_
          have g1E := hd1t _ (az hUt4 hTT)
          have hsE := hs.ext (az hUt4 hTT)
          refine zh ?_
          refine zvH (bN rfl rfl) ?_
          refine zC ?_ ?_
          · intro hany
            obtain rfl:s = [97, 110, 121] := by simpa using hany
            obtain rfl:nd = .mk 1 0 [] := by
              unfold qH at hn
              rw[if_pos rfl]at hn
              exact(Mg hn).symm
            refine zh ?_
            refine zvH (aF GE (MB _) rfl (by first | rfl | (simp only[L9, M7]; rfl)) rfl rfl) ?_
            refine bT (us := #[.int .i64 (((1, 0, .slice none 0 0):N3)).1, .int .i64 (((1, 0, .slice none 0 0):N3)).2.1, (((1, 0, .slice none 0 0):N3)).2.2]) 0 (cL ((1, 0, .slice none 0 0):N3) (t + 1)).toArray ho4 rfl (Mr rfl) (LZ _) (bX rfl) rfl rfl rfl ?_
            have hoN:Mc O2 (LX w4 ob (cL ((1, 0, .slice none 0 0):N3) (t + 1)).toArray) (T + 1) ob (cL ((1, 0, .slice none 0 0):N3) (t + 1)).toArray 237 := Mk ho4
            have hUN:M0 (fun q => q = T + 1) O2 w4 O2 (LX w4 ob (cL ((1, 0, .slice none 0 0):N3) (t + 1)).toArray) := L0 (by omega) (N6 ho4) rfl
            have hxN := L2 hx4 hUN (by omega) (by omega)
            have hUtN := Mf hUt4 (hUN.mono (fun _ h => by rw[h]; omega) hzz)
            have hRN := N0 hR4 hUN
            refine zh ?_
            exact dq (hN ((_, ((1, 0, .slice none 0 0):N3))) (⟨hxN, hoN, Pg _ _ _ _, hUtN, hRN⟩)) ⟨rfl, rfl, rfl, trivial⟩ rfl
          · intro hany
            have hsa:¬s = [97, 110, 121] := by simpa using hany
            have hc0:∃c, lZ s = some c ∧ nd = .mk 0 (c:Nat) [] := by
              unfold qH at hn
              rw[if_neg hsa, sg (fun k h2 => by rw[← xO hsa]; exact hno2 k (LP _) h2)]at hn
              cases hnm:lZ s with
              |none => rw[hnm]at hn; cases hn
              |some c => rw[hnm]at hn; exact⟨c, rfl, (Mg hn).symm⟩
            obtain⟨c, hnm, rfl⟩ := hc0
            rw[show eN namesL s = ((c:Nat):Int)from by unfold lZ at hnm; unfold eN; rw[hnm]]
            refine zh ?_
            refine zFH rfl ((decide_eq_false (by omega))) ?_
            refine zvH (aF GE (MB _) rfl (by first | rfl | (simp only[L9, M7]; rfl)) rfl rfl) ?_
            refine bT (us := #[.int .i64 (((0, (c:Nat), .slice none 0 0):N3)).1, .int .i64 (((0, (c:Nat), .slice none 0 0):N3)).2.1, (((0, (c:Nat), .slice none 0 0):N3)).2.2]) 0 (cL ((0, (c:Nat), .slice none 0 0):N3) (t + 1)).toArray ho4 rfl (Mr rfl) (LZ _) (bX rfl) rfl rfl rfl ?_
            have hoN:Mc O2 (LX w4 ob (cL ((0, (c:Nat), .slice none 0 0):N3) (t + 1)).toArray) (T + 1) ob (cL ((0, (c:Nat), .slice none 0 0):N3) (t + 1)).toArray 237 := Mk ho4
            have hUN:M0 (fun q => q = T + 1) O2 w4 O2 (LX w4 ob (cL ((0, (c:Nat), .slice none 0 0):N3) (t + 1)).toArray) := L0 (by omega) (N6 ho4) rfl
            have hxN := L2 hx4 hUN (by omega) (by omega)
            have hUtN := Mf hUt4 (hUN.mono (fun _ h => by rw[h]; omega) hzz)
            have hRN := N0 hR4 hUN
            refine zh ?_
            exact dq (hN ((_, ((0, (c:Nat), .slice none 0 0):N3))) (⟨hxN, hoN, Pg _ _ _ _, hUtN, hRN⟩)) ⟨rfl, rfl, rfl, trivial⟩ rfl
    · unfold Dz at hA
      rw[if_neg c97]at hA
      refine zFH rfl ((eJ _ 97 (by decide) c97)) ?_
      by_cases c126:(nth ts t).1 = 126
      · rw[if_pos c126]at hA
        have hA2:t + 1 < ts.length ∧ (nth ts (t + 1)).1 = 97 ∧ ∃c, lZ (nth ts (t + 1)).2.1 = some c ∧ nd = .mk 2 (c:Nat) [] ∧ u = t + 2 := by
          split at hA
          · rename_i h
            cases hnm:lZ (nth ts (t + 1)).2.1 with
            |none => rw[hnm]at hA; cases hA
            |some c => rw[hnm]at hA; cases hA; exact⟨h.1, h.2, c, rfl, rfl, rfl⟩
          · cases hA
        obtain⟨hl1, hs1, c, hnm, rfl, rfl⟩ := hA2
        clear hA
        have q0 := hd0 w2 hE02 (t + 1) hl1
        have q1 := hd1 w2 hE02 (t + 1) hl1
        refine zTH rfl ((by rw[c126]; rfl)) ?_
        refine zFH rfl ((by rw[hs1]; rfl)) ?_
        refine zc call259 (oF (nth ts (t + 1)).2.1 w2) ?_
        rintro v w3 ⟨rfl, hE3⟩
        rw[show eN namesL (nth ts (t + 1)).2.1 = ((c:Nat):Int)from by unfold lZ at hnm; unfold eN; rw[hnm]]
        have hX3:M0 (fun _ => False) O2 w2 O2 w3 := ae (fun h => h) O2 hE3
        have hx3 := hx2.upd hX3 (by omega) (fun h => h)
        have ho3 := ho2.upd hX3 (by omega) (fun h => h)
        have hR3 := hR2.upd hX3
        have hUt3 := hUt2.trans (hX3.mono (fun _ h => h.elim) hzz)
        refine zh ?_
        refine zFH rfl ((decide_eq_false (by omega))) ?_
        refine zvH (aF GE (MB _) rfl (by first | rfl | (simp only[L9, M7]; rfl)) rfl rfl) ?_
        refine bT (us := #[.int .i64 (((2, (c:Nat), .slice none 0 0):N3)).1, .int .i64 (((2, (c:Nat), .slice none 0 0):N3)).2.1, (((2, (c:Nat), .slice none 0 0):N3)).2.2]) 0 (cL ((2, (c:Nat), .slice none 0 0):N3) (t + 1)).toArray ho3 rfl (Mr rfl) (LZ _) (bX rfl) rfl rfl rfl ?_
        have hoN:Mc O2 (LX w3 ob (cL ((2, (c:Nat), .slice none 0 0):N3) (t + 1)).toArray) (T + 1) ob (cL ((2, (c:Nat), .slice none 0 0):N3) (t + 1)).toArray 237 := Mk ho3
        have hUN:M0 (fun q => q = T + 1) O2 w3 O2 (LX w3 ob (cL ((2, (c:Nat), .slice none 0 0):N3) (t + 1)).toArray) := L0 (by omega) (N6 ho3) rfl
        have hxN := L2 hx3 hUN (by omega) (by omega)
        have hUtN := Mf hUt3 (hUN.mono (fun _ h => by rw[h]; omega) hzz)
        have hRN := N0 hR3 hUN
        generalize LX w3 ob (cL ((2, (c:Nat), .slice none 0 0):N3) (t + 1)).toArray = w4 at *
        refine zh ?_
        refine ak (j := 3) hoN rfl (MX _) rfl rfl rfl rfl ?_
        have hoP:Mc O2 (w4.setCell ⟨ob, 3, none⟩ (.int .i64 ((t:Nat) + 2:Int))) (T + 1) ob (cL ((2, (c:Nat), .slice none 0 0):N3) (t + 2)).toArray 237 := hoN.set 3 (.int .i64 ((t:Nat) + 2:Int))
        have hUP:M0 (fun q => q = T + 1) O2 w4 O2 (w4.setCell ⟨ob, 3, none⟩ (.int .i64 ((t:Nat) + 2:Int))) := M1 (by omega) hoN.tag rfl
        refine zh ?_
        exact dq (hN ((_, ((2, (c:Nat), .slice none 0 0):N3))) (⟨hxN.upd hUP (by omega) (by omega), hoP, Pg _ _ _ _, hUtN.trans (hUP.mono (fun _ h => by rw[h]; omega) hzz), hRN.upd hUP⟩)) ⟨rfl, rfl, rfl, trivial⟩ rfl
      · rw[if_neg c126]at hA
        refine zFH rfl ((eJ _ 126 (by decide) c126)) ?_
        by_cases c94:(nth ts t).1 = 94
        · rw[if_pos c94]at hA
          cases hA
          refine zTH rfl ((by rw[c94]; rfl)) ?_
          refine zvH (aF GE (MB _) rfl (by first | rfl | (simp only[L9, M7]; rfl)) rfl rfl) ?_
          refine bT (us := #[.int .i64 (((3, 0, .slice none 0 0):N3)).1, .int .i64 (((3, 0, .slice none 0 0):N3)).2.1, (((3, 0, .slice none 0 0):N3)).2.2]) 0 (cL ((3, 0, .slice none 0 0):N3) (t + 1)).toArray ho2 rfl (Mr rfl) (LZ _) (bX rfl) rfl rfl rfl ?_
          have hoN:Mc O2 (LX w2 ob (cL ((3, 0, .slice none 0 0):N3) (t + 1)).toArray) (T + 1) ob (cL ((3, 0, .slice none 0 0):N3) (t + 1)).toArray 237 := Mk ho2
          have hUN:M0 (fun q => q = T + 1) O2 w2 O2 (LX w2 ob (cL ((3, 0, .slice none 0 0):N3) (t + 1)).toArray) := L0 (by omega) (N6 ho2) rfl
          have hxN := L2 hx2 hUN (by omega) (by omega)
          have hUtN := Mf hUt2 (hUN.mono (fun _ h => by rw[h]; omega) hzz)
          have hRN := N0 hR2 hUN
          refine zh ?_
          exact dq (hN ((_, ((3, 0, .slice none 0 0):N3))) (⟨hxN, hoN, Pg _ _ _ _, hUtN, hRN⟩)) ⟨rfl, rfl, rfl, trivial⟩ rfl
        · rw[if_neg c94]at hA
          refine zFH rfl ((eJ _ 94 (by decide) c94)) ?_
          by_cases c40:(nth ts t).1 = 40
          · rw[if_pos c40]at hA
            have hA2:∃f u0, al = some f ∧ f ts (t + 1) = some (nd, u0) ∧ u0 < ts.length ∧ (nth ts u0).1 = 41 ∧ u = u0 + 1 := by
              cases al with
              |none => cases hA
              |some f =>
                dsimp only at hA
                cases hff:f ts (t + 1)with
                |none => rw[hff]at hA; cases hA
                |some p =>
                  obtain⟨x, u0⟩ := p
                  rw[hff]at hA
                  dsimp only at hA
                  split at hA
                  · rename_i h; cases hA; exact⟨f, u0, rfl, hff, h.1, h.2, rfl⟩
                  · cases hA
            obtain⟨f, u0, rfl, hff, hu0, hs0, rfl⟩ := hA2
            obtain⟨ha1, ha2, ha3⟩ := ha
            refine zTH rfl ((by rw[c40]; rfl)) ?_
            refine zFH rfl ((by simp; omega)) ?_
            refine zc call144 (ha3 B O2 w2 ts lv kv (t + 1) u0 nd hR2 hs2 hf2 ⟨ms, hk2⟩ hl hlt hff) ?_
            rintro v w3 ⟨hE3, hu1, x, rfl, hnt3⟩
            have hX3:M0 (fun _ => False) O2 w2 O2 w3 := ae (fun h => h) O2 hE3
            have hx3 := hx2.upd hX3 (by omega) (fun h => h)
            have ho3 := ho2.upd hX3 (by omega) (fun h => h)
            have hR3 := hR2.upd hX3
            have hUt3 := hUt2.trans (hX3.mono (fun _ h => h.elim) hzz)
            have hxo := hnt3.one
            refine zsb (us := (cL x u0).toArray) ho3 (Mb _) (gM hxo u0) ?_
            have ho4:Mc O2 (w3.setRow ob (cL x u0).toArray) (T + 1) ob (cL x u0).toArray 237 := ho3.setRow
            have hU4:M0 (fun q => q = T + 1) O2 w3 O2 (w3.setRow ob (cL x u0).toArray) := L0 (by omega) ho3.tag rfl
            have hx4 := hx3.upd hU4 (by omega) (by omega)
            have hR4 := hR3.upd hU4
            have hUt4 := hUt3.trans (hU4.mono (fun _ h => by rw[h]; omega) hzz)
            have hnt4 := hnt3.upd hU4
            generalize w3.setRow ob (cL x u0).toArray = w4 at *
            have r3:w4.cell? ⟨ob, 3, none⟩ = some (.int .i64 (u0:Nat)) := ho4.cell 3 rfl
            have r5:w4.cell? ⟨ob, 5, none⟩ = some (.int .i64 0) := ho4.cell 5 rfl
            have q0 := hd0 w4 (az hUt4 hTT) u0 hu0
            refine Nj ?_
            refine ah ?_
            refine Nl ?_
            refine Nl ?_
            refine MY ?_
            refine zv (RV.fa rfl) ?_
            refine zv (RV.ld (by first | exact r3 | exact r5 | exact q0) rfl) ?_
            refine zv (Px rfl rfl) ?_
            refine Nj ?_
            refine ah ?_
            refine aI rfl rfl ?_
            refine NL ?_
            refine ah ?_
            refine Nl ?_
            refine Nl ?_
            refine MY ?_
            refine zv (M6 rfl) ?_
            refine zv (RV.fa rfl) ?_
            refine zv (RV.ld (by first | exact r3 | exact r5 | exact q0) rfl) ?_
            refine zv (M4 (by first | exact hs.ext (az hUt4 hTT)) Ms (MJ _) rfl rfl _ rfl (by omega)) ?_
            refine zv (RV.fa rfl) ?_
            refine zv (RV.ld (by first | exact r3 | exact r5 | exact q0) rfl) ?_
            refine zv (Px rfl rfl) ?_
            refine Nj ?_
            refine ah ?_
            refine aI rfl ((by rw[hs0]; rfl)) ?_
            refine NL ?_
            refine ah ?_
            refine MY ?_
            refine zv (RV.fa rfl) ?_
            refine zv (RV.ld (by first | exact r3 | exact r5 | exact q0) rfl) ?_
            refine zv (N1 rfl rfl (MN (by omega))) ?_
            refine zv (RV.fa rfl) ?_
            refine ak (j := 3) ho4 rfl (MX _) rfl rfl rfl rfl ?_
            have hoP:Mc O2 (w4.setCell ⟨ob, 3, none⟩ (.int .i64 ((u0:Nat) + 1:Int))) (T + 1) ob (cL x (u0 + 1)).toArray 237 := ho4.set 3 (.int .i64 ((u0:Nat) + 1:Int))
            have hUP:M0 (fun q => q = T + 1) O2 w4 O2 (w4.setCell ⟨ob, 3, none⟩ (.int .i64 ((u0:Nat) + 1:Int))) := M1 (by omega) ho4.tag rfl
            refine zh ?_
            exact dq (hN ((_, x)) (⟨hx4.upd hUP (by omega) (by omega), hoP, hnt4.upd hUP, hUt4.trans (hUP.mono (fun _ h => by rw[h]; omega) hzz), hR4.upd hUP⟩)) ⟨rfl, rfl, rfl, trivial⟩ rfl
          · rw[if_neg c40]at hA
            cases hA
  · rintro⟨w3, x⟩ ⟨hx3, ho3, hnt3, hUt3, hR3⟩
    dsimp only at hx3 ho3 hnt3 hUt3 hR3 ⊢
    clear hA
    refine zh ?_
    refine zlp (fun y:Nat×ln => [(0, lv), (8, .pointer (some ⟨xb, 0, none⟩)), (9, .pointer (some ⟨ob, 0, none⟩)), (14, .int .i64 (y.1:Nat))]) (fun y => y.2) (fun y => y.1 ≤ 3 ∧ Mc O2 y.2 T xb #[.int .i64 0, .int .i64 0, .slice none 0 0, .int .i64 0, .int .i64 0, .int .i64 0] 237 ∧ Mc O2 y.2 (T + 1) ob (cL x u).toArray 237 ∧ Nt O2 y.2 nd x ∧ M0 (fun q => T ≤ q) O w O2 y.2 ∧ N8 B O2 y.2 ∧ ∀j, j < y.1 → nth [42, 43, 63] j ≠ (nth ts u).1) (fun y => 3 - y.1) (0, w3) (⟨LP _, hx3, ho3, hnt3, hUt3, hR3, fun j hj => absurd hj (LQ j)⟩) ?_
    rintro⟨i, w4⟩ ⟨hi, hx4, ho4, hnt4, hUt4, hR4, hno⟩
    dsimp only at hi hx4 ho4 hnt4 hUt4 hR4 hno ⊢
    have hxo := hnt4.one
    refine zh ?_
    refine zC ?_ ?_
    · intro hi3
      replace hi3:i < 3 := by have := of_decide_eq_true hi3; omega
      have hXD:M0 (fun _ => False) O2 w4 O2 w4.drew := ae (fun h => h) O2 (LY w4).drew
      have hxD := hx4.drew
      have hoD := ho4.drew
      have hntD := hnt4.upd hXD
      have hRD := hR4.upd hXD
      have hUtD := hUt4.drew
      have hs4 := hs.ext (az hUt4 hTT)
      have r3:w4.drew.cell? ⟨ob, 3, none⟩ = some (.int .i64 (u:Nat)) := hoD.cell 3 rfl
      have q0 := hd0 w4.drew (az hUtD hTT) u hu
      refine zh ?_
      refine WC.still (by kernel_rfl) (by kernel_rfl) ?_
      refine zw (M6 rfl) ?_
      refine zw (RV.fa rfl) ?_
      refine zw (RV.ld (by first | exact r3 | exact q0) rfl) ?_
      refine zw (M4 (by first | exact(hs4).drew) Ms (MJ _) rfl rfl _ rfl (by omega)) ?_
      refine zw (RV.fa rfl) ?_
      refine zw (RV.ld (by first | exact r3 | exact q0) rfl) ?_
      refine zw (M6 rfl) ?_
      refine zwH (bW L8 rfl rfl _ rfl (by omega)) ?_
      refine WS.nil ?_
      refine zh ?_
      by_cases he:(nth ts u).1 = nth [42, 43, 63] i
      · have hop:opM (nth ts u).1 = some i := by
          rw[he]
          obtain rfl | rfl | rfl:i = 0 ∨ i = 1 ∨ i = 2 := by omega
          · decide +kernel
          · decide +kernel
          · decide +kernel
        obtain⟨rfl, rfl⟩:nd' = .mk (6 + (i:Nat)) 0 [nd] ∧ u' = u + 1 := by
          rcases hE with⟨k, h1, h2, h3⟩ | ⟨h1, _⟩
          · rw[hop]at h1; cases h1; exact⟨h2, h3⟩
          · rw[hop]at h1; cases h1
        refine aP rfl ((by rw[he]; simp)) ?_
        generalize w4.drew = wD at *
        refine zh ?_
        refine zv (ai (us := aX x) (fun k u' hu' => hoD.cellsAdd k u' (lu hu')) (Mj _) (LZ _) rfl) ?_
        refine aU K7 (enc := aX) x rfl rfl rfl (by decide) rfl ?_
        intro w5 h5 hE5
        have hX5:M0 (fun _ => False) O2 wD O2 w5 := ae (fun h => h) O2 hE5
        have hx5 := hxD.upd hX5 (by omega) (fun h => h)
        have ho5 := hoD.upd hX5 (by omega) (fun h => h)
        have hR5 := hRD.upd hX5
        have hUt5 := hUtD.trans (hX5.mono (fun _ h => h.elim) hzz)
        have hnt5 := hntD.upd hX5
        have hfr:Po O2 w5 (.slice (some ⟨wD.heap.size, 0, none⟩) 1 1) := fun a n c e _ => by
          cases e
          refine⟨PX fun hne => by have := (hRD.rng _ hne).2; simp at this, ?_⟩
          have hc := World.block_lt_of_cell? _ _ (h5.cells 0 (by simp) 0 _ rfl)
          simpa[adr, Nx]using hc
        have hN:Nt O2 w5 (.mk (6 + (i:Nat)) 0 [nd]) (6 + (i:Nat), 0, .slice (some ⟨wD.heap.size, 0, none⟩) 1 1) :=
          .mk (xs := [x]) h5 hfr rfl (fun k hk => by obtain rfl : k = 0 := by simpa using hk
                                                     rw[ao, ao]; exact hnt5)
        have r5:w5.cell? ⟨ob, 3, none⟩ = some (.int .i64 (u:Nat)) := ho5.cell 3 rfl
        refine zv (aF GE (MB _) rfl (by first | rfl | (simp only[L9, M7]; rfl)) rfl rfl) ?_
        refine zv (RV.fa rfl) ?_
        refine zv (RV.ld r5 rfl) ?_
        refine zv (N1 rfl rfl (MN (by omega))) ?_
        refine zv (Mw Fy (Mi _) rfl rfl) ?_
        refine zsa (us := (cL ((6 + (i:Nat), 0, .slice (some ⟨wD.heap.size, 0, none⟩) 1 1):N3) (u + 1)).toArray) hx5 (Mb _) ?_
        have hx6 := hx5.setRow (us := (cL ((6 + (i:Nat), 0, .slice (some ⟨wD.heap.size, 0, none⟩) 1 1):N3) (u + 1)).toArray)
        have hU6:M0 (fun q => q = T) O2 w5 O2 (w5.setRow xb (cL ((6 + (i:Nat), 0, .slice (some ⟨wD.heap.size, 0, none⟩) 1 1):N3) (u + 1)).toArray) := L0 (by omega) hx5.tag rfl
        have hUt6 := hUt5.trans (hU6.mono (fun _ h => by rw[h]; omega) hzz)
        refine zh ?_
        refine aL rfl rfl (hx6.cellsAdd) (MU _) (Mb _) (⟨az hUt6 hTT, hu, _, rfl, (hN.upd hU6).low hUt6⟩)
      · skip
        refine zFH rfl ((Ds he)) ?_
        refine zxd (i + 1, w4.drew) (⟨hi3, hxD, hoD, hntD, hUtD, hRD, fun j hj => (L1.1 hj).elim (hno j) (fun e => by rw[e]; exact fun h => he h.symm)⟩)
    · intro hi3
      obtain rfl:i = 3 := by have := of_decide_eq_false hi3; omega
      have hop:opM (nth ts u).1 = none := by
        have h0 := hno 0 (by omega)
        have h1 := hno (0 + 1) (by omega)
        have h2 := hno (0 + 1 + 1) (by omega)
        rw[ao]at h0
        rw[aS, ao]at h1
        rw[aS, aS, ao]at h2
        unfold opM
        rw[if_neg (fun e => h0 e.symm), if_neg (fun e => h1 e.symm), if_neg (fun e => h2 e.symm)]
      obtain⟨rfl, rfl⟩:nd = nd' ∧ u = u' := by
        rcases hE with⟨k, h1, _⟩ | ⟨_, h2, h3⟩
        · rw[hop]at h1; cases h1
        · exact⟨h2.symm, h3.symm⟩
      refine zh ?_
      refine zv (ai (us := cL x u) ho4.cellsAdd (MU _) (Mb _) rfl) ?_
      refine zsb (us := (cL x u).toArray) hx4 (Mb _) (gM hxo u) ?_
      have hx6 := hx4.setRow (us := (cL x u).toArray)
      have hU6:M0 (fun q => q = T) O2 w4 O2 (w4.setRow xb (cL x u).toArray) := L0 (by omega) hx4.tag rfl
      have hUt6 := hUt4.trans (hU6.mono (fun _ h => by rw[h]; omega) hzz)
      refine zh ?_
      refine aL rfl rfl (hx6.cellsAdd) (MU _) (Mb _) (⟨az hUt6 hTT, MM hu, x, rfl, (hnt4.upd hU6).low hUt6⟩)
theorem B2{al:Option PG}{kn:Kn}{ts:List T3}{a1:List Nd}{a0:Nd}(h:Fo al kn ts (n+1) a1 t=some (a0,u')):
  ∃x u,AD al kn ts t=some (x,u)/\u<ts.length/\((Jh (nth ts u).1=true/\Fo al kn ts n (a1++[x]) u=some (a0,u'))\/(Jh (nth ts u).1=false/\a0=oneM 4 (a1++[x])/\u=u')):=by
 unfold Fo at h
 cases hp:AD al kn ts t with
 |none=>rw[hp]at h;cases h
 |some p=>
  obtain⟨x,u⟩:=p;rw[hp]at h;dsimp only at h
  split at h
  ·rename_i hu;refine⟨x,u,rfl,hu,?_⟩
   cases hb:Jh (nth ts u).1 with
   |true=>rw[hb,if_pos rfl]at h;exact .inl ⟨rfl,h⟩
   |false=>rw[hb,if_neg zd]at h;cases h;exact .inr ⟨rfl,rfl,rfl⟩
  cases h
theorem DA{al:Option PG}{kn:Kn}{ts:List T3}{a1:List Nd}{a0:Nd}(h:GQ al kn ts (n+1) a1 t=some (a0,u')):
  ∃x u,Fo al kn ts (ts.length+1) [] t=some (x,u)/\u<ts.length/\(((nth ts u).1=124/\GQ al kn ts n (a1++[x]) (u+1)=some (a0,u'))\/((nth ts u).1≠124/\a0=oneM 5 (a1++[x])/\u=u')):=by
 unfold GQ at h
 cases hp:Fo al kn ts (ts.length+1) [] t with
 |none=>rw[hp]at h;cases h
 |some p=>
  obtain⟨x,u⟩:=p;rw[hp]at h;dsimp only at h
  split at h
  ·rename_i hu;refine⟨x,u,rfl,hu,?_⟩
   by_cases hb:(nth ts u).1=124
   ·rw[if_pos hb]at h;exact .inl ⟨hb,h⟩
   rw[if_neg hb]at h;cases h;exact .inr ⟨hb,rfl,rfl⟩
  cases h
abbrev LC:Array L4:=#[nI 0,nI 0,nS,nI 0,nI 0,nI 0]
structure LoopG(B:Nat)(O0:Nat->Nat)(w0:ln)(T:Nat)(xb:Nat)(ts:List T3)(n t:Nat)(acc:List Nd)(xs:List N3)(kl:L4)(O:Nat->Nat)(w:ln):Prop where
 xbk:Mc O w T xb LC 237
 row:NI aX 96 3 O w (T+1) kl xs
 len:acc.length=xs.length
 nts:∀i,i<xs.length->Nt O w (nth acc i) (nth xs i)
 upd:M0 (λq=>T<=q) O0 w0 O w
 rng:N8 B O w
 le:t<=ts.length
 few:xs.length+n<=ts.length+1
theorem Fp(al:Option PG)(kn:Kn)(op:Int)(e6:0<=op/\op<=20)(e5:∀j,j<kn.length->nsz (nth kn j).2<=2000)(ha:Ja al kn op):vO 195 kn op (λts t=>Fo al kn ts (ts.length+1) [] t):=by
 intro B O w ts lv kv t u' e2 hR hs hf e7 hl ht hM;obtain⟨T,f9,hT⟩:=hR.bound;have c6:∀b,¬T<=O b:=λb=>by have:=hT b;omega
 have b1:¬(λq:Nat=>T<=q) 0:=λe=>by omega
 apply ix func195 ntmps195 rfl rfl;refine zg ?_
 apply ar hR T zo (Mi _) rfl;intro xb w1 O1 d3 d9 e0 d2;have b7:M0 (λq=>T<=q) O w O1 w1:=d9.mono (λ_ h=>by rw[h];omega) b1;dsimp only at hM;refine zg ?_
 apply zlp (λy:Nat×Nat×List Nd×List N3×L4×(Nat->Nat)×World=>[(0,lv),(1,nI (y.2.1:Nat)),(2,nI op),(3,kv),(8,nP xb),(9,y.2.2.2.2.1)]) (λy=>y.2.2.2.2.2.2) (λy=>LoopG B O w T xb ts y.1 y.2.1 y.2.2.1 y.2.2.2.1 y.2.2.2.2.1 y.2.2.2.2.2.1 y.2.2.2.2.2.2/\Fo al kn ts y.1 y.2.2.1 y.2.1=some (e2,u')) (λy=>y.1) (ts.length+1,t,[],[],nS,O1,w1) ⟨⟨d3,MG _ _ _ _ _ _,rfl,λi hi=>absurd hi (LQ i),b7,e0,ht,by dsimp only;simp⟩,hM⟩;clear d3 d9 e0 d2 b7 hM O1 w1;rintro⟨n,t1,b9,xs,kl,O1,w1⟩ ⟨hL,hM⟩;dsimp only at hL hM ⊢
 obtain⟨n,rfl⟩:∃m,n=m+1:=⟨n-1,by
  cases n with
  |zero=>cases hM
  |succ n=>rfl⟩
 obtain⟨x0,u,hp,hu,b6⟩:=B2 hM;have f':=hL.le;refine zg ?_;have d2:=az hL.upd c6;apply zc call243 (Co al kn op e6 e5 ha B O1 w1 ts lv kv t1 u x0 hL.rng (hs.ext d2) (hf.upd hL.upd) (e7.upd hL.upd) hl hL.le hp);rintro v w2 ⟨f5,f6,x,rfl,b4⟩;have c7:=b4.one;have f8:=hL.few;have d7:M0 (λ_=>False) O1 w1 O1 w2:=ae (λh=>h) O1 f5;have f3:=hL.rng.upd d7;apply ar f3 (T+2) zo (Mi _) rfl;intro ob w3 O3 c9 d8 e' g0;apply zsb (us:=(cL x u).toArray) c9 (Mb _) (gM c7 u);have b':Mc O3 (w3.setRow ob (cL x u).toArray) (T+2) ob (cL x u).toArray 237:=c9.setRow;have d1:M0 (λq=>q=T+2) O3 w3 O3 (w3.setRow ob (cL x u).toArray):=L0 zo c9.tag rfl;have c5:M0 (λq=>q=T+2) O1 w1 O3 (w3.setRow ob (cL x u).toArray):=(d7.mono (λ_ h=>h.elim) zo).trans (d8.trans d1);have e9:=e'.upd d1;have c':=(b4.upd d8).upd d1;generalize w3.setRow ob (cL x u).toArray=w4 at *;have e3:=hL.xbk.upd c5 zo zo;have b2:=hL.row.upd c5 zo zo;have b3:∀i,i<xs.length->Nt O3 w4 (nth b9 i) (nth xs i):=λi hi=>(hL.nts i hi).upd c5
 have d0:=hL.upd.trans (c5.mono (λ_ h=>by rw[h];omega) b1);have r3:w4.cell? ⟨ob,3,none⟩=some (nI (u:Nat)):=b'.cell 3 rfl;have r5:w4.cell? ⟨ob,5,none⟩=some (nI 0):=b'.cell 5 rfl;refine zg ?_;refine zvG (RV.ld (by first|exact r3|exact r5) rfl) ?_;apply zFG rfl rfl;apply zv (ai (us:=aX x) (λk u' e4=>b'.cellsAdd k u' (lu e4)) (Mj _) (LZ _) rfl);apply Ng K7 b2 e9 ((x:N3)) (λ_=>rfl) rfl rfl rfl (eI c7) zo zo zo zd rfl rfl;intro a9 w5 O5 a0 b8 d';have a':=e3.upd b8 zo zo;have d5:=b'.upd b8 zo zo;have a7:=d0.trans (b8.mono (λ_ h=>by rw[h];omega) b1);have a5:∀i,i<(xs++[x]).length->Nt O5 w5 (nth (b9++[x0]) i) (nth (xs++[x]) i):=λi hi=>by
  rw[ay,ay,hL.len]
  by_cases e:i<xs.length
  ·rw[if_pos e,if_pos e];exact(b3 i e).upd b8
  rw[if_neg e,if_neg e];obtain rfl:i=xs.length:=by simp at hi;omega
  rw[Mo,ao,ao];exact c'.upd b8
 have a6:(b9++[x0]).length=(xs++[x]).length:=by simp[hL.len]
 have b5:(xs++[x]).length+n<=ts.length+1:=by have:=hL.few;simp;omega
 clear r3 r5;have r3:w5.cell? ⟨ob,3,none⟩=some (nI (u:Nat)):=d5.cell 3 rfl;have d4:=hs.ext (az a7 c6);have q0:w5.cell? ((adr lv 3 u).add 0)=some (.int .u8 ((nth ts u).1.toNat:Int)):=d4.cell hu rfl;refine zg ?_;refine zvG (RV.ld (by first|exact r3|exact q0) rfl) ?_;refine zvG (M4 (by first|exact d4) Ms (MJ _) rfl rfl _ rfl zo) ?_;refine zvG (RV.ld (by first|exact r3|exact q0) rfl) ?_;refine aT (λw1=>_=w1) (((nth ts u).1.toNat:Int) != 126) 2 rfl rfl rfl rfl rfl rfl ?_ ?_
 ·intro a1;refine zg ?_;refine cg (tA:=35) 3 rfl rfl rfl rfl (λv hv=>(Mg hv).symm.trans (congrArg MW a1)) rfl
 rintro _ rfl;refine zg ?_;refine aT (λw1=>_=w1) (((nth ts u).1.toNat:Int) != 94) 2 rfl rfl rfl rfl rfl rfl ?_ ?_
 ·intro a2;refine zg ?_;refine cg (tA:=39) 3 rfl rfl rfl rfl (λv hv=>(Mg hv).symm.trans (congrArg MW a2)) rfl
 rintro _ rfl;refine zg ?_;refine aT (λw1=>_=w1) (((nth ts u).1.toNat:Int) != 40) 2 rfl rfl rfl rfl rfl rfl ?_ ?_
 ·intro a3;refine zg ?_;refine cg (tA:=43) 3 rfl rfl rfl rfl (λv hv=>(Mg hv).symm.trans (congrArg MW a3)) rfl
 rintro _ rfl;have e8:((((((nth ts u).1.toNat:Int) != 97)&&(((nth ts u).1.toNat:Int) != 126))&&(((nth ts u).1.toNat:Int) != 94))&&(((nth ts u).1.toNat:Int) != 40)) = !(Jh (nth ts u).1):=by
  have h:∀k:Nat,k<256->(((nth ts u).1.toNat:Int)==(k:Int))=((nth ts u).1==UInt8.ofNat k):=λk hk=>fE _ k hk
  have h1:(((nth ts u).1.toNat:Int)==97)=((nth ts u).1==97):=h 97 zd;have h2:(((nth ts u).1.toNat:Int)==126)=((nth ts u).1==126):=h 126 zd;have h3:(((nth ts u).1.toNat:Int)==94)=((nth ts u).1==94):=h 94 zd;have h4:(((nth ts u).1.toNat:Int)==40)=((nth ts u).1==40):=h 40 zd;unfold Jh bne;rw[h1,h2,h3,h4,NS,NS,NS]
 rw[e8];refine zg ?_
 rcases b6 with⟨hb,f4⟩|⟨hb,rfl,rfl⟩
 ·rw[hb];apply zFG rfl rfl;refine zxd (n,u,b9++[x0],xs++[x],a9,O5,w5) ⟨⟨a',a0,a6,a5,a7,d',MM hu,b5⟩,f4⟩
 rw[hb];apply aP rfl rfl;have f7:=a0.sl.len_le;refine zg ?_;refine zvG (NO (by first|exact a0.sl) Np rfl) ?_
 by_cases h1:(xs++[x]).length=1
 ·obtain rfl:xs=[]:=M8 (by simpa using h1);obtain rfl:b9=[]:=M8 (by have:=hL.len;simpa using this);apply zTG rfl rfl;apply zv (ai (us:=cL x u) d5.cellsAdd (MU _) (Mb _) rfl);apply zsb (us:=(cL x u).toArray) a' (Mb _) (gM c7 u);have c8:=a'.setRow (us:=(cL x u).toArray);have b0:M0 (λq=>q=T) O5 w5 O5 (w5.setRow xb (cL x u).toArray):=L0 zo a'.tag rfl;have a4:=a7.trans (b0.mono (λ_ h=>by rw[h];omega) b1);refine zg ?_;refine aL rfl rfl c8.cellsAdd (MU _) (Mb _) ⟨az a4 c6,MM hu,x,rfl,?_⟩;have e1:=a5 0 (by simp);rw[Mv,Mv,ao,ao]at e1;rw[show oneM 4 ([]++[x0])=x0 from by simp[oneM,ao]];exact(e1.upd b0).low a4
 apply aI rfl ((by rw[beq_eq_false_iff_ne];omega));have d6:=a0.one;refine zg ?_
 refine zvG (aF GE (MB _) rfl (by first|rfl|(simp only[L9,d6,M7];rfl)) rfl rfl) ?_;apply zv (Mw (cells:=(cL ((4,0,a9):N3) u).toArray) Fy (Mi _) rfl rfl)
 apply zsb (us:=(cL ((4,0,a9):N3) u).toArray) a' (Mb _) (gM (x:=(4,0,a9)) d6 u);have c8:=a'.setRow (us:=(cL ((4,0,a9):N3) u).toArray);have b0:M0 (λq=>q=T) O5 w5 O5 (w5.setRow xb (cL ((4,0,a9):N3) u).toArray):=L0 zo a'.tag rfl;have a4:=a7.trans (b0.mono (λ_ h=>by rw[h];omega) b1);have a8:=a0.upd b0 zo zo;refine zg ?_
 refine aL rfl rfl c8.cellsAdd (MU _) (Mb _) ⟨az a4 c6,MM hu,(4,0,a9),rfl,?_⟩;unfold oneM;rw[if_neg (by rw[a6];exact h1)];exact .mk a8.sl (a8.freeT zo (λb=>by have:=hT b;omega) (d'.upd b0) a4) a6 (λi hi=>((a5 i hi).upd b0).low a4)
theorem vI(al:Option PG)(kn:Kn)(op:Int)(e3:0<=op/\op<=20)(e2:∀j,j<kn.length->nsz (nth kn j).2<=2000)(ha:Ja al kn op):vO 144 kn op (λts t=>GQ al kn ts (ts.length+1) [] t):=by
 intro B O w ts lv kv t u' d' hR hs hf e4 hl ht hM;obtain⟨T,f5,hT⟩:=hR.bound;have b9:∀b,¬T<=O b:=λb=>by have:=hT b;omega
 have a9:¬(λq:Nat=>T<=q) 0:=λe=>by omega
 apply ix func144 ntmps144 rfl rfl;refine zg ?_
 apply ar hR T zo (Mi _) rfl;intro xb w1 O1 d0 d6 d8 c';have b4:M0 (λq=>T<=q) O w O1 w1:=d6.mono (λ_ h=>by rw[h];omega) a9;dsimp only at hM;refine zg ?_
 apply zlp (λy:Nat×Nat×List Nd×List N3×L4×(Nat->Nat)×World=>[(0,lv),(1,nI (y.2.1:Nat)),(2,nI op),(3,kv),(8,nP xb),(9,y.2.2.2.2.1)]) (λy=>y.2.2.2.2.2.2) (λy=>LoopG B O w T xb ts y.1 y.2.1 y.2.2.1 y.2.2.2.1 y.2.2.2.2.1 y.2.2.2.2.2.1 y.2.2.2.2.2.2/\GQ al kn ts y.1 y.2.2.1 y.2.1=some (d',u')) (λy=>y.1) (ts.length+1,t,[],[],nS,O1,w1) ⟨⟨d0,MG _ _ _ _ _ _,rfl,λi hi=>absurd hi (LQ i),b4,d8,ht,by dsimp only;simp⟩,hM⟩;clear d0 d6 d8 c' b4 hM O1 w1;rintro⟨n,t1,b6,xs,kl,O1,w1⟩ ⟨hL,hM⟩;dsimp only at hL hM ⊢
 obtain⟨n,rfl⟩:∃m,n=m+1:=⟨n-1,by
  cases n with
  |zero=>cases hM
  |succ n=>rfl⟩
 obtain⟨x0,u,hp,hu,b3⟩:=DA hM;have f6:=hL.le;refine zg ?_;have c':=az hL.upd b9;apply zc call195 (Fp al kn op e3 e2 ha B O1 w1 ts lv kv t1 u x0 hL.rng (hs.ext c') (hf.upd hL.upd) (e4.upd hL.upd) hl hL.le hp);rintro v w2 ⟨e9,e',x,rfl,b1⟩;have b':=b1.one;have f4:=hL.few;have d4:M0 (λ_=>False) O1 w1 O1 w2:=ae (λh=>h) O1 e9;have e7:=hL.rng.upd d4;apply ar e7 (T+2) zo (Mi _) rfl;intro ob w3 O3 c6 d5 e6 f7;apply zsb (us:=(cL x u).toArray) c6 (Mb _) (gM b' u);have b7:Mc O3 (w3.setRow ob (cL x u).toArray) (T+2) ob (cL x u).toArray 237:=c6.setRow;have c9:M0 (λq=>q=T+2) O3 w3 O3 (w3.setRow ob (cL x u).toArray):=L0 zo c6.tag rfl;have b8:M0 (λq=>q=T+2) O1 w1 O3 (w3.setRow ob (cL x u).toArray):=(d4.mono (λ_ h=>h.elim) zo).trans (d5.trans c9);have e5:=e6.upd c9;have c7:=(b1.upd d5).upd c9;generalize w3.setRow ob (cL x u).toArray=w4 at *;have e0:=hL.xbk.upd b8 zo zo;have a':=hL.row.upd b8 zo zo;have b0:∀i,i<xs.length->Nt O3 w4 (nth b6 i) (nth xs i):=λi hi=>(hL.nts i hi).upd b8
 have c8:=hL.upd.trans (b8.mono (λ_ h=>by rw[h];omega) a9);have r3:w4.cell? ⟨ob,3,none⟩=some (nI (u:Nat)):=b7.cell 3 rfl;have r5:w4.cell? ⟨ob,5,none⟩=some (nI 0):=b7.cell 5 rfl;refine zg ?_;refine zvG (RV.ld (by first|exact r3|exact r5) rfl) ?_;apply zFG rfl rfl;apply zv (ai (us:=aX x) (λk u' e1=>b7.cellsAdd k u' (lu e1)) (Mj _) (LZ _) rfl);apply Ng K7 a' e5 ((x:N3)) (λ_=>rfl) rfl rfl rfl (eI b') zo zo zo zd rfl rfl;intro a6 w5 O5 a0 b5 d7;have a7:=e0.upd b5 zo zo;have d2:=b7.upd b5 zo zo;have a4:=c8.trans (b5.mono (λ_ h=>by rw[h];omega) a9);have a2:∀i,i<(xs++[x]).length->Nt O5 w5 (nth (b6++[x0]) i) (nth (xs++[x]) i):=λi hi=>by
  rw[ay,ay,hL.len]
  by_cases e:i<xs.length
  ·rw[if_pos e,if_pos e];exact(b0 i e).upd b5
  rw[if_neg e,if_neg e];obtain rfl:i=xs.length:=by simp at hi;omega
  rw[Mo,ao,ao];exact c7.upd b5
 have a3:(b6++[x0]).length=(xs++[x]).length:=by simp[hL.len]
 have b2:(xs++[x]).length+n<=ts.length+1:=by have:=hL.few;simp;omega
 clear r3 r5;have r3:w5.cell? ⟨ob,3,none⟩=some (nI (u:Nat)):=d2.cell 3 rfl;have d1:=hs.ext (az a4 b9);have q0:w5.cell? ((adr lv 3 u).add 0)=some (.int .u8 ((nth ts u).1.toNat:Int)):=d1.cell hu rfl;refine zg ?_;refine zvG (RV.ld (by first|exact r3|exact q0) rfl) ?_;refine zvG (M4 (by first|exact d1) Ms (MJ _) rfl rfl _ rfl zo) ?_;refine zvG (RV.ld (by first|exact r3|exact q0) rfl) ?_
 rcases b3 with⟨hb,e8⟩|⟨hb,rfl,rfl⟩
 ·apply zFG rfl ((by rw[hb];rfl));refine zvG (N1 rfl rfl (MN zo)) ?_
  refine zxd (n,u+1,b6++[x0],xs++[x],a6,O5,w5) ⟨⟨a7,a0,a3,a2,a4,d7,hu,b2⟩,e8⟩
 apply aP rfl ((sZ _ 124 zd hb));have f3:=a0.sl.len_le;refine zg ?_
 refine zvG (NO (by first|exact a0.sl) Np rfl) ?_
 by_cases h1:(xs++[x]).length=1
 ·obtain rfl:xs=[]:=M8 (by simpa using h1);obtain rfl:b6=[]:=M8 (by have:=hL.len;simpa using this);apply zTG rfl rfl;apply zv (ai (us:=cL x u) d2.cellsAdd (MU _) (Mb _) rfl);apply zsb (us:=(cL x u).toArray) a7 (Mb _) (gM b' u);have c5:=a7.setRow (us:=(cL x u).toArray);have a8:M0 (λq=>q=T) O5 w5 O5 (w5.setRow xb (cL x u).toArray):=L0 zo a7.tag rfl;have a1:=a4.trans (a8.mono (λ_ h=>by rw[h];omega) a9);refine zg ?_;refine aL rfl rfl c5.cellsAdd (MU _) (Mb _) ⟨az a1 b9,MM hu,x,rfl,?_⟩;have d9:=a2 0 (by simp);rw[Mv,Mv,ao,ao]at d9;rw[show oneM 5 ([]++[x0])=x0 from by simp[oneM,ao]];exact(d9.upd a8).low a1
 apply aI rfl ((by rw[beq_eq_false_iff_ne];omega));have d3:=a0.one;refine zg ?_
 refine zvG (aF GE (MB _) rfl (by first|rfl|(simp only[L9,d3,M7];rfl)) rfl rfl) ?_;apply zv (Mw (cells:=(cL ((5,0,a6):N3) u).toArray) Fy (Mi _) rfl rfl)
 apply zsb (us:=(cL ((5,0,a6):N3) u).toArray) a7 (Mb _) (gM (x:=(5,0,a6)) d3 u);have c5:=a7.setRow (us:=(cL ((5,0,a6):N3) u).toArray);have a8:M0 (λq=>q=T) O5 w5 O5 (w5.setRow xb (cL ((5,0,a6):N3) u).toArray):=L0 zo a7.tag rfl;have a1:=a4.trans (a8.mono (λ_ h=>by rw[h];omega) a9);have a5:=a0.upd a8 zo zo;refine zg ?_
 refine aL rfl rfl c5.cellsAdd (MU _) (Mb _) ⟨az a1 b9,MM hu,(5,0,a6),rfl,?_⟩;unfold oneM;rw[if_neg (by rw[a3];exact h1)];exact .mk a5.sl (a5.freeT zo (λb=>by have:=hT b;omega) (d7.upd a8) a1) a3 (λi hi=>((a2 i hi).upd a8).low a1)
theorem pC(kn:Kn)(a0:∀j,j<kn.length->nsz (nth kn j).2<=2000):∀(d:Nat),d<=20->vO 144 kn (20-(d:Int)) (Bj kn d)
 |0,h=>vI none kn _ zo a0 (show(20:Int)-((0:Nat):Int)=20 by omega)
 |d+1,h=>by
  have ih:=pC kn a0 d zo;rw[show(20:Int)-(d:Int)=(20-((d+1:Nat):Int))+1 from by omega]at ih;exact vI (some (Bj kn d)) kn _ zo a0 ⟨zo,zo,ih⟩
theorem nF(l:List UInt8):∀(n a:Nat),(D8 l n a).length<=n
 |0,_=>L3 _
 |n+1,a=>by
  unfold D8
  split
  ·simp
  split
  ·have:=nF l n (a+1);omega
  split
  ·have:=nF l n (tw aj l a l.length);simp;omega
  have:=nF l n (a+1);simp;omega
theorem ja(kn:Kn)(d6:∀j,j<kn.length->nsz (nth kn j).2<=2000)(l:List UInt8)(kv:L4)(nd:Nd)(B:Nat)(O:Nat->Nat)(w:ln)(hR:N8 B O w)(d9:Known O w kv kn)(hM:Iy kn l=some nd):
  MK M9 104 [.string (bs l),kv] w λv w'=>ME w w'/\nsz nd<=2000/\∃x,v=.tuple #[nv x,nI 0,nI 0]/\Nt O w' nd x:=by
 have hl:¬4096<l.length:=λh=>by unfold Iy at hM;rw[if_pos h]at hM;cases hM
 have hp:∃u,Bj kn 20 (yO l) 0=some (nd,u)/\u<(yO l).length/\(nth (yO l) u).1=0/\nsz nd<=2000:=by
  unfold Iy at hM;rw[if_neg hl]at hM
  cases hq:Bj kn 20 (yO l) 0 with
  |none=>rw[hq]at hM;cases hM
  |some p=>
   obtain⟨t,u⟩:=p;rw[hq]at hM;dsimp only at hM
   split at hM
   ·rename_i h;cases hM;exact⟨u,rfl,h⟩
   cases hM
 obtain⟨u,ha,hu,h0,d5⟩:=hp;obtain⟨T,e8,hT⟩:=hR.bound;have e2:∀b,¬T<=O b:=λb=>by have:=hT b;omega
 have a0:¬(λq:Nat=>T<=q) 0:=λe=>by omega
 have d4:(yO l).length<=4097:=by have:=nF l (l.length+1) 0;unfold yO;omega
 have hA:=pC kn d6 20 (L3 _);rw[show(20:Int)-((20:Nat):Int)=0 from by omega]at hA;apply ix func104 ntmps104 rfl rfl;refine zg ?_;apply ar hR T zo (MB _) rfl;intro xb w1 O1 d3 e1 c8 f3;have b7:M0 (λq=>T<=q) O w O1 w1:=e1.mono (λ_ h=>by rw[h];omega) a0;refine zg ?_;refine zvG (bO L8 rfl) ?_;apply zFG rfl ((decide_eq_false zo));apply zc call143 (D9 l B O1 w1 c8 zo);rintro lv w2 ⟨e6,b',c5⟩;have b3:M0 (λ_=>False) O1 w1 O1 w2:=ae (λh=>h) O1 e6;have d2:=d3.upd b3 zo (λh=>h);have c7:=c8.upd b3;have a5:=b7.trans (b3.mono (λ_ h=>h.elim) a0);have d':=d9.upd a5;refine zg ?_;apply zc call144 (hA B O1 w2 (yO l) lv kv 0 u nd c7 b' c5 d' d4 (LP _) ha);rintro v w3 ⟨c9,e7,x,rfl,a3⟩;have b8:=a3.one;have a9:M0 (λ_=>False) O1 w2 O1 w3:=ae (λh=>h) O1 c9;have d1:=d2.upd a9 zo (λh=>h);have e4:=c7.upd a9;have b6:=a5.trans (a9.mono (λ_ h=>h.elim) a0);have d7:=b'.ext c9;apply ar e4 (T+1) zo (Mi _) rfl;intro ob w4 O4 a7 e0 e3 e';apply zsb (us:=(cL x u).toArray) a7 (Mb _) (gM b8 u);have a6:Mc O4 (w4.setRow ob (cL x u).toArray) (T+1) ob (cL x u).toArray 237:=a7.setRow;have a':M0 (λq=>q=T+1) O1 w3 O4 (w4.setRow ob (cL x u).toArray):=e0.trans (L0 zo a7.tag rfl);have e9:=e3.upd (L0 (S:=λq=>q=T+1) (us:=(cL x u).toArray) zo a7.tag rfl)
 have b9:=d7.upd (c5.upd a9) a';generalize w4.setRow ob (cL x u).toArray=w5 at *;have d0:=d1.upd a' zo zo;have b5:=b6.trans (a'.mono (λ_ h=>by rw[h];omega) a0);have a2:=a3.upd a';have r3:w5.cell? ⟨ob,3,none⟩=some (nI (u:Nat)):=a6.cell 3 rfl;have r5:w5.cell? ⟨ob,5,none⟩=some (nI 0):=a6.cell 5 rfl;have q0:w5.cell? ((adr lv 3 u).add 0)=some (.int .u8 ((nth (yO l) u).1.toNat:Int)):=b9.cell hu rfl;refine zg ?_;refine zvG (RV.ld (by first|exact r3|exact r5|exact q0) rfl) ?_;refine aT (λw1=>_=w1) (((nth (yO l) u).1.toNat:Int) != 0) 7 rfl rfl rfl rfl rfl rfl ?_ ?_
 ·intro a1;refine zg ?_;refine zvG (RV.ld (by first|exact r3|exact r5|exact q0) rfl) ?_;refine zvG (M4 (by first|exact b9) Ms (MJ _) rfl rfl _ rfl zo) ?_;refine zvG (RV.ld (by first|exact r3|exact r5|exact q0) rfl) ?_;refine cg (tA:=21) 8 rfl rfl rfl rfl (λv hv=>(Mg hv).symm.trans (congrArg MW a1)) rfl
 rintro _ rfl;refine zg ?_;apply zFG rfl ((by rw[h0];rfl));refine zvG (RV.ld (by first|exact r3|exact r5|exact q0) rfl) ?_;apply zFG rfl rfl;apply zv (ai (us:=aX x) (λk u' b1=>a6.cellsAdd k u' (lu b1)) (Mj _) (LZ _) rfl);apply zc call146 (ow (nsz nd) nd (L3 _) x w5 2000 a2.zero zo);rintro v w6 ⟨rfl,e5⟩;have a8:M0 (λ_=>False) O4 w5 O4 w6:=ae (λh=>h) O4 e5;have b0:=d0.upd a8 zo (λh=>h);have d8:=a6.upd a8 zo (λh=>h);have b4:=b5.trans (a8.mono (λ_ h=>h.elim) a0);have b2:=a2.upd a8;refine zg ?_;apply zFG rfl ((decide_eq_false zo));apply zv (ai (us:=aX x) (λk u' b1=>d8.cellsAdd k u' (lu b1)) (Mj _) (LZ _) rfl);apply zsb (us:=#[nI x.1,nI x.2.1,x.2.2]) b0 (LZ _) (bX b8);have c':=b0.setRow (us:=#[nI x.1,nI x.2.1,x.2.2]);have c6:M0 (λq=>q=T) O4 w6 O4 (w6.setRow xb #[nI x.1,nI x.2.1,x.2.2]):=L0 zo b0.tag rfl;have a4:=b4.trans (c6.mono (λ_ h=>by rw[h];omega) a0);refine zg ?_;refine cD rfl rfl rfl rfl c'.cellsAdd (Mj _) (LZ _) ⟨az a4 e2,d5,x,rfl,(b2.upd c6).low a4⟩
theorem xS(c:UInt8)(w:ln):MK M9 102 [.int .u8 (c.toNat:Int)] w λv w'=>v=.bool (aj c)/\w'=w:=by
 apply ix func102 ntmps102 rfl rfl;refine zh ?_
 by_cases h1:65<=c.toNat
 ·apply au (d:=5) rfl (b':=true) (decide_eq_true zo);refine zh ?_
  by_cases h2:c.toNat<=90
  ·apply au (d:=9) rfl (b':=true) (decide_eq_true zo);refine zh ?_
   refine af rfl rfl ⟨by simp[aj,h1,h2],rfl⟩
  apply au (d:=9) rfl (b':=false) (decide_eq_false zo);refine zh ?_
  by_cases h3:97<=c.toNat
  ·apply au (d:=12) rfl (b':=true) (decide_eq_true zo);refine zh ?_
   have e:decide ((c.toNat:Int)<=122)=decide (c.toNat<=122):=decide_eq_decide.2 zo;refine af rfl rfl ⟨by rw[e];simp[aj,h1,h2,h3],rfl⟩
  apply au (d:=12) rfl (b':=false) (decide_eq_false zo);refine zh ?_
  refine af rfl rfl ⟨by simp[aj,h1,h2,h3],rfl⟩
 apply au (d:=5) rfl (b':=false) (decide_eq_false zo);refine zh ?_
 by_cases h3:97<=c.toNat
 ·apply au (d:=12) rfl (b':=true) (decide_eq_true zo);refine zh ?_
  have e:decide ((c.toNat:Int)<=122)=decide (c.toNat<=122):=decide_eq_decide.2 zo;refine af rfl rfl ⟨by rw[e];simp[aj,h1,h3],rfl⟩
 apply au (d:=12) rfl (b':=false) (decide_eq_false zo);refine zh ?_
 refine af rfl rfl ⟨by simp[aj,h1,h3],rfl⟩
theorem iW(l:List UInt8)(a b:Nat)(a6:a<=b)(hb:b<=l.length)(w:ln)(hl:l.length<=4096):MK M9 68 [.string (bs l),nI (a:Nat),nI (b:Nat)] w λv w'=>v=nI ((tw bq l a b:Nat):Int)/\w'=w:=by
 apply ix func68 ntmps68 rfl rfl;refine zh ?_
 apply zlp (λk:Nat=>[(0,.string (bs l)),(1,nI (k:Nat)),(2,nI (b:Nat))]) (λk=>w) (λk=>a<=k/\k<=b/\∀i,a<=i->i<k->bq (nth l i)=true) (λk=>b-k) a ⟨L3 _,a6,λi h1 h2=>zo⟩;rintro k ⟨a5,a4,a0⟩;refine zh ?_
 refine aT (λw1=>_=w1) ((((nth l k).toNat:Int)==32)) 4 rfl rfl rfl rfl rfl rfl ?_ ?_
 ·intro a1;have a7:k<b:=dT a1;refine zh ?_;refine zvH (bW L8 rfl rfl _ rfl zo) ?_;refine nE 10 5 rfl a1
 rintro _ rfl;rw[show(((nth l k).toNat:Int)==32)=bq (nth l k)from fE _ 32 zd];refine zh ?_;refine zC ?_ ?_
 ·intro hc;rw[LV]at hc;have a3:k<b:=by have:=of_decide_eq_true hc.1;omega
  refine zh ?_;refine zxd (k+1) ⟨zo,a3,λi h1 h2=>(L1.1 h2).elim (a0 i h1) (λe=>by rw[e];exact hc.2)⟩
 intro hc;have a2:k=b\/bq (nth l k)=false:=by
  rcases N2.1 hc with h|h
  ·exact .inl (by have:=of_decide_eq_false h;omega)
  exact .inr h
 refine zh ?_;refine af rfl rfl ⟨by rw[vZ a5 a4 hb a0 a2],rfl⟩
theorem rJ(l:List UInt8)(a b:Nat)(a7:a<=b)(hb:b<=l.length)(w:ln)(hl:l.length<=4096):MK M9 69 [.string (bs l),nI (a:Nat),nI (b:Nat)] w λv w'=>v=nI ((tw aj l a b:Nat):Int)/\w'=w:=by
 apply ix func69 ntmps69 rfl rfl;refine zh ?_
 apply zlp (λk:Nat=>[(0,.string (bs l)),(1,nI (k:Nat)),(2,nI (b:Nat))]) (λk=>w) (λk=>a<=k/\k<=b/\∀i,a<=i->i<k->aj (nth l i)=true) (λk=>b-k) a ⟨L3 _,a7,λi h1 h2=>zo⟩;rintro k ⟨a6,a5,a2⟩;refine zh ?_
 refine aT (λw1=>_=w1) (aj (nth l k)) 4 rfl rfl rfl rfl rfl rfl ?_ ?_
 ·intro a1;have a8:k<b:=dT a1;refine zh ?_;refine zvH (bW L8 rfl rfl _ rfl zo) ?_;apply zc call102 (xS (nth l k) w);rintro v w9 ⟨rfl,a0⟩;rw[a0];clear a0 w9;refine zh ?_;refine nE 10 5 rfl a1
 rintro _ rfl;refine zh ?_;refine zC ?_ ?_
 ·intro hc;rw[LV]at hc;have a4:k<b:=by have:=of_decide_eq_true hc.1;omega
  refine zh ?_;refine zxd (k+1) ⟨zo,a4,λi h1 h2=>(L1.1 h2).elim (a2 i h1) (λe=>by rw[e];exact hc.2)⟩
 intro hc;have a3:k=b\/aj (nth l k)=false:=by
  rcases N2.1 hc with h|h
  ·exact .inl (by have:=of_decide_eq_false h;omega)
  exact .inr h
 refine zh ?_;refine af rfl rfl ⟨by rw[vZ a6 a5 hb a2 a3],rfl⟩
theorem Is{l:List Int}{k:Nat}(hk:k<=l.length)(h1:∀i,i<k->nth l i<c)(h2:k=l.length\/¬nth l k<c):GC l c=if k<l.length/\nth l k=c then l else l.take k++[c]++l.drop k:=by
 have a0:(l.takeWhile (λx=>decide (x<c))).length=k:=gx hk (λi hi=>decide_eq_true (h1 i hi)) (h2.imp id (λh=>decide_eq_false h));have a2:=MC (p:=λx=>decide (x<c)) (l:=l);have e1:l.take k=l.takeWhile (λx=>decide (x<c)):=by
  conv=>lhs;rw[<-a2]
  rw[List.take_left' a0]
 have e2:l.drop k=l.dropWhile (λx=>decide (x<c)):=by
  conv=>lhs;rw[<-a2]
  rw[List.drop_left' a0]
 unfold GC;rw[<-e1,<-e2]
 by_cases a1:k<l.length
 ·have e3:(l.drop k).head? = some (nth l k):=by rw[MR a1,aB a1];rfl
  rw[e3]
  by_cases e:nth l k=c
  ·rw[if_pos (by rw[e]),if_pos ⟨a1,e⟩]
  rw[if_neg (λh=>e (Mg h)),if_neg (λh=>e h.2)]
 rw[NF zo,if_neg (show¬([]:List Int).head? = some c from by simp),if_neg (λh=>a1 h.1)]
theorem Iq(l:List Int)(c:Int)(sv:L4)(B:Nat)(O:Nat->Nat)(w:ln)(b6:N8 B O w)(h:Sl encI 1 w sv l)(hf:Po O w sv)(hl:l.length<=100000):MK M9 105 [sv,nI c] w λv w'=>ME w w'/\Sl encI 1 w' v (GC l c)/\Po O w' v:=by
 obtain⟨T,c7,hT⟩:=b6.bound;have c6:∀b,¬T<=O b:=λb=>by have:=hT b;omega
 have a0:¬(λq:Nat=>T<=q) 0:=λe=>zo
 have d2:=h.len_le;apply ix func105 ntmps105 rfl rfl;refine zh ?_;apply zlp (λk:Nat=>[(0,sv),(1,nI c),(5,nI (k:Nat))]) (λk=>w) (λk=>k<=l.length/\∀i,i<k->nth l i<c) (λk=>l.length-k) 0 ⟨LP _,λi hi=>absurd hi (LQ i)⟩;rintro k ⟨hk,b3⟩;refine zh ?_;refine aT (λw1=>_=w1) (decide (nth l k<c)) 6 rfl rfl rfl rfl rfl rfl ?_ ?_
 ·intro a1;have d1:k<l.length:=dT a1;have m1:=h.ld d1;refine zh ?_;refine nE 10 7 rfl a1
 rintro _ rfl;refine zh ?_;refine zC ?_ ?_
 ·intro hc;rw[LV]at hc;have b9:k<l.length:=by have:=of_decide_eq_true hc.1;omega
  refine zh ?_;refine zxd (k+1) ⟨b9,λi hi=>(L1.1 hi).elim (b3 i) (λe=>by rw[e];exact of_decide_eq_true hc.2)⟩
 intro hc;have b7:k=l.length\/¬nth l k<c:=by
  rcases N2.1 hc with h|h
  ·exact .inl (by have:=of_decide_eq_false h;omega)
  exact .inr (of_decide_eq_false h)
 have hP:=Is hk b3 b7;refine zh ?_;refine aT (λw1=>_=w1) ((nth l k==c)) 6 rfl rfl rfl rfl rfl rfl ?_ ?_
 ·intro a2;have d0:k<l.length:=dT a2;have m1:=h.ld d0;refine zh ?_;refine nE 24 7 rfl a2
 rintro _ rfl;refine zh ?_;refine zC ?_ ?_
 ·intro he;rw[LV]at he;rw[if_pos ⟨by have:=of_decide_eq_true he.1;omega,eq_of_beq he.2⟩]at hP;rw[hP];refine zh ?_;refine af rfl rfl ⟨LY _,h,hf⟩
 intro he;rw[if_neg (λe=>by rw[decide_eq_true (show(k:Int)<(l.length:Int) by omega),beq_iff_eq.2 e.2]at he;cases he)]at hP;rw[hP];have b2:∀W,ME w W->Sl encI 1 W (dc sv 1 0 k) (l.take k):=λW hE=>by have:=(h.ext hE).slice (LP k) hk;simpa using this
 have c':∀W,ME w W->Sl encI 1 W (dc sv 1 k l.length) (l.drop k):=λW hE=>by have:=(h.ext hE).slice hk (L3 _);rwa[List.take_length]at this
 have kE:∀O1 W,M0 (λq=>T<=q) O w O1 W->ME w W:=λO1 W u=>az u c6
 have hU:M0 (λq=>T<=q) O w O w.drew:=(MI a0 O w).drew;have hR:=b6.drew;refine zh ?_;apply aQ (λW=>ME w W) 13 rfl zk;refine zin (kE _ _ hU) λzS=>?_
 apply zrm 1 rfl zS rfl;apply zrm 2 rfl zS rfl
 apply zt 3 rfl zS (λw1 a'=>rH (h.ext a') MS (MX _) rfl rfl k rfl hk);apply zrm 5 rfl zS rfl
 apply zrm 8 rfl zS rfl;apply zrm 9 rfl zS rfl
 apply zt 10 rfl zS (λw1 a'=>mI (h.ext a') MS (MX _) rfl rfl k rfl hk);refine iM (λx:L4×L4×(Nat->Nat)×World=>[(37,x.1),(39,x.2.1),(43,dc sv 1 k l.length)]) (λx=>x.2.2.2) (λx=>NI encI 3 1 x.2.2.1 x.2.2.2 T x.1 ([]++l.take k)/\NI encI 3 1 x.2.2.1 x.2.2.2 (T+1) x.2.1 [c]/\M0 (λq=>T<=q) O w x.2.2.1 x.2.2.2/\N8 B x.2.2.1 x.2.2.2) #[true,true,true,true,true,true,true,false,true,true,true,false,false] 3 ?_ ?_
 ·intro hN;refine bB 0 6 zk rfl rfl ?_ ?_ 
  ·apply cu Bt encI hR T zo rfl;intro rv wa Oa fA a7 b1;have hU:=Mf hU (a7.mono (λ_ h=>by rw[h];exact L3 _) a0);have hR:=b1
   try have fC:=Mt fC a7 zo zo
   refine zh ?_;apply aa (kE _ _ hU)
   refine bB 4 6 zk rfl rfl ?_ ?_ 
   ·apply aK Bt fA hR (b2 _ (kE _ _ hU)) rfl rfl (λ_ _=>rfl) (λu hu c hc=>by rw[L5.1 hc];rfl) (by simp;omega) (by simp;omega) zo rfl;intro pv wb Ob fB a5 a9;have hU:=Mf hU (a5.mono (λ_ h=>by rw[h];exact L3 _) a0);have hR:=a9
    try have fC:=Mt fC a5 zo zo
    refine zh ?_;apply aa (kE _ _ hU)
    apply L7 6 zk rfl;apply aM Bt (enc:=encI) hR (T+1) zo c rfl rfl rfl zd rfl
    intro cv wc Oc fC a3 a8;have hU:=Mf hU (a3.mono (λ_ h=>by rw[h];exact NV _) a0);have hR:=a8
    try have fA:=Mt fA a3 zo zo
    try have fB:=Mt fB a3 zo zo
    refine zh ?_;apply aa (kE _ _ hU)
    exact PF (hN (pv,cv,_,_) ⟨fB,fC,hU,hR⟩) zk ⟨rfl,rfl,rfl,trivial⟩ rfl
   apply aM Bt (enc:=encI) hR (T+1) zo c rfl rfl rfl zd rfl;intro cv wc Oc fC a3 a8;have hU:=Mf hU (a3.mono (λ_ h=>by rw[h];exact NV _) a0);have hR:=a8
   try have fA:=Mt fA a3 zo zo
   try have fB:=Mt fB a3 zo zo
   refine zh ?_;apply aa (kE _ _ hU)
   apply L7 4 zk rfl;apply aK Bt fA hR (b2 _ (kE _ _ hU)) rfl rfl (λ_ _=>rfl) (λu hu c hc=>by rw[L5.1 hc];rfl) (by simp;omega) (by simp;omega) zo rfl
   intro pv wb Ob fB a5 a9;have hU:=Mf hU (a5.mono (λ_ h=>by rw[h];exact L3 _) a0);have hR:=a9
   try have fC:=Mt fC a5 zo zo
   refine zh ?_;apply aa (kE _ _ hU)
   exact PF (hN (pv,cv,_,_) ⟨fB,fC,hU,hR⟩) zk ⟨rfl,rfl,rfl,trivial⟩ rfl
  apply aM Bt (enc:=encI) hR (T+1) zo c rfl rfl rfl zd rfl;intro cv wc Oc fC a3 a8;have hU:=Mf hU (a3.mono (λ_ h=>by rw[h];exact NV _) a0);have hR:=a8
  try have fA:=Mt fA a3 zo zo
  try have fB:=Mt fB a3 zo zo
  refine zh ?_;apply aa (kE _ _ hU)
  apply L7 0 zk rfl;apply cu Bt encI hR T zo rfl
  intro rv wa Oa fA a7 b1;have hU:=Mf hU (a7.mono (λ_ h=>by rw[h];exact L3 _) a0);have hR:=b1
  try have fC:=Mt fC a7 zo zo
  refine zh ?_;apply aa (kE _ _ hU)
  apply L7 4 zk rfl;apply aK Bt fA hR (b2 _ (kE _ _ hU)) rfl rfl (λ_ _=>rfl) (λu hu c hc=>by rw[L5.1 hc];rfl) (by simp;omega) (by simp;omega) zo rfl
  intro pv wb Ob fB a5 a9;have hU:=Mf hU (a5.mono (λ_ h=>by rw[h];exact L3 _) a0);have hR:=a9
  try have fC:=Mt fC a5 zo zo
  refine zh ?_;apply aa (kE _ _ hU)
  exact PF (hN (pv,cv,_,_) ⟨fB,fC,hU,hR⟩) zk ⟨rfl,rfl,rfl,trivial⟩ rfl
 rintro⟨pv,cv,O7,w7⟩ ⟨fB,fC,b4,b5⟩;dsimp only at fB fC b4 b5 ⊢;apply L7 7 zk rfl;apply aK Bt fB b5 fC.sl rfl rfl (λ_ _=>rfl) (λu hu c hc=>by rw[L5.1 hc];rfl) (by simp;omega) (by simp;omega) zo rfl;intro qv w8 O8 b8 c5 c9;have a6:=b4.trans (c5.mono (λ_ h=>by rw[h];exact L3 _) a0);refine zh ?_;apply aa (kE _ _ a6);apply L7 11 zk rfl;apply aK Bt b8 c9 (c' _ (kE _ _ a6)) rfl rfl (λ_ _=>rfl) (λu hu c hc=>by rw[L5.1 hc];rfl) (by simp;omega) (by simp;omega) zo rfl;intro zv w9 O9 b0 b' c8;have a4:=a6.trans (b'.mono (λ_ h=>by rw[h];exact L3 _) a0);refine zh ?_;apply aa (kE _ _ a4);apply zra 12 rfl (kE _ _ a4) rfl;apply Me zk;refine zh ?_;rw[Mv]at b0;refine af rfl rfl ⟨kE _ _ a4,b0.sl,b0.freeT c7 hT c8 a4⟩
theorem zA(l:List UInt8)(a b bg:Nat)(b1:a<=b)(hb:b<=l.length)(hl:l.length<=4096)(xp a':L4)(B:Nat)(O:Nat->Nat)(w:ln)(hR:N8 B O w)(a2:List Int)(hM:uU l a b=some a2):
  MK M9 71 [xp,.string (bs l),nI (bg:Nat),nI (a:Nat),nI (b:Nat),a',.bool false] w λv w'=>ME w w'/\Sl encI 1 w' v a2/\Po O w' v:=by
 have hz:∀w:ln,Sl encI 1 w nS ([]:List Int)/\Po O w (nS):=λw=>⟨⟨⟨none,0,rfl,L3 _,zd,λh=>absurd rfl h⟩,λi hi=>absurd hi (by simp)⟩,λa n c e=>by cases e⟩
 have a4:uT l b (l.length+1) (tw bq l a b) []=some a2/\a2≠[]:=by
  unfold uU at hM
  cases hg:uT l b (l.length+1) (tw bq l a b) []with
  |none=>rw[hg]at hM;cases hM
  |some o=>
   rw[hg]at hM
   cases o with
   |nil=>cases hM
   |cons x r=>cases hM;exact⟨rfl,by simp⟩
 obtain⟨a4,b5⟩:=a4;clear hM;have b3:=tQ (p:=bq) b1 hb;apply ix func71 ntmps71 rfl rfl;refine zh ?_;refine zFH rfl rfl ?_;apply zc call68 (iW l a b b1 hb w hl);rintro v w9 ⟨rfl,a1⟩;rw[a1];clear a1 w9;refine zh ?_;apply zlp (λy:Nat×Nat×List Int×L4×ln=>[(0,xp),(1,.string (bs l)),(2,nI (bg:Nat)),(3,nI (y.2.1:Nat)),(4,nI (b:Nat)),(5,a'),(6,.bool false),(15,y.2.2.2.1)]) (λy=>y.2.2.2.2) (λy=>y.2.1<=b/\uT l b y.1 y.2.1 y.2.2.1=some a2/\Sl encI 1 y.2.2.2.2 y.2.2.2.1 y.2.2.1/\Po O y.2.2.2.2 y.2.2.2.1/\ME w y.2.2.2.2/\y.2.2.1.length+y.1<=l.length+1) (λy=>y.1) (l.length+1,tw bq l a b,[],nS,w) ⟨b3.2,a4,(hz _).1,(hz _).2,LY _,by simp⟩;clear a4;rintro⟨n,a0,a3,lv,w1⟩ ⟨ha,hM,hs,hf,hE,hn⟩;dsimp only at ha hM hs hf hE hn ⊢
 obtain⟨n,rfl⟩:∃m,n=m+1:=⟨n-1,by
  cases n with
  |zero=>cases hM
  |succ n=>rfl⟩
 refine zh ?_;refine zC ?_ ?_
 ·intro a7;replace a7:a0<b:=dT a7;unfold uT at hM;rw[if_neg zo]at hM;have b8:aj (nth l a0)=true/\∃c,lZ (jt l a0 (tw aj l a0 b))=some c/\uT l b n (tw bq l (tw aj l a0 b) b) (GC a3 (c:Nat))=some a2:=by
   split at hM
   ·rename_i a8;refine⟨a8,?_⟩
    cases hq:lZ (jt l a0 (tw aj l a0 b))with
    |none=>rw[hq]at hM;cases hM
    |some c=>rw[hq]at hM;exact⟨c,rfl,hM⟩
   cases hM
  obtain⟨a8,c,b0,b7⟩:=b8;clear hM;have a6:=tQ (p:=aj) ha hb;have b':=G1 (p:=aj) a7 hb a8;have b2:=tQ (p:=bq) a6.2 hb;refine zh ?_;apply zc call69 (rJ l a0 b ha hb w1 hl);rintro v w9 ⟨rfl,a1⟩;rw[a1];clear a1 w9;generalize tw aj l a0 b=en at *;refine zh ?_;apply zv (cf L8 rfl rfl rfl a0 en rfl rfl a6.1 zo);apply zc call103 (oE (jt l a0 en) w1);rintro v w2 ⟨rfl,a5⟩;rw[show eN namesL (jt l a0 en)=((c:Nat):Int)from by unfold lZ at b0;unfold eN;rw[b0]];refine zh ?_;refine zFH rfl ((by rw[beq_eq_false_iff_ne];omega)) ?_;refine zFH rfl ((decide_eq_false zo)) ?_;apply zc call105 (Iq a3 (c:Nat) lv B O w2 (hR.ext (hE.trans a5)) (hs.ext a5) (hf.upd (ae (S:=λ_=>False) (λh=>h) O a5)) zo);rintro v w3 ⟨b9,b4,b6⟩;refine zh ?_;apply zc call68 (iW l en b a6.2 hb w3 hl);rintro _ w9 ⟨rfl,a1⟩;rw[a1];clear a1 w9;refine zh ?_;have c5:(GC a3 (c:Nat)).length<=a3.length+1:=by
   unfold GC
   split
   ·omega
   have h:=congrArg NP (MC (p:=λx=>decide (x<((c:Nat):Int))) (l:=a3));rw[Mm]at h;simp;omega
  refine zxd (n,tw bq l en b,GC a3 (c:Nat),v,w3) ⟨b2.2,b7,b4,b6,(hE.trans a5).trans b9,by dsimp only;omega⟩
 intro a9;replace a9:b<=a0:=dF a9;unfold uT at hM;rw[if_pos a9]at hM
 cases hM
 refine zh ?_;refine zFH rfl ((by rw[beq_eq_false_iff_ne];have:=NW.2 b5;omega)) ?_
 refine af rfl rfl ⟨hE,hs,hf⟩
end Go.Proofs.YteolbhblkgjbhaaGreatDoor
