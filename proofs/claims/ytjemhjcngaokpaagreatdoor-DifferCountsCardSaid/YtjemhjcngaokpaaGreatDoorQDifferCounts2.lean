/- Texts that the proof of this statement needs, merged and shortened. -/
import Derived.Test.YtjemhjcngaokpaaGreatDoorQDifferCounts1
open Go renaming World->ix,Value->ka,TypeId->J7,MapEntry->JC,Program->JH,Operand->Kj,Oper->KF,Exit->LN,Edge->Ma,zeroValue->Mc,Addr->MM,Act->N8,sizeOf->Ni,MemPlace->No,Calls->NJ
open Go.Result renaming andThen_ok->ln
open Go.Proofs.Tryz renaming sizeOf67->J0,underlying9->J1,isAgg67->J8,zeroValue67->Jo,prog->Jp,underlying3->KC,underlying158->KE,sizeOf69->KJ,sizeOf39->KK,underlying22->KO,underlying4->KS,sizeOf3->Lb,zeroValue69->Lo,isAgg69->Lw,sizeOf52->Lz,sizeOf162->Md,underlying54->Ml,underlying23->Mm,call67->Mn,sizeOf22->MC,isAgg22->MV,call165->MW,call140->MX,call128->MY,call68->Nj,call62->Nk,call61->Nl,underlying157->Nq,underlying65->Nu,underlying48->Nv,underlying39->Nw,underlying25->Nx,underlying21->Ny,isAgg52->Nz,call151->NA,call137->NB,call109->NC,zeroValue22->NF,underlying5->NG,underlying0->NH,zeroValue4->NK,zeroValue3->NL,zeroValue0->NM,call66->NN,call12->NO
open Go.Sem renaming run_bind->J2,run_pure->Jr,run->Kl
open Go.VL.Ret renaming enter->J3
open Nat renaming le_refl->J4,not_lt_zero->Jq,zero_le->Js,lt_succ_iff_lt_or_eq->JG,le_of_eq->JV,le_succ->K2,blt->Kd,lt_of_lt_of_le->Kr,min_eq_left->KI,eq_of_beq_eq_true->KL,beq->Li,zero_mul->LB,zero_add->LC,le_trans->LD,add_comm->LF,add_mul->M8,mod_lt->Mq,sub_zero->N4,sub_self->N5,one_mul->Ng,mul_one->Nh
open List renaming mem_singleton->J5,getElem?_eq_getElem->Ji,length_cons->Jj,eq_nil_of_length_eq_zero->Jk,findIdx?_eq_some_iff_getElem->Jm,map_cons->Jt,length_set->Jv,length_append->Jw,getElem_append_left->JA,all_cons->JD,range->JJ,all_nil->JK,mem_append->JN,length_singleton->JO,replicate->JR,mem_map->JT,getElem_append_right->JW,getElem?_eq_some_iff->JX,findIdx?_eq_none_iff->JY,append_nil->K0,drop_of_length_le->K4,eraseIdx_eq_take_drop_succ->K7,getElem_map->Ka,map_append->Kf,length_nil->Kg,map_nil->Kk,take_take->Ko,getElem_range->Kp,dropWhile_cons_of_neg->Kq,drop_eq_getElem_cons->Kv,flatMap_cons->Kw,append_assoc->Kx,map_toArray->KB,length_map->KG,filter_eq_self->KR,nodup_append->KU,takeWhile_append_dropWhile->KW,suffix_cons->L2,getElem_mem->L3,cons_append->L4,take_append_of_le_length->L5,mem_filter->L8,takeWhile_cons_of_neg->Lj,dropWhile_cons_of_pos->Lk,pairwise_iff_getElem->Lm,sum_cons->Lr,map_take->Ls,filter_cons_of_neg->Lv,take_of_length_le->Lx,take_append_drop->LG,length_filter_le->LH,eraseIdx_sublist->LJ,dropWhile_suffix->LK,mem_append_left->LZ,getElem_toArray->M0,getElem_of_mem->M9,set_cons_succ->Mi,findIdx?_cons->Mj,getElem_take->Mr,take->Mv,mem_flatMap->Mw,length_take->Mx,all_eq_true->My,nodup_cons->MH,nil_append->MI,take_drop->MQ,mem_range->MR,map_drop->MT,length->N6,map->Ns
open Bool renaming and_eq_true->J6,or_eq_true->L9,eq_iff_iff->La,and_eq_false_iff->LP,false_eq_true->Mk
open Go.VL.Upd renaming setRow->J9,set->JM,refl->K6,drew->M6,ofDrew->Mp,alloc->MG,putObj->Nn
open Go.VL.BlkO renaming upd->Jh,drew->Jy,setRow->JE,tag->JS
open Go.VL.Ext renaming refl->Jl
open Go.VL.WH renaming one->Jn,done->JP
open Go.VL renaming Upd->Ju,BlkO->JI,RowT->JZ,Ext->Kb,Ret->KD,Rng->KV,MapO->Ll,Elem->Np,KeyL->NU,Fits->NV
open Go.World renaming setRow->Jz,drew->JB,setCell->KP,block_lt_of_cell?->Lp,putObj_heap_same->Lt,cells?_some->Me,cell?_spot->Mo,setCells->MD,frozen?->MN
open UInt8 renaming ofNat->JF,toNat->N0
open Go.Lib renaming compact->JL,compactUpTo->Kh,keeps->MJ
open Go.Value renaming oneCell'->JQ,int->KM,cells->LA,bool->M5,ownBlock->MF
open List.cons renaming injEq->JU
open Go.Utf8 renaming valid->K1,decode->KN,encode->LQ
open Go.Addr renaming add->K5,add_add->Ly
open Array renaming getElem?_modify->K8,getElem?_setIfInBounds->L6,length_toList->M4,ext_getElem?->Mb
open Go.DataW renaming trod->K9
open Go.VL.WS renaming nil->Kc,go->Nm,call->NP
open Go.VL.WC renaming still->Ke,tail->ME
open Classical renaming byContradiction->Ki
open Go.Instr renaming keyThatStays->Km,entryStore->KA,findAsking->KX,next->Lc,mapEntry->Ld,checkKey->Le,storeAt->Ln,mapUpdate->Mz,sureAddr->MK,findNow->MS
open Option.some renaming inj->Ku
open Int renaming le_refl->Kz
open Go.VL.Fit renaming i64->KH
open Go.VL.WL renaming val->KQ,nil->MZ,push->N9,step->NR
open Go.Proofs.YtjemhjcngaokpaaGreatDoor renaming oneM->KT
open Go.Builtin renaming delete_->KY,append_->KZ,firstCells->LO,clear_->Ms,lenOf->MB,len_->NW
open Go.VL.RV renaming fieldAddr->L0,add->L7,load->LW,indexAddr->LX,build->N1,move->Nb
open Option renaming map_some->L1,map->LY,bind_some->Mg,bind_none->Mh
open Go.Calls renaming mono->Lh
open Go.Region renaming ready->Lq
open Go.VL.RowT renaming drew->Lu,upd->LU,nil->LV
open Function renaming comp_def->LL
open Go.Deep renaming choose_lt->M1
open Go.VL.Rng renaming drew->M7,upd->Mt
open Go.Sort renaming ahead->Mf
open Go.Op renaming equalIn->Mu,equal->NI
open Go.Shelf renaming Ren->MA
open Std.Legacy.Range renaming size->MO,forIn_eq_forIn_range'->MP
open Go.Proofs.Lays2 renaming n20->MU
open Go.Proofs.Lays renaming n189->N2
open Go.Exit renaming noGoto->N7
open Go.RowKit.Below renaming heap_setCell->Na
open Go.Proofs.YtjemhjcngaokpaaGreatDoor.Nt renaming leaf->Nc
open Go.Proofs.YtjemhjcngaokpaaGreatDoor.Nd renaming kids->Nf,kind->NT
open Prod renaming fst->Nr
open Go.Oper renaming wp->ND
open Go.VL.WQ renaming call->NQ
open Prod.mk renaming injEq->NS
set_option maxRecDepth 10000
open Go.VL Go.Proofs Go.Proofs.Tryz
namespace Go.Proofs.YtjemhjcngaokpaaGreatDoor
section
variable{kv:ka}{kn:Kn}
theorem yN(c:UInt8)(w:ix):KD Jp 189 [.int .u8 (c.toNat:Int)] w fun v w'=>v=.bool (fj c)/\w'=w:=by
 refine J3 func189 ntmps189 rfl rfl ?_;refine zh ?_
 refine zc call200 (iN c w) ?_;rintro v w9 ⟨rfl,a0⟩;rw[a0];clear a0 w9;refine zh ?_
 cases h1:ak c with
 |true=>
  refine az (d:=5) rfl (b':=true) (rfl) ?_;refine zh ?_
  refine ah rfl rfl (⟨by simp[fj,h1],rfl⟩)
 |false=>
  refine az (d:=5) rfl (b':=false) (rfl) ?_;refine zh ?_
  by_cases h2:c=126
  ·refine az (d:=9) rfl (b':=true) ((by rw[h2];rfl)) ?_;refine zh ?_
   refine ah rfl rfl (⟨by simp[fj,h2],rfl⟩)
  refine az (d:=9) rfl (b':=false) ((ik _ 126 zd h2)) ?_;refine zh ?_
  by_cases h3:c=94
  ·refine az (d:=13) rfl (b':=true) ((by rw[h3];rfl)) ?_;refine zh ?_
   refine ah rfl rfl (⟨by simp[fj,h3],rfl⟩)
  refine az (d:=13) rfl (b':=false) ((ik _ 94 zd h3)) ?_;refine zh ?_
  have e:=nZ c 40 zd;refine ah rfl rfl (⟨?_,rfl⟩);have e2:fj c=decide (c=40):=by simp[fj,h1,h2,h3]
  rw[e2];exact congrArg M5 e
def PR.andThen(M:PR)(f:Nd->List UInt8->PR):PR:=match M with | .bad p e=>.bad p e | .ok t r=>f t r
def LoopS(kv:ka)(op:Int)(l:List UInt8)(j rb:Nat)(F:Nat->List Nd->List UInt8->PR)(M:PR)(O:Nat->Nat)(w:ix)(n:Nat)(r1:List UInt8)(ts:List Nd)(xs:List N3):Prop:=
 (Rdr kv O w j rb l ((l.length:Int)-(r1.length:Int)) op 0 0/\r1 <:+ l/\r1.length<n/\xs.length+n<=5000/\ts.length=xs.length/\(∀i,i<xs.length->Nt O w (nth ts i) (nth xs i))/\F n ts r1=M)\/
 (∃p e a op',M=.bad p e/\e≠0/\Rdr kv O w j rb l a op' ((l.length:Int)-(p:Int)) e/\0<=a/\a<=l.length+20-op/\op<=op'/\op'<=20)
theorem LoopS.upd{op:Int}{l:List UInt8}{j rb:Nat}{F:Nat->List Nd->List UInt8->PR}{M:PR}{O O':Nat->Nat}{w w':ix}{n:Nat}{r1:List UInt8}{ts:List Nd}{xs:List N3}{S:Nat->Prop}(h:LoopS kv op l j rb F M O w n r1 ts xs)(u:Ju S O w O' w')(hj:j≠0)(hS:¬S j):LoopS kv op l j rb F M O' w' n r1 ts xs:=by
 rcases h with⟨h1,h2,h3,h4,h5,h6,h7⟩|⟨p,e,a,o,h1,h2,h3,h4⟩
 ·exact .inl ⟨Jh h1 u hj hS,h2,h3,h4,h5,fun i hi=>(h6 i hi).upd u,h7⟩
 exact .inr ⟨p,e,a,o,h1,h2,Jh h3 u hj hS,h4⟩
theorem LoopS.next{op:Int}{l:List UInt8}{j rb:Nat}{F:Nat->List Nd->List UInt8->PR}{M M':PR}{O:Nat->Nat}{w:ix}{n:Nat}{q r1:List UInt8}{ts:List Nd}{xs:List N3}{x:N3}(hP:PostE kv O w j rb l op x M')(hG:Good q M')(hq:q <:+ l)(a0:q.length<=r1.length)(h3:r1.length<n+1)(h4:xs.length+(n+1)<=5000)(h5:ts.length=xs.length) 
  (h6:∀i,i<xs.length->Nt O w (nth ts i) (nth xs i)) (h7:F (n+1) ts r1=M) (hF:F (n+1) ts r1=M'.andThen fun t r2=>F n (ts++[t]) r2):∃n' r' ts',n'<n+1/\LoopS kv op l j rb F M O w n' r' ts' (xs++[x]):=by
 cases M' with
 |bad p e=>
  obtain⟨g1,a,o,g2,g3⟩:=hP;exact⟨0,[],[],zo,.inr ⟨p,e,a,o,by rw[<-h7,hF];rfl,hG.2,g2,g3⟩⟩
 |ok t r2=>
  refine⟨n,r2,ts++[t],zo,.inl ⟨hP.1,hG.1.trans hq,by have:=hG.2;omega,by simp;omega,by simp[h5],fun i hi=>?_,by rw[<-h7,hF];rfl⟩⟩;simp only[Jw,JO]at hi
  by_cases e:i<xs.length
  ·rw[aB (by simp;omega),aB (by simp;omega),JA zo,JA e,<-aB zo,<-aB e];exact h6 i e
  obtain rfl:i=xs.length:=zo;rw[aB (by simp;omega),aB (by simp),JW zo,JW zo];simp[h5];exact hP.2
theorem ow{op:Int}{l:List UInt8}{j rb:Nat}{F:Nat->List Nd->List UInt8->PR}{M M':PR}{O:Nat->Nat}{w:ix}{r:List UInt8}{x:N3}(hP:PostE kv O w j rb l op x M')(hG:Good r M')(hr:r <:+ l)(hl:l.length<=4096)(hF:M=M'.andThen fun t r2=>F (r2.length+1) [t] r2):∃n' r' ts',LoopS kv op l j rb F M O w n' r' ts' [x]:=by
 cases M' with
 |bad p e=>
  obtain⟨g1,a,o,g2,g3⟩:=hP;exact⟨0,[],[],.inr ⟨p,e,a,o,hF,hG.2,g2,g3⟩⟩
 |ok t r2=>
  have:=hr.length_le;refine⟨r2.length+1,r2,[t],.inl ⟨hP.1,hG.1.trans hr,zo,by have:=hG.2;simp;omega,rfl,fun i hi=>?_,hF.symm⟩⟩;obtain rfl:i=0:=by simpa using hi
  rw[ay,ay];exact hP.2
theorem Nt.oneM{O O':Nat->Nat}{w w':ix}{k:Int}{ts:List Nd}{xs:List N3}{lv:ka}{T U B:Nat}{S:Nat->Prop}(a0:JZ aV 67 3 O' w' U lv xs)(a1:T<=U)(a2:0<T)(hT:∀b,O b<T)(r:KV B O' w')(u:Ju S O w O' w')(h5:ts.length=xs.length)(h6:∀i,i<xs.length->Nt O' w' (nth ts i) (nth xs i))(_:1<=xs.length):
  Nt O w' (oneM k ts) (if xs.length=1 then nth xs 0 else(k,0,lv)):=by
 unfold KT
 by_cases e:xs.length=1
 ·rw[if_pos zo,if_pos e];exact(h6 0 zo).low u
 rw[if_neg zo,if_neg e];exact .mk a0.sl (a0.freeT zo (fun b=>Kr (hT b) a1) r u) h5 (fun i hi=>(h6 i hi).low u)
theorem zN(al:Option (List UInt8->PR))(op:Int)(f3:0<=op/\op<=20)(ha:uf kv kn al op)(hg:mK al):Reads kv kn 164 [] op (BZ kn al) (fun _=>True):=by
 intro B O j rb l r w hR hj hr hl h0 h f5;obtain⟨T,a6,hT⟩:=hR.bound;have i2:j<T:=by rw[<-h.tag];exact hT rb
 have i1:=hr.length_le;refine J3 func164 ntmps164 rfl rfl ?_;refine zh ?_;refine aw hR T zo (Jo _) rfl ?_;intro xb w1 O1 g9 f7 f' i3;have h4:=h.upd f7 hj zo;have b6:=f7.pT hj a6 (J4 _);refine zh ?_;refine zc call188 (sO al op f3 ha hg B O1 j rb l r w1 f' hj hr hl trivial h4 (f5.upd b6)) ?_;rintro v w2 ⟨x,rfl,e2,g1⟩;have c8:=g1.one;have g8:=g9.upd e2 zo zo;have h':=f'.upd e2;have d9:=b6.trans (e2.pj a6);refine bK elN (enc:=aV) h' (T+1) zo x rfl rfl rfl zd rfl ?_;intro lv w3 O3 b4 e1 h9;have g7:=g8.upd e1 zo zo;have i0:=g1.upd e1 hj zo;have d8:=d9.trans (e1.pT hj a6 (K2 _));have b5:∀i,i<[x].length->(nth [x] i).2.2.oneCell'=true:=fun i hi=>by
  obtain rfl:i=0:=by simpa using hi
  rw[ay];exact c8
 obtain⟨n0,r0,g3,h6⟩:=ow (F:=dj kn al) (M:=BZ kn al r) i0 (gd (kn:=kn) hg r) hr hl rfl;refine zh ?_;refine zlp (fun y:Nat×List UInt8×List Nd×List N3×(Nat->Nat)×World×ka=>[(0,nP rb),(2,nP xb),(3,y.2.2.2.2.2.2)]) (fun y=>y.2.2.2.2.2.1) (fun y=>JI y.2.2.2.2.1 y.2.2.2.2.2.1 T xb #[nI 0,nI 0,nS] 67/\JZ aV 67 3 y.2.2.2.2.1 y.2.2.2.2.2.1 (T+1) y.2.2.2.2.2.2 y.2.2.2.1/\1<=y.2.2.2.1.length/\(∀i,i<y.2.2.2.1.length->(nth y.2.2.2.1 i).2.2.oneCell'=true)/\Ju (fun k=>k=j\/T<=k) O w y.2.2.2.2.1 y.2.2.2.2.2.1/\KV B y.2.2.2.2.1 y.2.2.2.2.2.1/\LoopS kv op l j rb (dj kn al) (BZ kn al r) y.2.2.2.2.1 y.2.2.2.2.2.1 y.1 y.2.1 y.2.2.1 y.2.2.2.1) (fun y=>y.1) (n0,r0,g3,[x],O3,w3,lv) (⟨g7,b4,J4 _,b5,d8,h9,h6⟩) ?_;rintro⟨n,r1,ts,xs,O4,w4,a0⟩ ⟨c',a4,a8,a1,e0,e4,f8⟩;dsimp only at c' a4 a8 a1 e0 e4 f8 ⊢
 rcases f8 with⟨a',e9,h1,h3,f4,g',g2⟩|⟨p,e,a,e5,hM,he,a',d5,d4,d3,d2⟩
 ·have e':=(aW r1).trans e9;have d0:=dh r1;obtain⟨m,rfl⟩:∃m,n=m+1:=⟨n-1,zo⟩
  have c7:dj kn al (m+1) ts r1=if fj ((au r1).headD 0)=true then((eU kn al (au r1)).andThen fun t r2=>dj kn al m (ts++[t]) r2)else .ok (oneM 4 ts) (au r1):=rfl
  refine zh ?_;refine zvH (RV.ld a'.r5 rfl) ?_
  refine az (d:=12) rfl (b':=true) (rfl) ?_;refine zh ?_
  refine zc NA (gb O4 w4 j rb l r1 op 0 0 hj e9 zo a') ?_;rintro v w5 ⟨rfl,f6,b8⟩;have e6:=c'.upd b8 zo zo;have a5:=a4.upd b8 zo zo;have e3:=e4.upd b8;have b0:=e0.trans (b8.pj a6);have e8:∀i,i<xs.length->Nt O4 w5 (nth ts i) (nth xs i):=fun i hi=>(g' i hi).upd b8
  refine zh ?_;refine zc call189 (yN ((au r1).headD 0) w5) ?_
  rintro v w9 ⟨rfl,e7⟩;rw[e7];clear e7 w9;refine zh ?_
  by_cases hc:fj ((au r1).headD 0)=true
  ·rw[if_pos hc]at c7;refine zTH rfl (hc) ?_;refine zc call188 (sO al op f3 ha hg B O4 j rb l (au r1) w5 e3 hj e' hl trivial f6 (f5.upd b0)) ?_;rintro v w6 ⟨x6,rfl,b7,g0⟩;have b1:=g0.one;have g6:=e6.upd b7 zo zo;have b3:=a5.upd b7 zo zo;have h8:=e3.upd b7;have d7:=b0.trans (b7.pj a6);refine N9 elN b3 h8 (x6) (fun _=>rfl) rfl rfl rfl (gY b1) zo zo zo zd rfl rfl ?_;intro g5 w7 O7 b2 d' h7;obtain⟨n',r',g4,h2,h5⟩:=LoopS.next (F:=dj kn al) g0 (gd (kn:=kn) hg _) e' d0 h1 h3 f4 (fun i hi=>(e8 i hi).upd b7) g2 c7;refine zh ?_;refine zx (n',r',g4,xs++[x6],O7,w7,g5) (⟨g6.upd d' zo zo,b2,by simp,fun i hi=>?_,d7.trans (d'.pT hj a6 (K2 _)),h7,h5.upd d' hj zo⟩) (h2);simp only[Jw,JO]at hi
   by_cases e:i<xs.length
   ·rw[aB (by simp;omega),JA e,<-aB e];exact a1 i e
   obtain rfl:i=xs.length:=zo;rw[aB (by simp)];simpa using b1
  rw[if_neg hc]at c7;refine zFH rfl ((by simpa using hc)) ?_;refine zc MW (qG 4 xs a0 w5 a5.sl a1) ?_;rintro v wo ⟨rfl,b9⟩;have a7:Ju (fun _=>False) O4 w5 O4 wo:=aa (fun h=>h) O4 b9;have a2:=Jh e6 a7 zo (fun h=>h);have a3:=LU a5 a7 zo (fun h=>h);have f9:=Mt e3 a7;have c5:(if xs.length=1 then nth xs 0 else(4,0,a0):N3).2.2.oneCell'=true:=by
   split
   ·exact a1 0 zo
   exact a3.one
  refine zsb (us:=#[nI (if xs.length=1 then nth xs 0 else(4,0,a0):N3).1,nI (if xs.length=1 then nth xs 0 else(4,0,a0):N3).2.1,(if xs.length=1 then nth xs 0 else(4,0,a0):N3).2.2]) a2 (J0 _) (bZ c5) ?_;have c9:=JE (us:=#[nI (if xs.length=1 then nth xs 0 else(4,0,a0):N3).1,nI (if xs.length=1 then nth xs 0 else(4,0,a0):N3).2.1,(if xs.length=1 then nth xs 0 else(4,0,a0):N3).2.2]) a2;have a9:Ju (fun k=>k=T) O4 wo O4 (Jz wo xb #[nI (if xs.length=1 then nth xs 0 else(4,0,a0):N3).1,nI (if xs.length=1 then nth xs 0 else(4,0,a0):N3).2.1,(if xs.length=1 then nth xs 0 else(4,0,a0):N3).2.2]):=J9 zo (JS a2) rfl;have d6:=b0.trans (jt O4 b9 hj a6);have c6:=d6.trans (a9.pT hj a6 (J4 _));refine zh ?_
  refine aK rfl rfl (c9.cellsAdd) (J8 _) (J0 _) (⟨(if xs.length=1 then nth xs 0 else(4,0,a0)),rfl,c6.priv hT hj,?_⟩);have d1:=(Jh f6 a7 hj (fun h=>h)).upd a9 hj zo;rw[<-g2,c7];exact⟨d1.fgt h.tag,Nt.oneM (a3.upd a9 zo zo) (K2 T) a6 hT (f9.upd a9) c6 f4 (fun i hi=>((e8 i hi).upd a7).upd a9) a8⟩
 replace a':JI O4 w4 j rb (rdr kv l a e5 ((l.length:Int)-(p:Int)) e) 244:=a';refine zh ?_;refine zvH (RV.ld a'.r5 rfl) ?_;refine az (d:=12) rfl (b':=false) ((by simpa using he)) ?_;refine zh ?_;refine zFH rfl rfl ?_;refine zc MW (qG 4 xs a0 w4 a4.sl a1) ?_;rintro v wo ⟨rfl,b9⟩;have a7:Ju (fun _=>False) O4 w4 O4 wo:=aa (fun h=>h) O4 b9;have a2:=Jh c' a7 zo (fun h=>h);have a3:=LU a4 a7 zo (fun h=>h);have f9:=Mt e4 a7;have c5:(if xs.length=1 then nth xs 0 else(4,0,a0):N3).2.2.oneCell'=true:=by
  split
  ·exact a1 0 zo
  exact a3.one
 refine zsb (us:=#[nI (if xs.length=1 then nth xs 0 else(4,0,a0):N3).1,nI (if xs.length=1 then nth xs 0 else(4,0,a0):N3).2.1,(if xs.length=1 then nth xs 0 else(4,0,a0):N3).2.2]) a2 (J0 _) (bZ c5) ?_;have c9:=JE (us:=#[nI (if xs.length=1 then nth xs 0 else(4,0,a0):N3).1,nI (if xs.length=1 then nth xs 0 else(4,0,a0):N3).2.1,(if xs.length=1 then nth xs 0 else(4,0,a0):N3).2.2]) a2;have a9:Ju (fun k=>k=T) O4 wo O4 (Jz wo xb #[nI (if xs.length=1 then nth xs 0 else(4,0,a0):N3).1,nI (if xs.length=1 then nth xs 0 else(4,0,a0):N3).2.1,(if xs.length=1 then nth xs 0 else(4,0,a0):N3).2.2]):=J9 zo (JS a2) rfl;have d6:=e0.trans (jt O4 b9 hj a6);have c6:=d6.trans (a9.pT hj a6 (J4 _));refine zh ?_
 refine aK rfl rfl (c9.cellsAdd) (J8 _) (J0 _) (⟨(if xs.length=1 then nth xs 0 else(4,0,a0)),rfl,c6.priv hT hj,?_⟩);have d1:=(Jh a' a7 hj (fun h=>h)).upd a9 hj zo;rw[hM];exact⟨c5,a,e5,d1.fgt h.tag,d5,d4,d3,d2⟩
theorem xE(al:Option (List UInt8->PR))(op:Int)(e9:0<=op/\op<=20)(ha:uf kv kn al op)(hg:mK al):Reads kv kn 150 [] op (oh kn al) (fun _=>True):=by
 intro B O j rb l r w hR hj hr hl g' h f3;obtain⟨T,a5,hT⟩:=hR.bound;have i1:j<T:=by rw[<-h.tag];exact hT rb
 have i0:=hr.length_le;refine J3 func150 ntmps150 rfl rfl ?_;refine zh ?_;refine aw hR T zo (Jo _) rfl ?_;intro xb w1 O1 g7 f4 f8 i2;have h3:=h.upd f4 hj zo;have b7:=f4.pT hj a5 (J4 _);refine zh ?_;refine zc call164 (zN al op e9 ha hg B O1 j rb l r w1 f8 hj hr hl trivial h3 (f3.upd b7)) ?_;rintro v w2 ⟨x,rfl,e3,f'⟩;have c9:=f'.one;have g6:=g7.upd e3 zo zo;have h9:=f8.upd e3;have d':=b7.trans (e3.pj a5);refine bK elN (enc:=aV) h9 (T+1) zo x rfl rfl rfl zd rfl ?_;intro lv w3 O3 b3 e2 h8;have g5:=g6.upd e2 zo zo;have h':=f'.upd e2 hj zo;have d9:=d'.trans (e2.pT hj a5 (K2 _));have b4:∀i,i<[x].length->(nth [x] i).2.2.oneCell'=true:=fun i hi=>by
  obtain rfl:i=0:=by simpa using hi
  rw[ay];exact c9
 obtain⟨n0,r0,g1,h5⟩:=ow (F:=cM kn al) (M:=oh kn al r) h' (jX (kn:=kn) hg r) hr hl rfl;refine zh ?_;refine zlp (fun y:Nat×List UInt8×List Nd×List N3×(Nat->Nat)×World×ka=>[(0,nP rb),(2,nP xb),(3,y.2.2.2.2.2.2)]) (fun y=>y.2.2.2.2.2.1) (fun y=>JI y.2.2.2.2.1 y.2.2.2.2.2.1 T xb #[nI 0,nI 0,nS] 67/\JZ aV 67 3 y.2.2.2.2.1 y.2.2.2.2.2.1 (T+1) y.2.2.2.2.2.2 y.2.2.2.1/\1<=y.2.2.2.1.length/\(∀i,i<y.2.2.2.1.length->(nth y.2.2.2.1 i).2.2.oneCell'=true)/\Ju (fun k=>k=j\/T<=k) O w y.2.2.2.2.1 y.2.2.2.2.2.1/\KV B y.2.2.2.2.1 y.2.2.2.2.2.1/\LoopS kv op l j rb (cM kn al) (oh kn al r) y.2.2.2.2.1 y.2.2.2.2.2.1 y.1 y.2.1 y.2.2.1 y.2.2.2.1) (fun y=>y.1) (n0,r0,g1,[x],O3,w3,lv) (⟨g5,b3,J4 _,b4,d9,h8,h5⟩) ?_;rintro⟨n,r1,ts,xs,O4,w4,a0⟩ ⟨d0,a4,a8,a1,e1,e4,f5⟩;dsimp only at d0 a4 a8 a1 e1 e4 f5 ⊢
 rcases f5 with⟨a',e8,h0,h2,e',g8,g0⟩|⟨p,e,a,e5,hM,he,a',d6,d5,d4,d3⟩
 ·have d1:=(aW r1).trans e8;have g9:=dh r1;obtain⟨m,rfl⟩:∃m,n=m+1:=⟨n-1,zo⟩
  have c8:cM kn al (m+1) ts r1=if(au r1).headD 0=124 then((BZ kn al (au r1).tail).andThen fun t r2=>cM kn al m (ts++[t]) r2)else .ok (oneM 5 ts) (au r1):=rfl
  refine zh ?_;refine zvH (RV.ld a'.r5 rfl) ?_
  refine az (d:=12) rfl (b':=true) (rfl) ?_;refine zh ?_
  refine zc NA (gb O4 w4 j rb l r1 op 0 0 hj e8 zo a') ?_;rintro v w5 ⟨rfl,b5,b9⟩;have e6:=d0.upd b9 zo zo;have a6:=a4.upd b9 zo zo;have f7:=e4.upd b9;have b6:=e1.trans (b9.pj a5);have e7:∀i,i<xs.length->Nt O4 w5 (nth ts i) (nth xs i):=fun i hi=>(g8 i hi).upd b9
  refine zh ?_
  by_cases hc:(au r1).headD 0=124
  ·rw[if_pos hc]at c8;obtain⟨k1,k2⟩:=bY (r:=au r1) (by rw[hc];decide);have hq4l:=d1.length_le;refine zTH rfl ((by rw[hc];rfl)) ?_;refine zvH (RV.ld b5.r1 rfl) ?_;refine aj (j:=1) b5 rfl (Lb _) rfl rfl rfl rfl ?_;rw[show((l.length:Int)-((au r1).length:Int))+1=(l.length:Int)-((au r1).tail.length:Int)from by omega];have hb5a:=BlkO.rAt b5 ((l.length:Int)-((au r1).tail.length:Int));have hU5a:Ju (fun k=>k=j) O4 w5 O4 (KP w5 ⟨rb,1,none⟩ (nI ((l.length:Int)-((au r1).tail.length:Int)))):=JM (fun e=>hj e.symm) (JS b5) rfl;have hx5a:=e6.upd hU5a zo zo;have hrow5a:=a6.upd hU5a zo zo;have hR5a:=f7.upd hU5a;have hUt5a:=b6.trans (hU5a.pj a5);generalize KP w5 ⟨rb,1,none⟩ (nI ((l.length:Int)-((au r1).tail.length:Int)))=w5a at *;refine zh ?_;refine zc call164 (zN al op e9 ha hg B O4 j rb l (au r1).tail w5a hR5a hj (k1.trans d1) hl trivial hb5a (f3.upd hUt5a)) ?_;rintro v w6 ⟨x6,rfl,b8,f9⟩;have b0:=f9.one;have g4:=hx5a.upd b8 zo zo;have b2:=hrow5a.upd b8 zo zo;have h7:=hR5a.upd b8;have d8:=hUt5a.trans (b8.pj a5);refine N9 elN b2 h7 (x6) (fun _=>rfl) rfl rfl rfl (gY b0) zo zo zo zd rfl rfl ?_;intro g3 w7 O7 b1 e0 h6;obtain⟨n',r',g2,h1,h4⟩:=LoopS.next (F:=cM kn al) f9 (jX (kn:=kn) hg _) (k1.trans d1) zo h0 h2 e' (fun i hi=>((e7 i hi).upd hU5a).upd b8) g0 c8;refine zh ?_
   refine zx (n',r',g2,xs++[x6],O7,w7,g3) (⟨g4.upd e0 zo zo,b1,by simp,fun i hi=>?_,d8.trans (e0.pT hj a5 (K2 _)),h6,h4.upd e0 hj zo⟩) (h1);simp only[Jw,JO]at hi
   by_cases e:i<xs.length
   ·rw[aB (by simp;omega),JA e,<-aB e];exact a1 i e
   obtain rfl:i=xs.length:=zo;rw[aB (by simp)];simpa using b0
  rw[if_neg hc]at c8;refine zFH rfl ((ik _ 124 zd hc)) ?_;refine zc MW (qG 5 xs a0 w5 a6.sl a1) ?_;rintro v wo ⟨rfl,c5⟩;have a7:Ju (fun _=>False) O4 w5 O4 wo:=aa (fun h=>h) O4 c5;have a2:=Jh e6 a7 zo (fun h=>h);have a3:=LU a6 a7 zo (fun h=>h);have f6:=Mt f7 a7;have c6:(if xs.length=1 then nth xs 0 else(5,0,a0):N3).2.2.oneCell'=true:=by
   split
   ·exact a1 0 zo
   exact a3.one
  refine zsb (us:=#[nI (if xs.length=1 then nth xs 0 else(5,0,a0):N3).1,nI (if xs.length=1 then nth xs 0 else(5,0,a0):N3).2.1,(if xs.length=1 then nth xs 0 else(5,0,a0):N3).2.2]) a2 (J0 _) (bZ c6) ?_;have c':=JE (us:=#[nI (if xs.length=1 then nth xs 0 else(5,0,a0):N3).1,nI (if xs.length=1 then nth xs 0 else(5,0,a0):N3).2.1,(if xs.length=1 then nth xs 0 else(5,0,a0):N3).2.2]) a2;have a9:Ju (fun k=>k=T) O4 wo O4 (Jz wo xb #[nI (if xs.length=1 then nth xs 0 else(5,0,a0):N3).1,nI (if xs.length=1 then nth xs 0 else(5,0,a0):N3).2.1,(if xs.length=1 then nth xs 0 else(5,0,a0):N3).2.2]):=J9 zo (JS a2) rfl;have d7:=b6.trans (jt O4 c5 hj a5);have c7:=d7.trans (a9.pT hj a5 (J4 _));refine zh ?_
  refine aK rfl rfl (c'.cellsAdd) (J8 _) (J0 _) (⟨(if xs.length=1 then nth xs 0 else(5,0,a0)),rfl,c7.priv hT hj,?_⟩);have d2:=(Jh b5 a7 hj (fun h=>h)).upd a9 hj zo;rw[<-g0,c8];exact⟨d2.fgt h.tag,Nt.oneM (a3.upd a9 zo zo) (K2 T) a5 hT (f6.upd a9) c7 e' (fun i hi=>((e7 i hi).upd a7).upd a9) a8⟩
 replace a':JI O4 w4 j rb (rdr kv l a e5 ((l.length:Int)-(p:Int)) e) 244:=a';refine zh ?_;refine zvH (RV.ld a'.r5 rfl) ?_;refine az (d:=12) rfl (b':=false) ((by simpa using he)) ?_;refine zh ?_;refine zFH rfl rfl ?_;refine zc MW (qG 5 xs a0 w4 a4.sl a1) ?_;rintro v wo ⟨rfl,c5⟩;have a7:Ju (fun _=>False) O4 w4 O4 wo:=aa (fun h=>h) O4 c5;have a2:=Jh d0 a7 zo (fun h=>h);have a3:=LU a4 a7 zo (fun h=>h);have f6:=Mt e4 a7;have c6:(if xs.length=1 then nth xs 0 else(5,0,a0):N3).2.2.oneCell'=true:=by
  split
  ·exact a1 0 zo
  exact a3.one
 refine zsb (us:=#[nI (if xs.length=1 then nth xs 0 else(5,0,a0):N3).1,nI (if xs.length=1 then nth xs 0 else(5,0,a0):N3).2.1,(if xs.length=1 then nth xs 0 else(5,0,a0):N3).2.2]) a2 (J0 _) (bZ c6) ?_;have c':=JE (us:=#[nI (if xs.length=1 then nth xs 0 else(5,0,a0):N3).1,nI (if xs.length=1 then nth xs 0 else(5,0,a0):N3).2.1,(if xs.length=1 then nth xs 0 else(5,0,a0):N3).2.2]) a2;have a9:Ju (fun k=>k=T) O4 wo O4 (Jz wo xb #[nI (if xs.length=1 then nth xs 0 else(5,0,a0):N3).1,nI (if xs.length=1 then nth xs 0 else(5,0,a0):N3).2.1,(if xs.length=1 then nth xs 0 else(5,0,a0):N3).2.2]):=J9 zo (JS a2) rfl;have d7:=e1.trans (jt O4 c5 hj a5);have c7:=d7.trans (a9.pT hj a5 (J4 _));refine zh ?_
 refine aK rfl rfl (c'.cellsAdd) (J8 _) (J0 _) (⟨(if xs.length=1 then nth xs 0 else(5,0,a0)),rfl,c7.priv hT hj,?_⟩);have d2:=(Jh a' a7 hj (fun h=>h)).upd a9 hj zo;rw[hM];exact⟨c6,a,e5,d2.fgt h.tag,d6,d5,d4,d3⟩
theorem qh:∀(d:Nat),d<=20->Reads kv kn 150 [] (20-(d:Int)) (vx kn d) (fun _=>True)
 |0,h=>xE none _ zo (show(20:Int)-((0:Nat):Int)=20 by omega) (fun f e=>by cases e)
 |d+1,h=>by
  have ih:=qh d zo;rw[show(20:Int)-(d:Int)=(20-((d+1:Nat):Int))+1 from by omega]at ih;exact xE (some (vx kn d)) _ zo ⟨zo,ih⟩ (fun f e r=>by cases e;exact iT (kn:=kn) d r)
end
end Go.Proofs.YtjemhjcngaokpaaGreatDoor
section
namespace Go.VL
def mix(A C:Nat->Nat)(b:Nat):Nat:=if A b=0 then C b else A b
theorem Fk{A C:Nat->Nat}{b i:Nat}(h:A b=i)(hi:i≠0):mix A C b=i:=by unfold mix;rw[if_neg zo];exact h
theorem Iv{A C:Nat->Nat}{b:Nat}(h:mix A C b=0):C b=0:=by
 unfold mix at h
 split at h
 ·exact h
 rename_i h1;exact absurd h h1
theorem Rng.mix{B:Nat}{A C:Nat->Nat}{w:ix}(h:KV B A w)(k:KV B C w):KV B (mix A C) w:=⟨h.le,fun b hb=>by
 unfold VL.mix at hb
 split at hb
 ·exact k.rng b hb
 rename_i h1;exact h.rng b h1⟩
end Go.VL
namespace Go.Proofs.YtjemhjcngaokpaaGreatDoor
open Go.VL Go.Proofs
set_option maxRecDepth 10000
variable{kn:Kn}
def PostX(O:Nat->Nat)(w:ix)(v:ka):XR->Prop
 |.ok t=>∃x,v=.tuple #[nv x,nI 0,nI 0]/\Nt O w t x
 |.bad p e=>v=.tuple #[nv (0,0,nS),nI (p:Int),nI e]/\e≠0
theorem Ig:ck Jp 242 #[(0,1),(1,1)]:=⟨_,underlying242,fun w=>by kernel_rfl⟩
theorem If:ck Jp 244 #[(0,2),(2,1),(3,1),(4,1),(5,1)]:=⟨_,underlying244,fun w=>by kernel_rfl⟩
theorem lz(kv:ka)(l:List UInt8)(B:Nat)(O O':Nat->Nat)(w:ix)(h4:KV B O w)(hR:KV B O' w)(d4:Known O' w kv kn):KD Jp 130 [.string (bs l),kv] w fun v w'=>Kb w w'/\PostX O w' v (fh kn l):=by
 obtain⟨T,h8,hT⟩:=hR.bound;have a0:¬(fun q:Nat=>T<=q) 0:=fun e=>zo
 have hA:=qh (kv:=kv) (kn:=kn) 20 (J4 _);rw[show(20:Int)-((20:Nat):Int)=0 from by omega]at hA;have b5:=iT (kn:=kn) 20 l;obtain⟨ms,e3⟩:=d4;obtain⟨qa,qc,g0,_⟩:=e3.1.shape;replace d4:Known O' w kv kn:=⟨ms,e3⟩
 subst g0;refine J3 func130 ntmps130 rfl rfl ?_;refine zh ?_;refine aw hR T zo (Jo _) rfl ?_;intro xb w1 O1 c9 h0 h3 i1;have b9:Ju (fun q=>T<=q) O' w O1 w1:=h0.mono (fun _ h=>JV h.symm) a0;refine zh ?_;refine zvH (cf J1 rfl) ?_
 by_cases hl:4096<l.length
 ·have hM:fh kn l=.bad 0 3:=by unfold fh;rw[if_pos hl]
  rw[hM];refine zTH rfl ((decide_eq_true zo)) ?_;refine zv (aF vT (Jo _) rfl (by first|rfl|(simp only[JD,JK];rfl)) rfl rfl) ?_;refine zsa (us:=#[nI 0,nI 0,nS]) c9 (J0 _) ?_;have a7:=JE (us:=#[nI 0,nI 0,nS]) c9;have a3:Ju (fun k=>k=T) O1 w1 O1 (Jz w1 xb #[nI 0,nI 0,nS]):=J9 zo (JS c9) rfl;refine zh ?_;refine cg rfl rfl rfl rfl a7.cellsAdd (J8 _) (J0 _) ⟨aD (b9.trans (a3.mono (fun _ h=>JV h.symm) a0)) (fun b=>by have:=hT b;omega),rfl,zd⟩
 refine zFH rfl ((decide_eq_false zo)) ?_;refine zvH (aF Ig (zeroValue242 _) rfl (by first|rfl|(simp only[JD,JK];rfl)) rfl rfl) ?_
 refine zv (N1 (cells:=rdr (.slice qa ms.length qc) l 0 0 0 0) If (zeroValue244 _) rfl rfl) ?_;refine aE h3 (T+1) zo rfl rfl ?_
 intro rb w2 O2 d5 e5 e7 i0;have g7:Rdr (.slice qa ms.length qc) O2 w2 (T+1) rb l ((l.length:Int)-(l.length:Int)) 0 0 0:=by
  rw[show(l.length:Int)-(l.length:Int)=0 from by omega];exact d5
 have f7:=c9.upd e5 zo zo;have b8:=b9.trans (e5.mono (fun _ h=>by rw[h];omega) a0);refine zh ?_;refine zc call150 (hA B O2 (T+1) rb l l w2 e7 zo (List.suffix_refl l) zo trivial g7 (d4.upd b8)) ?_;rintro v w3 ⟨x,rfl,d',e8⟩;have f4:=e8.one;have f6:=f7.upd d' zo zo;have e6:=e7.upd d';have d8:=b8.trans (d'.mono (fun _ h=>by rw[h];omega) a0);refine aw e6 (T+2) zo (Jo _) rfl ?_;intro nb w4 O4 d3 g' h9 h';refine zsb (us:=#[nI x.1,nI x.2.1,x.2.2]) d3 (J0 _) (bZ f4) ?_;have f':=d3.setRow (us:=#[nI x.1,nI x.2.1,x.2.2]);have g9:Ju (fun k=>k=T+2) O4 w4 O4 (w4.setRow nb #[nI x.1,nI x.2.1,x.2.2]):=J9 zo d3.tag rfl;have a':=g'.trans g9;have c8:=f6.upd a' zo zo;have c':=e8.upd a' zo zo;have h2:=e6.upd a';have b7:=d8.trans (a'.mono (fun _ h=>by rw[h];omega) a0);generalize w4.setRow nb #[nI x.1,nI x.2.1,x.2.2]=w5 at *
 cases hf:vx kn 20 l with
 |bad p e=>
  rw[hf]at b5 c';have hM:fh kn l=.bad (l.length-p) e:=by unfold fh;rw[if_neg hl,hf]
  have g6:=b5.1;have a8:=b5.2;obtain⟨g1,a,e',a6,g2,g3,g4,g5⟩:=c';replace a6:JI O4 w5 (T+1) rb (rdr (.slice qa ms.length qc) l a e' ((l.length:Int)-(p:Int)) e) 244:=a6;rw[hM];refine zh ?_;refine zvH (RV.ld a6.r5 rfl) ?_;refine az (d:=25) rfl (b':=false) ((by simpa using a8)) ?_;refine zh ?_;refine zFH rfl rfl ?_;refine zvH (RV.ld a6.r5 rfl) ?_;refine az (d:=44) rfl (b':=false) ((by simpa using a8)) ?_;refine zh ?_;refine zFH rfl rfl ?_;refine zvH (RV.ld a6.r5 rfl) ?_;refine aR rfl ((by simpa using a8)) ?_;have a5:=Jy a6;refine zh ?_;refine aG (fun W=>W.cell? ⟨rb,4,none⟩=some (nI ((l.length:Int)-(p:Int)))/\W.cell? ⟨rb,5,none⟩=some (nI e)) 12 rfl zk ?_;refine zin ⟨a5.r4,a5.r5⟩ fun zS=>?_
  refine zr 0 rfl zS (fun _=>aF vT (Jo _) rfl (by first|rfl|(simp only[JD,JK];rfl)) rfl rfl) ?_;refine zrm 1 rfl zS rfl ?_
  refine zr 2 rfl zS (fun _=>ao rfl) ?_;refine zrf 3 rfl zS rfl ?_
  refine zt 4 rfl zS (fun w1 a4=>RV.ld a4.1 rfl) ?_;refine zrm 5 rfl zS rfl ?_
  refine zr 6 rfl zS (fun _=>ao rfl) ?_;refine zrf 7 rfl zS rfl ?_
  refine zt 8 rfl zS (fun w1 a4=>RV.ld a4.2 rfl) ?_;refine Jn 9 zk rfl ?_
  refine zsa (us:=#[nI 0,nI 0,nS]) (Jy c8) (J0 _) ?_;have a7:=JE (us:=#[nI 0,nI 0,nS]) (Jy c8);have a3:Ju (fun k=>k=T) O4 (JB w5) O4 (Jz (JB w5) xb #[nI 0,nI 0,nS]):=J9 zo (JS c8) rfl;have b0:=Jh a5 a3 zo zo;refine zh ?_
  refine zaf (⟨b0.r4,b0.r5⟩) fun zS=>?_
  refine zra 10 rfl zS rfl ?_;refine zra 11 rfl zS rfl ?_
  refine JP zk ?_;refine zh ?_
  refine cg rfl rfl rfl rfl a7.cellsAdd (J8 _) (J0 _) ⟨aD ((b7.drew).trans (a3.mono (fun _ h=>JV h.symm) a0)) (fun b=>by have:=hT b;omega),?_⟩;exact⟨by rw[show(l.length:Int)-(p:Int)=((l.length-p:Nat):Int)from by omega];rfl,a8⟩
 |ok t r=>
  rw[hf]at b5 c';obtain⟨a6,d2⟩:=c';replace a6:JI O4 w5 (T+1) rb (rdr (.slice qa ms.length qc) l ((l.length:Int)-(r.length:Int)) 0 0 0) 244:=a6;have hr:=b5.1;have hq:=(aW r).trans hr;have h7:=hq.length_le;refine zh ?_;refine zvH (RV.ld a6.r5 rfl) ?_;refine az (d:=25) rfl (b':=true) (rfl) ?_;refine zh ?_;refine zc NA (gb O4 w5 (T+1) rb l r 0 0 0 zo hr zo a6) ?_;rintro v w6 ⟨rfl,a9,c6⟩;have d0:=c8.upd c6 zo zo;have e2:=f'.upd c6 zo zo;have e0:=h2.upd c6;have b4:=d2.upd c6;have b1:=b7.trans (c6.mono (fun _ h=>by rw[h];omega) a0);refine zh ?_
  by_cases e1:(au r).length=0
  ·have f8:au r=[]:=Jk e1;have e9:fh kn l=if 2000<nsz t then .bad 0 3 else .ok t:=by unfold fh;rw[if_neg hl,hf];dsimp only;rw[if_neg zo]
   refine zFH rfl ((by rw[f8];rfl)) ?_;refine zvH (RV.ld a9.r5 rfl) ?_
   refine az (d:=44) rfl (b':=true) (rfl) ?_;refine zh ?_
   refine zvH (RV.ld a9.r1 rfl) ?_;refine zvH (cf J1 rfl) ?_
   refine zFH rfl ((decide_eq_false zo)) ?_;refine zvH (RV.ld a9.r5 rfl) ?_
   refine zFH rfl rfl ?_;refine zv (af (us:=aV x) e2.cellsAdd (J8 _) (J0 _) rfl) ?_
   refine zc call104 (qw (nsz t) t (J4 _) x w6 2000 b4.zero zo) ?_;rintro v w7 ⟨rfl,h6⟩;have b6:Ju (fun _=>False) O4 w6 O4 w7:=aa (fun h=>h) O4 h6;have a2:=d0.upd b6 zo (fun h=>h);have f9:=e2.upd b6 zo (fun h=>h);have a1:=b1.trans (b6.mono (fun _ h=>h.elim) a0);have d1:=b4.upd b6;have h1:=e0.upd b6;refine zh ?_
   by_cases hz:2000<nsz t
   ·have hM:fh kn l=.bad 0 3:=by rw[e9,if_pos hz]
    rw[hM];refine zTH rfl ((decide_eq_true zo)) ?_;refine zv (aF vT (Jo _) rfl (by first|rfl|(simp only[JD,JK];rfl)) rfl rfl) ?_;refine zsa (us:=#[nI 0,nI 0,nS]) a2 (J0 _) ?_;have a7:=JE (us:=#[nI 0,nI 0,nS]) a2;have a3:Ju (fun k=>k=T) O4 w7 O4 (Jz w7 xb #[nI 0,nI 0,nS]):=J9 zo (JS a2) rfl;refine zh ?_;refine cg rfl rfl rfl rfl a7.cellsAdd (J8 _) (J0 _) ⟨aD (a1.trans (a3.mono (fun _ h=>JV h.symm) a0)) (fun b=>by have:=hT b;omega),rfl,zd⟩
   have hM:fh kn l=.ok t:=by rw[e9,if_neg hz]
   rw[hM];refine zFH rfl ((decide_eq_false zo)) ?_;refine zv (af (us:=aV x) f9.cellsAdd (J8 _) (J0 _) rfl) ?_;refine zc call153 (tM (nsz t) zo t (J4 _) B (mix O4 O) x w7 (h1.mix (h4.ext (aD a1 (fun b=>by have:=hT b;omega)))) d1.zero) ?_;rintro v w8 ⟨y,rfl,b3,h5⟩;have e4:Ju (fun _=>False) O4 w7 O4 w8:=aa (fun h=>h) O4 h5;have c7:=a2.upd e4 zo (fun h=>h);have d7:=a1.trans (e4.mono (fun _ h=>h.elim) a0);have f3:=b3.one;refine zsb (us:=#[nI y.1,nI y.2.1,y.2.2]) c7 (J0 _) (bZ f3) ?_;have f5:=c7.setRow (us:=#[nI y.1,nI y.2.1,y.2.2]);have g8:Ju (fun k=>k=T) O4 w8 O4 (w8.setRow xb #[nI y.1,nI y.2.1,y.2.2]):=J9 zo c7.tag rfl;have d9:Ju (fun k=>k=T) (mix O4 O) w8 (mix O4 O) (w8.setRow xb #[nI y.1,nI y.2.1,y.2.2]):=J9 zo (Fk c7.tag zo) rfl;have d6:=d7.trans (g8.mono (fun _ h=>JV h.symm) a0);refine zh ?_;refine cg rfl rfl rfl rfl f5.cellsAdd (J8 _) (J0 _) ⟨aD d6 (fun b=>by have:=hT b;omega),y,rfl,(b3.upd d9).weak (fun b hb=>Iv hb)⟩
  have hM:fh kn l=.bad (l.length-(au r).length) 4:=by unfold fh;rw[if_neg hl,hf];dsimp only;rw[if_pos e1]
  rw[hM]
  by_cases hc:(au r).headD 0=0
  ·refine zFH rfl ((by rw[hc];rfl)) ?_;refine zvH (RV.ld a9.r5 rfl) ?_
   refine az (d:=44) rfl (b':=true) (rfl) ?_;refine zh ?_
   refine zvH (RV.ld a9.r1 rfl) ?_;refine zvH (cf J1 rfl) ?_
   refine zTH rfl ((decide_eq_true zo)) ?_;refine zv (RV.ld a9.r1 rfl) ?_
   refine zc call152 (gk _ O4 w6 (T+1) rb l _ _ 0 ((l.length:Int)-((au r).length:Int)) 4 zo e0 a9) ?_;rintro v w7 ⟨_,b2,c5⟩;have a2:=d0.upd c5 zo zo;have a1:=b1.trans (c5.mono (fun _ h=>by rw[h];omega) a0);refine zh ?_
   refine zvH (RV.ld b2.r5 rfl) ?_;refine aR rfl rfl ?_
   have a5:=Jy b2;refine zh ?_;refine aG (fun W=>W.cell? ⟨rb,4,none⟩=some (nI ((l.length:Int)-((au r).length:Int)))/\W.cell? ⟨rb,5,none⟩=some (nI 4)) 12 rfl zk ?_;refine zin ⟨a5.r4,a5.r5⟩ fun zS=>?_
   refine zr 0 rfl zS (fun _=>aF vT (Jo _) rfl (by first|rfl|(simp only[JD,JK];rfl)) rfl rfl) ?_;refine zrm 1 rfl zS rfl ?_
   refine zr 2 rfl zS (fun _=>ao rfl) ?_;refine zrf 3 rfl zS rfl ?_
   refine zt 4 rfl zS (fun w1 a4=>RV.ld a4.1 rfl) ?_;refine zrm 5 rfl zS rfl ?_
   refine zr 6 rfl zS (fun _=>ao rfl) ?_;refine zrf 7 rfl zS rfl ?_
   refine zt 8 rfl zS (fun w1 a4=>RV.ld a4.2 rfl) ?_;refine Jn 9 zk rfl ?_
   refine zsa (us:=#[nI 0,nI 0,nS]) (Jy a2) (J0 _) ?_;have a7:=JE (us:=#[nI 0,nI 0,nS]) (Jy a2);have a3:Ju (fun k=>k=T) O4 (JB w7) O4 (Jz (JB w7) xb #[nI 0,nI 0,nS]):=J9 zo (JS a2) rfl;have b0:=Jh a5 a3 zo zo;refine zh ?_
   refine zaf (⟨b0.r4,b0.r5⟩) fun zS=>?_
   refine zra 10 rfl zS rfl ?_;refine zra 11 rfl zS rfl ?_
   refine JP zk ?_;refine zh ?_
   refine cg rfl rfl rfl rfl a7.cellsAdd (J8 _) (J0 _) ⟨aD ((a1.drew).trans (a3.mono (fun _ h=>JV h.symm) a0)) (fun b=>by have:=hT b;omega),?_⟩;exact⟨by rw[show(l.length:Int)-((au r).length:Int)=((l.length-(au r).length:Nat):Int)from by omega];rfl,zd⟩
  refine zTH rfl ((vq _ 0 zd hc)) ?_;refine zv (RV.ld a9.r1 rfl) ?_
  refine zc call152 (gk _ O4 w6 (T+1) rb l _ _ 0 ((l.length:Int)-((au r).length:Int)) 4 zo e0 a9) ?_;rintro v w7 ⟨_,b2,c5⟩;have a2:=d0.upd c5 zo zo;have a1:=b1.trans (c5.mono (fun _ h=>by rw[h];omega) a0);refine zh ?_
  refine zvH (RV.ld b2.r5 rfl) ?_;refine az (d:=44) rfl (b':=false) (rfl) ?_
  refine zh ?_;refine zFH rfl rfl ?_
  refine zvH (RV.ld b2.r5 rfl) ?_;refine aR rfl rfl ?_
  have a5:=Jy b2;refine zh ?_;refine aG (fun W=>W.cell? ⟨rb,4,none⟩=some (nI ((l.length:Int)-((au r).length:Int)))/\W.cell? ⟨rb,5,none⟩=some (nI 4)) 12 rfl zk ?_;refine zin ⟨a5.r4,a5.r5⟩ fun zS=>?_
  refine zr 0 rfl zS (fun _=>aF vT (Jo _) rfl (by first|rfl|(simp only[JD,JK];rfl)) rfl rfl) ?_;refine zrm 1 rfl zS rfl ?_
  refine zr 2 rfl zS (fun _=>ao rfl) ?_;refine zrf 3 rfl zS rfl ?_
  refine zt 4 rfl zS (fun w1 a4=>RV.ld a4.1 rfl) ?_;refine zrm 5 rfl zS rfl ?_
  refine zr 6 rfl zS (fun _=>ao rfl) ?_;refine zrf 7 rfl zS rfl ?_
  refine zt 8 rfl zS (fun w1 a4=>RV.ld a4.2 rfl) ?_;refine Jn 9 zk rfl ?_
  refine zsa (us:=#[nI 0,nI 0,nS]) (Jy a2) (J0 _) ?_;have a7:=JE (us:=#[nI 0,nI 0,nS]) (Jy a2);have a3:Ju (fun k=>k=T) O4 (JB w7) O4 (Jz (JB w7) xb #[nI 0,nI 0,nS]):=J9 zo (JS a2) rfl;have b0:=Jh a5 a3 zo zo;refine zh ?_
  refine zaf (⟨b0.r4,b0.r5⟩) fun zS=>?_
  refine zra 10 rfl zS rfl ?_;refine zra 11 rfl zS rfl ?_
  refine JP zk ?_;refine zh ?_
  refine cg rfl rfl rfl rfl a7.cellsAdd (J8 _) (J0 _) ⟨aD ((a1.drew).trans (a3.mono (fun _ h=>JV h.symm) a0)) (fun b=>by have:=hT b;omega),?_⟩;exact⟨by rw[show(l.length:Int)-((au r).length:Int)=((l.length-(au r).length:Nat):Int)from by omega];rfl,zd⟩
end Go.Proofs.YtjemhjcngaokpaaGreatDoor
end
namespace Go.Proofs.YtjemhjcngaokpaaGreatDoor
mutual
def eG:Nd->Int | .mk k _ l=>if k=6\/k=7 then -1 else if k=9 then 0 else if k=4\/k=5\/k=8 then gE (k==4) 0 l else 1
def gE:Bool->Int->List Nd->Int
 |_,acc,[]=>acc
 |s,acc,t::r=>if eG t<0 then -1 else gE s (if s=true then acc+eG t else max acc (eG t)) r
end
mutual
def CR(q:Int):Nd->Bool | .mk k _ l=>(k==q)||Fw q l
def Fw(q:Int):List Nd->Bool | []=>false|t::r=>CR q t||Fw q r
end
theorem CS(q:Int):∀(l:List Nd),jc (fun i=>CR q (nth l i)) l.length=Fw q l:=by
 intro l;rw[La,eL]
 induction l with
 |nil=>simp[Fw]
 |cons t r ih=>
  simp only[Fw,L9,<-ih,Jj]
  constructor
  ·rintro⟨i,hi,hq⟩
   cases i with
   |zero=>rw[ay]at hq;exact .inl hq
   |succ i=>rw[bA]at hq;exact .inr ⟨i,zo,hq⟩
  rintro(h|⟨i,hi,hq⟩)
  ·exact⟨0,zo,by rw[ay];exact h⟩
  exact⟨i+1,zo,by rw[bA];exact hq⟩
mutual
theorem mO:∀(t:Nd),eG t<=nsz t
 |.mk k c l=>by
  have h:=qQ l (k==4) 0 (Kz 0)
  unfold eG
  simp only[nsz]
  (repeat' split)<;>omega
theorem qQ:∀(l:List Nd) (s:Bool) (acc:Int),0<=acc->gE s acc l<=acc+dA l
 |[],s,acc,h=>by simp[gE,dA]
 |t::r,s,acc,h=>by
  have h1:=mO t
  unfold gE
  simp only[dA]
  split
  ·omega
  split
  ·have h2:=qQ r s (acc+eG t) zo
   omega
  have h2:=qQ r s (max acc (eG t)) zo
  omega
end
theorem lM{l:List Nd}{i:Nat}(h:i<l.length):l.drop i=nth l i::l.drop (i+1):=by
 rw[Kv h,aB h]
theorem gh:∀(n:Nat),n<=1000000->∀(t:Nd),nsz t<=n->∀(x:N3) (w:ix),Nt (fun _=>0) w t x->KD Jp 140 [nv x] w fun v w'=>v=nI (eG t)/\Kb w w'
 |0,_,t,hn=>by have:=dJ t;omega
 |n+1,hm,.mk k c kids,hn=>by
  intro x w h;have c9:=h.ones;obtain⟨xs,hs,hf,hl,hk⟩:=h.kids;simp only[Nf]at hl hk;simp only[nsz]at hn;have c':=eV kids;generalize x.2.2=sv at *;subst c9;simp only[NT,Nd.cls];have hM:eG (.mk k c kids)=if k=6\/k=7 then -1 else if k=9 then 0 else if k=4\/k=5\/k=8 then gE (k==4) 0 kids else 1:=rfl
  rw[hM];refine J3 func140 ntmps140 rfl rfl ?_;refine zh ?_;refine aE (ar w) 1 zo rfl rfl ?_;intro xb w1 O1 b7 d0 d1 a4;have c0:w1.cell? (nA xb 0)=some (nI k):=b7.cell 0 rfl;have c2:w1.cell? (nA xb 2)=some sv:=b7.cell 2 rfl;have b6:=hs.ext a4;refine zh ?_
  by_cases h6:k=6
  ·subst h6;refine zTH rfl rfl ?_;refine zTH rfl rfl ?_;refine ah rfl rfl (⟨rfl,a4⟩)
  refine zFH rfl ((beq_eq_false_iff_ne.2 h6)) ?_
  by_cases h7:k=7
  ·subst h7;refine zTH rfl rfl ?_;refine ah rfl rfl (⟨rfl,a4⟩)
  rw[if_neg zo];refine zFH rfl ((beq_eq_false_iff_ne.2 h7)) ?_
  by_cases h9:k=9
  ·subst h9;refine zTH rfl rfl ?_;refine ah rfl rfl (⟨rfl,a4⟩)
  rw[if_neg h9];refine zFH rfl ((beq_eq_false_iff_ne.2 h9)) ?_
  by_cases h4:k=4
  ·subst h4;rw[if_pos zo];refine zTH rfl rfl ?_;refine zTH rfl rfl ?_;refine zlp (fun y:Nat×Int×ix=>[(2,nI 0),(3,nI y.2.1),(1,nP xb),(19,sv),(20,nI xs.length),(21,nI y.1)]) (fun y=>y.2.2) (fun y=>y.1<=xs.length/\0<=y.2.1/\y.2.1<=dA (kids.take y.1)/\gE ((4:Int)==4) y.2.1 (kids.drop y.1)=gE ((4:Int)==4) 0 kids/\Kb w1 y.2.2) (fun y=>xs.length-y.1) (0,0,w1) (⟨Js _,Kz _,by simp[dA],rfl,Jl _⟩) ?_;rintro⟨i,a7,w2⟩ ⟨hi,b2,ha,hL,a3⟩;dsimp only at hi b2 ha hL a3 ⊢;have b0:=b6.ext a3;refine zh ?_;refine zC ?_ ?_
   ·intro a2;replace a2:i<xs.length:=dT a2;have a8:=(hk i a2).ext (a4.trans a3);have a':=a8.one;have c5:=cu kids i zo;have b9:=dY kids i zo;have b8:=cB kids (i+1);have b':=mO (nth kids i);rw[lM zo]at hL;have b4:gE ((4:Int)==4) a7 (nth kids i::kids.drop (i+1))=if eG (nth kids i)<0 then -1 else gE ((4:Int)==4) (if((4:Int)==4)=true then a7+eG (nth kids i)else max a7 (eG (nth kids i))) (kids.drop (i+1)):=rfl
    rw[b4]at hL;refine zh ?_;refine zv (af (us:=aV (nth xs i)) (fun j u hu=>b0.cell a2 hu) (J8 _) (J0 _) rfl) ?_;refine aw (ar w2) 1 zo (Jo _) rfl ?_;intro kb w3 O3 a6 b3 c6 c7;refine zsb (us:=#[nI (nth xs i).1,nI (nth xs i).2.1,(nth xs i).2.2]) a6 (J0 _) (bZ a') ?_;have a5:=a6.setRow (us:=#[nI (nth xs i).1,nI (nth xs i).2.1,(nth xs i).2.2]);have a9:Kb w2 (w3.setRow kb #[nI (nth xs i).1,nI (nth xs i).2.1,(nth xs i).2.2]):=(b3.trans (J9 zd a6.tag rfl)).ext;generalize w3.setRow kb #[nI (nth xs i).1,nI (nth xs i).2.1,(nth xs i).2.2]=w4 at *;refine zh ?_;refine zv (af (us:=aV (nth xs i)) a5.cellsAdd (J8 _) (J0 _) rfl) ?_;refine zc MX (gh n zo (nth kids i) zo (nth xs i) w4 (a8.ext a9)) ?_;rintro v w5 ⟨rfl,b5⟩;have a1:=(a3.trans a9).trans b5;have c8:w5.cell? (nA xb 0)=some (nI 4):=a1.cell c0;refine zh ?_
    by_cases a0:eG (nth kids i)<0
    ·rw[if_pos a0]at hL;refine zTH rfl ((decide_eq_true a0)) ?_;refine ah rfl rfl (⟨by rw[<-hL],a4.trans a1⟩)
    rw[if_neg a0]at hL;refine zFH rfl ((decide_eq_false a0)) ?_;refine zTH rfl rfl ?_;refine zxd (i+1,_,w5) (⟨a2,by dsimp only;omega,by dsimp only;omega,hL,a1⟩)
   intro b1;obtain rfl:i=xs.length:=dF b1;rw[K4 zo]at hL;refine zh ?_;refine ah rfl rfl (⟨by rw[<-hL];rfl,a4.trans a3⟩)
  refine aN rfl ((beq_eq_false_iff_ne.2 h4)) ?_;have hk4b:(k==4)=false:=beq_eq_false_iff_ne.2 h4;refine zh ?_
  by_cases h5:k=5
  ·subst h5;rw[if_pos zo];refine zTH rfl rfl ?_;refine zTH rfl rfl ?_;refine zlp (fun y:Nat×Int×ix=>[(2,nI 0),(3,nI y.2.1),(1,nP xb),(19,sv),(20,nI xs.length),(21,nI y.1)]) (fun y=>y.2.2) (fun y=>y.1<=xs.length/\0<=y.2.1/\y.2.1<=dA (kids.take y.1)/\gE ((5:Int)==4) y.2.1 (kids.drop y.1)=gE ((5:Int)==4) 0 kids/\Kb w1 y.2.2) (fun y=>xs.length-y.1) (0,0,w1) (⟨Js _,Kz _,by simp[dA],rfl,Jl _⟩) ?_;rintro⟨i,a7,w2⟩ ⟨hi,b2,ha,hL,a3⟩;dsimp only at hi b2 ha hL a3 ⊢;have b0:=b6.ext a3;refine zh ?_;refine zC ?_ ?_
   ·intro a2;replace a2:i<xs.length:=dT a2;have a8:=(hk i a2).ext (a4.trans a3);have a':=a8.one;have c5:=cu kids i zo;have b9:=dY kids i zo;have b8:=cB kids (i+1);have b':=mO (nth kids i);rw[lM zo]at hL;have b4:gE ((5:Int)==4) a7 (nth kids i::kids.drop (i+1))=if eG (nth kids i)<0 then -1 else gE ((5:Int)==4) (if((5:Int)==4)=true then a7+eG (nth kids i)else max a7 (eG (nth kids i))) (kids.drop (i+1)):=rfl
    rw[b4]at hL;refine zh ?_;refine zv (af (us:=aV (nth xs i)) (fun j u hu=>b0.cell a2 hu) (J8 _) (J0 _) rfl) ?_;refine aw (ar w2) 1 zo (Jo _) rfl ?_;intro kb w3 O3 a6 b3 c6 c7;refine zsb (us:=#[nI (nth xs i).1,nI (nth xs i).2.1,(nth xs i).2.2]) a6 (J0 _) (bZ a') ?_;have a5:=a6.setRow (us:=#[nI (nth xs i).1,nI (nth xs i).2.1,(nth xs i).2.2]);have a9:Kb w2 (w3.setRow kb #[nI (nth xs i).1,nI (nth xs i).2.1,(nth xs i).2.2]):=(b3.trans (J9 zd a6.tag rfl)).ext;generalize w3.setRow kb #[nI (nth xs i).1,nI (nth xs i).2.1,(nth xs i).2.2]=w4 at *;refine zh ?_;refine zv (af (us:=aV (nth xs i)) a5.cellsAdd (J8 _) (J0 _) rfl) ?_;refine zc MX (gh n zo (nth kids i) zo (nth xs i) w4 (a8.ext a9)) ?_;rintro v w5 ⟨rfl,b5⟩;have a1:=(a3.trans a9).trans b5;have c8:w5.cell? (nA xb 0)=some (nI 5):=a1.cell c0;refine zh ?_
    by_cases a0:eG (nth kids i)<0
    ·rw[if_pos a0]at hL;refine zTH rfl ((decide_eq_true a0)) ?_;refine ah rfl rfl (⟨by rw[<-hL],a4.trans a1⟩)
    rw[if_neg a0]at hL;refine zFH rfl ((decide_eq_false a0)) ?_;refine zFH rfl rfl ?_;refine zvH (jN rfl rfl) ?_;refine zxd (i+1,_,w5) (⟨a2,by dsimp only;omega,by dsimp only;omega,hL,a1⟩)
   intro b1;obtain rfl:i=xs.length:=dF b1;rw[K4 zo]at hL;refine zh ?_;refine ah rfl rfl (⟨by rw[<-hL];rfl,a4.trans a3⟩)
  refine zFH rfl ((beq_eq_false_iff_ne.2 h5)) ?_
  by_cases h8:k=8
  ·subst h8;rw[if_pos zo];refine zTH rfl rfl ?_;refine zlp (fun y:Nat×Int×ix=>[(2,nI 0),(3,nI y.2.1),(1,nP xb),(19,sv),(20,nI xs.length),(21,nI y.1)]) (fun y=>y.2.2) (fun y=>y.1<=xs.length/\0<=y.2.1/\y.2.1<=dA (kids.take y.1)/\gE ((8:Int)==4) y.2.1 (kids.drop y.1)=gE ((8:Int)==4) 0 kids/\Kb w1 y.2.2) (fun y=>xs.length-y.1) (0,0,w1) (⟨Js _,Kz _,by simp[dA],rfl,Jl _⟩) ?_;rintro⟨i,a7,w2⟩ ⟨hi,b2,ha,hL,a3⟩;dsimp only at hi b2 ha hL a3 ⊢;have b0:=b6.ext a3;refine zh ?_;refine zC ?_ ?_
   ·intro a2;replace a2:i<xs.length:=dT a2;have a8:=(hk i a2).ext (a4.trans a3);have a':=a8.one;have c5:=cu kids i zo;have b9:=dY kids i zo;have b8:=cB kids (i+1);have b':=mO (nth kids i);rw[lM zo]at hL;have b4:gE ((8:Int)==4) a7 (nth kids i::kids.drop (i+1))=if eG (nth kids i)<0 then -1 else gE ((8:Int)==4) (if((8:Int)==4)=true then a7+eG (nth kids i)else max a7 (eG (nth kids i))) (kids.drop (i+1)):=rfl
    rw[b4]at hL;refine zh ?_;refine zv (af (us:=aV (nth xs i)) (fun j u hu=>b0.cell a2 hu) (J8 _) (J0 _) rfl) ?_;refine aw (ar w2) 1 zo (Jo _) rfl ?_;intro kb w3 O3 a6 b3 c6 c7;refine zsb (us:=#[nI (nth xs i).1,nI (nth xs i).2.1,(nth xs i).2.2]) a6 (J0 _) (bZ a') ?_;have a5:=a6.setRow (us:=#[nI (nth xs i).1,nI (nth xs i).2.1,(nth xs i).2.2]);have a9:Kb w2 (w3.setRow kb #[nI (nth xs i).1,nI (nth xs i).2.1,(nth xs i).2.2]):=(b3.trans (J9 zd a6.tag rfl)).ext;generalize w3.setRow kb #[nI (nth xs i).1,nI (nth xs i).2.1,(nth xs i).2.2]=w4 at *;refine zh ?_;refine zv (af (us:=aV (nth xs i)) a5.cellsAdd (J8 _) (J0 _) rfl) ?_;refine zc MX (gh n zo (nth kids i) zo (nth xs i) w4 (a8.ext a9)) ?_;rintro v w5 ⟨rfl,b5⟩;have a1:=(a3.trans a9).trans b5;have c8:w5.cell? (nA xb 0)=some (nI 8):=a1.cell c0;refine zh ?_
    by_cases a0:eG (nth kids i)<0
    ·rw[if_pos a0]at hL;refine zTH rfl ((decide_eq_true a0)) ?_;refine ah rfl rfl (⟨by rw[<-hL],a4.trans a1⟩)
    rw[if_neg a0]at hL;refine zFH rfl ((decide_eq_false a0)) ?_;refine zFH rfl rfl ?_;refine zvH (jN rfl rfl) ?_;refine zxd (i+1,_,w5) (⟨a2,by dsimp only;omega,by dsimp only;omega,hL,a1⟩)
   intro b1;obtain rfl:i=xs.length:=dF b1;rw[K4 zo]at hL;refine zh ?_;refine ah rfl rfl (⟨by rw[<-hL];rfl,a4.trans a3⟩)
  rw[if_neg zo];refine zFH rfl ((beq_eq_false_iff_ne.2 h8)) ?_;refine ah rfl rfl (⟨rfl,a4⟩)
def yj(t:Nd):Int:=if bO t=true then max (eG t) 0 else 0
def AC(t:Nd):Bool:=bO t&&decide (0<=eG t)
theorem oM(t:Nd)(x:N3)(w:ix)(h:Nt (fun _=>0) w t x):KD Jp 106 [nv x] w fun v w'=>v=.tuple #[nI (yj t),.bool (AC t)]/\Kb w w':=by
 refine J3 func106 ntmps106 rfl rfl ?_;refine zh ?_
 refine aE (ar w) 1 zo rfl rfl ?_;intro xb w1 O1 a3 a5 a6 a1;have a2:∀W,Kb w1 W->∀(j:Nat) (u:ka),(aV x)[j]? = some u->W.cell? (nA xb j)=some u:=fun W hE j u hu=>hE.cell (a3.cellsAdd j u hu)
 refine zh ?_;refine zv (af (us:=aV x) (a2 w1 (Jl _)) (J8 _) (J0 _) rfl) ?_
 refine zc Nl (fD t x w1 (h.ext a1)) ?_;rintro v w2 ⟨rfl,a0⟩;refine zh ?_
 cases hr:bO t with
 |false=>
  refine zTH rfl rfl ?_;refine bx rfl rfl rfl (⟨by simp[yj,AC,hr],a1.trans a0⟩)
 |true=>
  have hz:nsz t<=2000:=by
   simp only[bO,J6,decide_eq_true_eq]at hr;exact hr.1
  refine zFH rfl rfl ?_;refine zv (af (us:=aV x) (a2 w2 a0) (J8 _) (J0 _) rfl) ?_
  refine zc MX (gh (nsz t) zo t (J4 _) x w2 (h.ext (a1.trans a0))) ?_;rintro v w3 ⟨rfl,a4⟩;refine zh ?_
  refine zvH (jN rfl rfl) ?_;refine bx rfl rfl rfl (⟨by simp[yj,AC,hr],(a1.trans a0).trans a4⟩)
theorem Fx{b:Bool}{q:Int}{t:Nd}{kb:Nat}(ih:∀(y:N3) (W:ix),Nt (fun _=>0) W t y->KD Jp 141 [nv y,nI q] W fun v w'=>v=.bool b/\Kb W w')(x:N3)(w:ix)(h:Nt (fun _=>0) w t x)(hq:w.cell? ⟨kb,0,none⟩=some (nI q)):
  KD Jp 161 [nv x,nP kb] w fun v w'=>v=.bool b/\Kb w w':=by
 refine J3 func161 ntmps161 rfl rfl ?_;refine zh ?_
 refine aE (ar w) 1 zo rfl rfl ?_;intro xb w1 O1 a1 a4 a5 a0;have a3:=a0.cell hq;refine zh ?_
 refine zvH (af (us:=aV x) a1.cellsAdd (J8 _) (J0 _) rfl) ?_;refine zc call141 (ih x w1 (h.ext a0)) ?_
 rintro v w2 ⟨rfl,a2⟩;refine zh ?_;refine ah rfl rfl (⟨rfl,a0.trans a2⟩)
theorem A2:∀(n:Nat) (t:Nd),nsz t<=n->∀(x:N3) (w:ix) (q:Int),Nt (fun _=>0) w t x->KD Jp 141 [nv x,nI q] w fun v w'=>v=.bool (CR q t)/\Kb w w'
 |0,t,hn=>by have:=dJ t;omega
 |n+1,.mk k c kids,hn=>by
  intro x w q h;have a6:=h.ones;obtain⟨xs,hs,hf,hl,hk⟩:=h.kids;simp only[Nf]at hl hk;simp only[nsz]at hn;generalize x.2.2=sv at *;subst a6;simp only[NT,Nd.cls];have hM:CR q (.mk k c kids)=((k==q)||Fw q kids):=rfl;rw[hM];refine J3 func141 ntmps141 rfl rfl ?_;refine zh ?_;refine aE (ar w) 1 zo rfl rfl ?_;intro xb w1 O1 a5 b1 a9 b0;refine aE a9 2 zo rfl rfl ?_;intro kb w2 O2 a7 a8 b2 a';have a3:=a5.upd a8 zd zd;have a0:=b0.trans a';have c0:w2.cell? (nA xb 0)=some (nI k):=a3.cell 0 rfl;have c2:w2.cell? (nA xb 2)=some sv:=a3.cell 2 rfl;have cq:w2.cell? ⟨kb,0,none⟩=some (nI q):=a7.cell 0 rfl;refine zh ?_;refine bN (Kb w2) (Fw q kids) 4 (Jl _) rfl rfl rfl rfl rfl ?_ ?_
  ·intro a1;refine zh ?_;refine zvH (dw rfl rfl) ?_;refine zc call63 (cQ call161 #[nP kb] xs sv (fun i=>CR q (nth kids i)) w2 (hs.ext a0) (fun i hi w' hE=>Fx (fun y W hy=>A2 n (nth kids i) (by have:=cu kids i (zo);omega) y W q hy) (nth xs i) w' ((hk i hi).ext (a0.trans hE)) (hE.cell cq))) ?_;have a4:=CS q kids;rw[hl]at a4;rw[a4];rintro v w3 ⟨rfl,a2⟩;refine zh ?_;refine nE 9 5 (a2) a1
  intro w3 a2;refine zh ?_;refine ah rfl rfl (⟨rfl,a0.trans a2⟩)
theorem yu(t:Nd)(q:Int)(x:N3)(w:ix)(h:Nt (fun _=>0) w t x):KD Jp 107 [nv x,nI q] w fun v w'=>v=.bool (bO t&&CR q t)/\Kb w w':=by
 refine J3 func107 ntmps107 rfl rfl ?_;refine zh ?_
 refine aE (ar w) 1 zo rfl rfl ?_;intro xb w1 O1 a5 a6 a7 a3;have a4:∀W,Kb w1 W->∀(j:Nat) (u:ka),(aV x)[j]? = some u->W.cell? (nA xb j)=some u:=fun W hE j u hu=>hE.cell (a5.cellsAdd j u hu)
 refine zh ?_;refine zv (af (us:=aV x) (a4 w1 (Jl _)) (J8 _) (J0 _) rfl) ?_
 refine zc Nl (fD t x w1 (h.ext a3)) ?_;rintro v w2 ⟨rfl,a0⟩;refine zh ?_
 refine bG (Kb w1) (CR q t) 3 (a0) rfl rfl rfl rfl rfl ?_ ?_
 ·intro a1;refine zh ?_;refine zvH (af (us:=aV x) (a4 _ a0) (J8 _) (J0 _) rfl) ?_;refine zc call141 (A2 (nsz t) t (J4 _) x _ q (h.ext (a3.trans a0))) ?_;rintro v w3 ⟨rfl,a2⟩;refine zh ?_;refine nE 7 4 (a0.trans a2) a1
 intro w3 a2;refine zh ?_;refine ah rfl rfl (⟨rfl,a3.trans a2⟩)
end Go.Proofs.YtjemhjcngaokpaaGreatDoor
namespace Go.VL
section
variable{P:JH}{N:Nat}{ops:Array KF}{Q:LN→N8→ix→Prop}{rest:List KF}{st:St}{w:ix}
variable{t:J7}{p:String}{e:Array Ma}{d:Nat}{x y z:Kj}
theorem Ext.iter(w:ix)(s:ByteArray)(a0:Nat):Kb w (w.iter s a0):=Ext.alloc w _
theorem tX{xt:J7}{l:List UInt8}(hT:P.underlying xt=some .string)(hx:ev st x=some (.string (bs l)))(hd:Kd d N=true) 
  (h:WL P N ops Q rest ((d,.pointer (some ⟨w.heap.size,0,none⟩))::st) (w.iter (bs l) 0)):WL P N ops Q (⟨some d,.range xt x,t,p,e,none⟩::rest) st w:=
 KQ hd (fun a ha=>by
  simp only[execOp,ha.ev hx,J2,run_range_string w xt (bs l) hT,ln]
  rfl) h
theorem C9{l:List UInt8}{a0:Nat}{c:UInt8}{w0:ix}(hx:ev st x=some (.pointer (some ⟨w0.heap.size,0,none⟩)))(hc:l[a0]? = some c)(ha:c.toNat<128)(hd:Kd d N=true) 
  (h:WL P N ops Q rest ((d,.tuple #[.bool true,nI (a0:Nat),.int .i32 (c.toNat:Int)])::st) (w0.iter (bs l) (a0+1))):WL P N ops Q (⟨some d,.next x true,t,p,e,none⟩::rest) st (w0.iter (bs l) a0):=by
 obtain⟨a2,hv⟩:=JX.1 hc;have hs:a0<(bs l).size:=by rw[cZ];exact a2
 have he:(bs l)[a0]'hs=c:=by rw[<-hv];exact M0 (xs:=l) (i:=a0) a2
 have a1:=run_next_ascii (P:=P) w0 (bs l) a0 t hs (by rw[he];exact ha);rw[he]at a1
 exact KQ hd (fun a ha=>by
  simp only[execOp,ha.ev hx,J2,a1,ln]
  rfl) h
theorem C8{l:List UInt8}{a0:Nat}{w0:ix}(hx:ev st x=some (.pointer (some ⟨w0.heap.size,0,none⟩)))(hp:l.length<=a0)(hd:Kd d N=true) 
  (h:WL P N ops Q rest ((d,.tuple #[.bool false])::st) (w0.iter (bs l) a0)):WL P N ops Q (⟨some d,.next x true,t,p,e,none⟩::rest) st (w0.iter (bs l) a0):=by
 have hs:¬a0<(bs l).size:=by rw[cZ];omega
 have a1:=run_next_end (P:=P) w0 (bs l) a0 t hs
 exact KQ hd (fun a ha=>by
  simp only[execOp,ha.ev hx,J2,a1,ln]
  rfl) h
end
section
variable{P:JH}{N:Nat}{ops:Array KF}{Q:LN→N8→ix→Prop}{rest:List KF}{st:St}{w:ix}
variable{t:J7}{p:String}{e:Array Ma}{d:Nat}{x y z:Kj}
theorem iy{α:Type}{c:Code}(f:α->St)(g:α->ix)(I:α->Prop)(h1:∀Q',(∀z,I z->QF N Q' .normal (f z) (g z))->WC P N c Q' st w)(h2:∀z,I z->QF N Q .normal (f z) (g z)):WC P N c Q st w:=h1 Q h2
theorem iC{e:LN}{a0:St}{w':ix}(h:QF N Q e a0 w')(hc:Cov st a0)(hw:w'=w):QF N Q e st w:=by subst hw;exact h.weaken hc
theorem kV{T:J7}{O:Nat->Nat}{i b:Nat}{cs us:Array ka}{E:J7}(off:Nat)(hb:JI O w i b cs E)(hs:off+us.size<=cs.size)(hT:(Ni T).run P w=.ok us.size w)(h1:us.toList.all JQ=true) 
  {q:MM} (hx:ev st x=some (.pointer (some q))) (hq:q=⟨b,off,none⟩) (hy:ev st y=some (.agg us))
  (h:WL P N ops Q rest st (w.setRow b (cs.toList.take off++us.toList++cs.toList.drop (off+us.size)).toArray)):WL P N ops Q (⟨none,.store T x y,t,p,e,none⟩::rest) st w:=
 ir (fun a ha=>by
  subst hq;have a0:(Ln T (.pointer (some ⟨b,off,none⟩)) (.agg us)).run P w=.ok () (w.setRow b (cs.toList.take off++us.toList++cs.toList.drop (off+us.size)).toArray):=by
   have:=run_storeCells_at P b off E us.toList 0 cs w hb.blk (by simpa using hs) (My.1 h1);simp only[Nat.add_zero,M4]at this;simp only[Ln,MK,storeVar,J2,Jr,ln,LA,hT];simpa using this
  simp only[execOp,ha.ev hx,ha.ev hy,J2,a0,ln,Jr]) h
end
def lowT(O:Nat->Nat)(T:Nat):Nat->Nat:=fun b=>if T<=O b then 0 else O b
theorem Upd.lowT{S:Nat->Prop}{T:Nat}{O O2:Nat->Nat}{w w':ix}(h:Ju S O w O2 w')(hT:∀b,O b<T){S':Nat->Prop}(hS:∀b,S (O b)->S' (O b))(hz:¬S' 0):Ju S' O w (lowT O2 T) w':=
 ⟨h.os,h.tape,h.output,h.size,fun b hb hn=>h.blk b hb fun hs=>hn (hS b hs),fun b hb=>by
  have h1:=h.tag b hb;have:=hT b;unfold Go.VL.lowT;rw[if_neg zo];exact h1,fun b hb=>by
  unfold Go.VL.lowT at hb
  split at hb
  ·exact absurd rfl hb
  exact h.new b hb,hz⟩
theorem Rng.lowT{B:Nat}{O:Nat->Nat}{w:ix}(h:KV B O w)(T:Nat):KV B (lowT O T) w:=⟨h.le,fun b hb=>by
 unfold Go.VL.lowT at hb
 split at hb
 ·exact absurd rfl hb
 exact h.rng b hb⟩
theorem BlkO.lowT{O:Nat->Nat}{w:ix}{i b:Nat}{cs:Array ka}{E:J7}(h:JI O w i b cs E){T:Nat}(hi:i<T):JI (lowT O T) w i b cs E:=⟨h.blk,by unfold Go.VL.lowT;rw[h.tag,if_neg zo]⟩
theorem RowT.lowT{α:Type}{enc:α->List ka}{O:Nat->Nat}{w:ix}{i:Nat}{E:J7}{sz:Nat}{v:ka}{l:List α}(h:JZ enc E sz O w i v l){T:Nat}(hi:i<T):JZ enc E sz (lowT O T) w i v l:=
 ⟨⟨h.1.row,fun g hg=>by unfold Go.VL.lowT;rw[h.1.tag g hg,if_neg zo]⟩,h.2⟩
theorem jh{O:Nat->Nat}{T b:Nat}(h:O b=0):lowT O T b=0:=by unfold lowT;split<;>simp[h]
end Go.VL
section
namespace Go.VL
structure LS where
 l:List UInt8
 pos:Int
 to:Int
 bg:Int
 bad:Int
 e:Int
 ig:ka
 kp:ka
 ru:ka
 mc:ka
 i:Bool
 k:Bool
def LS.cells(s:LS):Array ka:=#[.string (bs s.l),nI s.pos,nI s.to,nI s.bg,nI s.bad,nI s.e,s.ig,s.kp,s.ru,s.mc,.bool s.i,.bool s.k]
theorem BlkO.q0{O:Nat->Nat}{w:ix}{j rb:Nat}{s:LS}{E:J7}(h:JI O w j rb s.cells E):w.cell? ⟨rb,0,none⟩=some (.string (bs s.l)):=h.cell 0 rfl
theorem BlkO.q1{O:Nat->Nat}{w:ix}{j rb:Nat}{s:LS}{E:J7}(h:JI O w j rb s.cells E):w.cell? ⟨rb,1,none⟩=some (nI s.pos):=h.cell 1 rfl
theorem BlkO.q2{O:Nat->Nat}{w:ix}{j rb:Nat}{s:LS}{E:J7}(h:JI O w j rb s.cells E):w.cell? ⟨rb,2,none⟩=some (nI s.to):=h.cell 2 rfl
theorem BlkO.q3{O:Nat->Nat}{w:ix}{j rb:Nat}{s:LS}{E:J7}(h:JI O w j rb s.cells E):w.cell? ⟨rb,3,none⟩=some (nI s.bg):=h.cell 3 rfl
theorem BlkO.q4{O:Nat->Nat}{w:ix}{j rb:Nat}{s:LS}{E:J7}(h:JI O w j rb s.cells E):w.cell? ⟨rb,4,none⟩=some (nI s.bad):=h.cell 4 rfl
theorem BlkO.q5{O:Nat->Nat}{w:ix}{j rb:Nat}{s:LS}{E:J7}(h:JI O w j rb s.cells E):w.cell? ⟨rb,5,none⟩=some (nI s.e):=h.cell 5 rfl
theorem BlkO.q6{O:Nat->Nat}{w:ix}{j rb:Nat}{s:LS}{E:J7}(h:JI O w j rb s.cells E):w.cell? ⟨rb,6,none⟩=some (s.ig):=h.cell 6 rfl
theorem BlkO.q7{O:Nat->Nat}{w:ix}{j rb:Nat}{s:LS}{E:J7}(h:JI O w j rb s.cells E):w.cell? ⟨rb,7,none⟩=some (s.kp):=h.cell 7 rfl
theorem BlkO.q8{O:Nat->Nat}{w:ix}{j rb:Nat}{s:LS}{E:J7}(h:JI O w j rb s.cells E):w.cell? ⟨rb,8,none⟩=some (s.ru):=h.cell 8 rfl
theorem BlkO.q9{O:Nat->Nat}{w:ix}{j rb:Nat}{s:LS}{E:J7}(h:JI O w j rb s.cells E):w.cell? ⟨rb,9,none⟩=some (s.mc):=h.cell 9 rfl
theorem BlkO.q10{O:Nat->Nat}{w:ix}{j rb:Nat}{s:LS}{E:J7}(h:JI O w j rb s.cells E):w.cell? ⟨rb,10,none⟩=some (.bool s.i):=h.cell 10 rfl
theorem BlkO.q11{O:Nat->Nat}{w:ix}{j rb:Nat}{s:LS}{E:J7}(h:JI O w j rb s.cells E):w.cell? ⟨rb,11,none⟩=some (.bool s.k):=h.cell 11 rfl
theorem BlkO.s_pos{O:Nat->Nat}{w:ix}{j rb:Nat}{s:LS}{E:J7}(h:JI O w j rb s.cells E)(a':Int):JI O (w.setCell ⟨rb,1,none⟩ (nI a')) j rb ({s with pos:=a'}:LS).cells E:=h.set 1 _
theorem BlkO.s_to{O:Nat->Nat}{w:ix}{j rb:Nat}{s:LS}{E:J7}(h:JI O w j rb s.cells E)(a':Int):JI O (w.setCell ⟨rb,2,none⟩ (nI a')) j rb ({s with to:=a'}:LS).cells E:=h.set 2 _
theorem BlkO.s_bg{O:Nat->Nat}{w:ix}{j rb:Nat}{s:LS}{E:J7}(h:JI O w j rb s.cells E)(a':Int):JI O (w.setCell ⟨rb,3,none⟩ (nI a')) j rb ({s with bg:=a'}:LS).cells E:=h.set 3 _
theorem BlkO.s_bad{O:Nat->Nat}{w:ix}{j rb:Nat}{s:LS}{E:J7}(h:JI O w j rb s.cells E)(a':Int):JI O (w.setCell ⟨rb,4,none⟩ (nI a')) j rb ({s with bad:=a'}:LS).cells E:=h.set 4 _
theorem BlkO.s_e{O:Nat->Nat}{w:ix}{j rb:Nat}{s:LS}{E:J7}(h:JI O w j rb s.cells E)(a':Int):JI O (w.setCell ⟨rb,5,none⟩ (nI a')) j rb ({s with e:=a'}:LS).cells E:=h.set 5 _
theorem BlkO.s_ru{O:Nat->Nat}{w:ix}{j rb:Nat}{s:LS}{E:J7}(h:JI O w j rb s.cells E)(a':ka):JI O (w.setCell ⟨rb,8,none⟩ a') j rb ({s with ru:=a'}:LS).cells E:=h.set 8 _
end Go.VL
namespace Go.Proofs.YtjemhjcngaokpaaGreatDoor
open Go.VL Go.Proofs
set_option maxRecDepth 10000
abbrev Rd6(O:Nat->Nat)(w:ix)(j rb:Nat)(s:LS):Prop:=JI O w j rb s.cells 128
theorem mM{l:List UInt8}{m i:Nat}{c:UInt8}(h:(l.take m)[i]? = some c):l[i]? = some c:=by
 rw[List.getElem?_take]at h
 split at h
 ·exact h
 cases h
theorem dI(O:Nat->Nat)(w:ix)(j rb:Nat)(s:LS)(m:Nat)(r:List UInt8)(hj:j≠0)(hm:m<=s.l.length)(hl:s.l.length<=100000)(a3:s.to=(m:Int))(hr:r <:+ s.l.take m)(hp:s.pos=(m:Int)-(r.length:Int))(h:Rd6 O w j rb s):
  KD Jp 92 [nP rb] w fun v w'=>v=.bool (decide (0<(au r).length))/\Rd6 O w' j rb {s with pos:=(m:Int)-((au r).length:Int)}/\Ju (fun k=>k=j) O w O w':=by
 have hz:¬(fun k:Nat=>k=j) 0:=fun e=>hj e.symm
 have a9:(s.l.take m).length=m:=by simp;omega
 have h0:Rd6 O w j rb {s with pos:=(m:Int)-(r.length:Int)}:=by rw[<-hp];exact h
 refine J3 func92 ntmps92 rfl rfl ?_;refine zh ?_
 refine zlp (fun x:List UInt8×ix=>[(0,nP rb)]) (fun x=>x.2) (fun x=>x.1 <:+ s.l.take m/\au x.1=au r/\Rd6 O x.2 j rb {s with pos:=(m:Int)-(x.1.length:Int)}/\Ju (fun k=>k=j) O w O x.2) (fun x=>x.1.length) (r,w) (⟨hr,rfl,h0,K6 hz _ _⟩) ?_;rintro⟨r1,w1⟩ ⟨a4,a2,a7,a5⟩;dsimp only at a4 a2 a7 a5 ⊢;have a0:=a7.drew;have a8:=a4.length_le;refine zh ?_
 refine Ke zk zk ?_;refine zh ?_
 refine zwH (RV.ld a0.q1 rfl) ?_;refine zwH (RV.ld a0.q2 rfl) ?_
 cases r1 with
 |nil=>
  refine cd (d:=12) rfl (b':=false) (decide_eq_false (by simp[a3])) ?_;have a1:=a0.drew;refine zh ?_
  refine zw (bC rfl rfl) ?_;refine Kc ?_
  refine zh ?_;refine zFH rfl rfl ?_
  refine Ke zk zk ?_;refine zh ?_
  refine zwH (RV.ld a1.q1 rfl) ?_;refine zwH (RV.ld a1.q2 rfl) ?_
  refine Kc ?_;refine zh ?_
  refine ah rfl rfl (⟨by rw[<-a2];simp[a3,au],by rw[<-a2];exact a1,a5.drew.drew⟩)
 |cons b r2=>
  simp only[Jj]at a8 a0;refine cd (d:=12) rfl (b':=true) (decide_eq_true (by simp only[Jj,a3];omega)) ?_;refine zh ?_;refine zwH (RV.ld a0.q0 rfl) ?_;refine zwH (RV.ld a0.q1 rfl) ?_;refine zwH (bj (c:=b) J1 rfl rfl (m-(r2.length+1)) (by dsimp only;omega) (mM (by have:=mV a4;rwa[a9]at this))) ?_;refine zw (bB rfl rfl) ?_;refine Kc ?_;refine zh ?_;refine zC ?_ ?_
  ·intro hb;replace hb:b=32:=by rw[show(32:Int)=((32:Nat):Int)from rfl,nZ b 32 zd]at hb;simpa using hb
   subst hb;refine zh ?_;refine zv (RV.ld a0.q1 rfl) ?_;refine zvH (L7 rfl rfl (KH (by dsimp only;omega))) ?_;refine aj (j:=1) a0 rfl (Lb _) rfl rfl rfl rfl ?_;rw[show((m:Int)-((r2.length+1:Nat):Int))+1=(m:Int)-(r2.length:Int)from by omega];have a1:=a0.s_pos ((m:Int)-(r2.length:Int));have a':Ju (fun k=>k=j) O w1.drew O (w1.drew.setCell ⟨rb,1,none⟩ (nI ((m:Int)-(r2.length:Int)))):=JM hz a0.tag rfl;refine zh ?_;refine zx (r2,w1.drew.setCell ⟨rb,1,none⟩ (nI ((m:Int)-(r2.length:Int)))) (⟨(L2 _ _).trans a4,by rw[<-a2];simp[au],a1,a5.drew.trans a'⟩) (by dsimp only;simp)
  intro hb;replace hb:b≠32:=by rw[show(32:Int)=((32:Nat):Int)from rfl,nZ b 32 zd]at hb;simpa using hb
  have a6:au (b::r2)=b::r2:=by simp[au,hb]
  have a1:=a0.drew;refine zh ?_;refine Ke zk zk ?_;refine zh ?_;refine zwH (RV.ld a1.q1 rfl) ?_;refine zwH (RV.ld a1.q2 rfl) ?_;refine Kc ?_;refine zh ?_;refine ah rfl rfl (⟨by rw[<-a2,a6];simp[a3];omega,by rw[<-a2,a6];exact a1,a5.drew.drew⟩)
theorem bD(O:Nat->Nat)(w:ix)(j rb:Nat)(s:LS)(p e:Int)(hj:j≠0)(he:s.e=0)(h:Rd6 O w j rb s):
  KD Jp 128 [nP rb,nI p,nI e] w fun _ w'=>Rd6 O w' j rb {s with bad:=p,e:=e}/\Ju (fun k=>k=j) O w O w':=by
 refine J3 func128 ntmps128 rfl rfl ?_;refine zh ?_
 refine zvH (RV.ld h.q5 rfl) ?_;refine zTH rfl ((by rw[he];rfl)) ?_
 refine aj (j:=4) h rfl (Lb _) rfl rfl rfl rfl ?_;have a0:=h.s_bad p;have a3:Ju (fun k=>k=j) O w O (w.setCell ⟨rb,4,none⟩ (nI p)):=JM (fun e=>hj e.symm) h.tag rfl;refine zh ?_
 refine aj (j:=5) a0 rfl (sizeOf36 _) rfl rfl rfl rfl ?_;have a1:=a0.s_e e;have a2:Ju (fun k=>k=j) O (w.setCell ⟨rb,4,none⟩ (nI p)) O ((w.setCell ⟨rb,4,none⟩ (nI p)).setCell ⟨rb,5,none⟩ (nI e)):=JM (fun e=>hj e.symm) a0.tag rfl;refine zh ?_
 refine aH rfl (⟨a1,a3.trans a2⟩)
theorem gM(O:Nat->Nat)(w:ix)(j rb:Nat)(s:LS)(m:Nat)(r:List UInt8)(hj:j≠0)(hm:m<=s.l.length)(hl:s.l.length<=100000)(b2:s.to=(m:Int))(hr:r <:+ s.l.take m)(hp:s.pos=(m:Int)-(r.length:Int))(h:Rd6 O w j rb s):
  KD Jp 93 [nP rb] w fun v w'=>v=.string (bs (r.takeWhile ak))/\Rd6 O w' j rb {s with pos:=(m:Int)-((r.dropWhile ak).length:Int)}/\Ju (fun k=>k=j) O w O w':=by
 have hz:¬(fun k:Nat=>k=j) 0:=fun e=>hj e.symm
 have a9:(s.l.take m).length=m:=by simp;omega
 have h0:Rd6 O w j rb {s with pos:=(m:Int)-(r.length:Int)}:=by rw[<-hp];exact h
 have a':=hr.length_le;rw[a9]at a';refine J3 func93 ntmps93 rfl rfl ?_;refine zh ?_;refine zvH (RV.ld h0.q1 rfl) ?_;refine zlp (fun x:List UInt8×ix=>[(0,nP rb),(3,nI ((m:Int)-(r.length:Int)))]) (fun x=>x.2) (fun x=>x.1 <:+ s.l.take m/\x.1.dropWhile ak=r.dropWhile ak/\Rd6 O x.2 j rb {s with pos:=(m:Int)-(x.1.length:Int)}/\Ju (fun k=>k=j) O w O x.2) (fun x=>x.1.length) (r,w) (⟨hr,rfl,h0,K6 hz _ _⟩) ?_;rintro⟨r1,w1⟩ ⟨a8,a5,b4,a6⟩;dsimp only at a8 a5 b4 a6 ⊢;have a0:=b4.drew;have b3:=a8.length_le;rw[a9]at b3;have a3:r1=r.dropWhile ak->(s.l.take (m-r1.length)).drop (m-r.length)=r.takeWhile ak:=fun e=>by
  have:=zH (l:=s.l.take m) (a:=r.takeWhile ak) (b:=r.dropWhile ak) (by rw[KW];exact hr);rw[KW,<-e,a9,Ko,KI zo]at this;exact this
 have b0:r1.length<=r.length\/r1≠r.dropWhile ak:=by
  by_cases e:r1=r.dropWhile ak
  ·left;rw[e];exact(LK _).length_le
  right;exact e
 refine zh ?_;refine Ke zk zk ?_
 refine zh ?_;refine zwH (RV.ld a0.q1 rfl) ?_
 refine zwH (RV.ld a0.q2 rfl) ?_
 cases r1 with
 |nil=>
  refine cd (d:=17) rfl (b':=false) (decide_eq_false (by simp[b2])) ?_;have a1:=a0.drew;have hd:[]=r.dropWhile ak:=by rw[<-a5];rfl
  have h1:=a3 hd;refine zh ?_;refine zw (bC rfl rfl) ?_;refine Kc ?_;refine zh ?_;refine zFH rfl rfl ?_;refine Ke zk zk ?_;refine zh ?_;refine zwH (RV.ld a1.q0 rfl) ?_;refine zw (RV.ld a1.q1 rfl) ?_;refine zwH (cT J1 rfl rfl rfl (m-r.length) (m-0) zo (by simp) zo zo) ?_;refine Kc ?_;refine zh ?_;simp only[Kg]at h1;refine ah rfl rfl (⟨by rw[h1],by rw[<-hd];exact a1,a6.drew.drew⟩)
 |cons b r2=>
  simp only[Jj]at b3 a0;refine cd (d:=17) rfl (b':=true) (decide_eq_true (by simp only[Jj,b2];omega)) ?_;have a2:s.l[m-(r2.length+1)]? = some b:=mM (by have:=mV a8;rwa[a9]at this);refine zh ?_;refine zwH (RV.ld a0.q0 rfl) ?_;refine zwH (RV.ld a0.q1 rfl) ?_;refine zwH (bj (c:=b) J1 rfl rfl (m-(r2.length+1)) (by dsimp only;omega) a2) ?_
  by_cases k1:65<=b.toNat
  ·refine cd (d:=28) rfl (b':=true) (decide_eq_true zo) ?_;refine zh ?_
   refine zwH (RV.ld a0.q0 rfl) ?_;refine zwH (RV.ld a0.q1 rfl) ?_
   refine zwH (bj (c:=b) J1 rfl rfl (m-(r2.length+1)) (by dsimp only;omega) a2) ?_;refine zwH (bB rfl rfl) ?_
   by_cases k2:b.toNat<=90
   ·refine cd (d:=40) rfl (b':=true) (decide_eq_true zo) ?_;have a4:ak b=true:=by simp[ak,k1,k2]
    refine zh ?_;refine zw (bB rfl rfl) ?_
    refine zw (bB rfl rfl) ?_;refine Kc ?_
    refine zh ?_;refine zTH rfl rfl ?_
    refine zv (RV.ld a0.q1 rfl) ?_;refine zvH (L7 rfl rfl (KH (by dsimp only;omega))) ?_
    refine aj (j:=1) a0 rfl (Lb _) rfl rfl rfl rfl ?_;rw[show((m:Int)-((r2.length+1:Nat):Int))+1=(m:Int)-(r2.length:Int)from by omega];have a1:=a0.s_pos ((m:Int)-(r2.length:Int));have b1:Ju (fun k=>k=j) O w1.drew O (w1.drew.setCell ⟨rb,1,none⟩ (nI ((m:Int)-(r2.length:Int)))):=JM hz a0.tag rfl;refine zh ?_
    refine zx (r2,w1.drew.setCell ⟨rb,1,none⟩ (nI ((m:Int)-(r2.length:Int)))) (⟨(L2 _ _).trans a8,by rw[<-a5,Lk a4],a1,a6.drew.trans b1⟩) (by dsimp only;simp)
   refine cd (d:=40) rfl (b':=false) (decide_eq_false zo) ?_;refine zh ?_
   refine zwH (RV.ld a0.q0 rfl) ?_;refine zwH (RV.ld a0.q1 rfl) ?_
   refine zwH (bj (c:=b) J1 rfl rfl (m-(r2.length+1)) (by dsimp only;omega) a2) ?_
   by_cases k3:97<=b.toNat
   ·refine cd (d:=51) rfl (b':=true) (decide_eq_true zo) ?_;refine zh ?_
    refine zwH (RV.ld a0.q0 rfl) ?_;refine zwH (RV.ld a0.q1 rfl) ?_
    refine zwH (bj (c:=b) J1 rfl rfl (m-(r2.length+1)) (by dsimp only;omega) a2) ?_;refine zwH (bB rfl rfl) ?_
    refine zw (bC rfl rfl) ?_;refine zw (bB rfl rfl) ?_
    refine Kc ?_;refine zh ?_
    by_cases k4:b.toNat<=122
    ·refine aR rfl (decide_eq_true zo) ?_;have a4:ak b=true:=by simp[ak,k3,k4]
     refine zh ?_;refine zv (RV.ld a0.q1 rfl) ?_
     refine zvH (L7 rfl rfl (KH (by dsimp only;omega))) ?_;refine aj (j:=1) a0 rfl (Lb _) rfl rfl rfl rfl ?_
     rw[show((m:Int)-((r2.length+1:Nat):Int))+1=(m:Int)-(r2.length:Int)from by omega];have a1:=a0.s_pos ((m:Int)-(r2.length:Int));have b1:Ju (fun k=>k=j) O w1.drew O (w1.drew.setCell ⟨rb,1,none⟩ (nI ((m:Int)-(r2.length:Int)))):=JM hz a0.tag rfl;refine zh ?_;refine zx (r2,w1.drew.setCell ⟨rb,1,none⟩ (nI ((m:Int)-(r2.length:Int)))) (⟨(L2 _ _).trans a8,by rw[<-a5,Lk a4],a1,a6.drew.trans b1⟩) (by dsimp only;simp)
    refine aN rfl (decide_eq_false zo) ?_;have a4:ak b=false:=by simp[ak,k2,k4]
    have a7:(b::r2).dropWhile ak=b::r2:=Kq (by rw[a4];decide);have hd:b::r2=r.dropWhile ak:=by rw[<-a5,a7]
    have h1:=a3 hd;have h2:=b0.resolve_right (fun e=>e hd);simp only[Jj]at h1 h2;have a1:=a0.drew;refine zh ?_;refine Ke zk zk ?_;refine zh ?_;refine zwH (RV.ld a1.q0 rfl) ?_;refine zw (RV.ld a1.q1 rfl) ?_;refine zwH (cT J1 rfl rfl rfl (m-r.length) (m-(r2.length+1)) zo (by dsimp only;omega) zo (by dsimp only;omega)) ?_;refine Kc ?_;refine zh ?_;refine ah rfl rfl (⟨by rw[h1],by rw[<-hd];exact a1,a6.drew.drew⟩)
   refine cd (d:=51) rfl (b':=false) (decide_eq_false zo) ?_;have a4:ak b=false:=by simp[ak,k2,k3]
   have a7:(b::r2).dropWhile ak=b::r2:=Kq (by rw[a4];decide);have hd:b::r2=r.dropWhile ak:=by rw[<-a5,a7]
   have h1:=a3 hd;have h2:=b0.resolve_right (fun e=>e hd);simp only[Jj]at h1 h2;have a1:=a0.drew;refine zh ?_;refine zwH (bC rfl rfl) ?_;refine zw (bC rfl rfl) ?_;refine zw (bB rfl rfl) ?_;refine Kc ?_;refine zh ?_;refine zFH rfl rfl ?_;refine Ke zk zk ?_;refine zh ?_;refine zwH (RV.ld a1.q0 rfl) ?_;refine zw (RV.ld a1.q1 rfl) ?_;refine zwH (cT J1 rfl rfl rfl (m-r.length) (m-(r2.length+1)) zo (by dsimp only;omega) zo (by dsimp only;omega)) ?_;refine Kc ?_;refine zh ?_;refine ah rfl rfl (⟨by rw[h1],by rw[<-hd];exact a1,a6.drew.drew⟩)
  have k3:¬97<=b.toNat:=zo;refine cd (d:=28) rfl (b':=false) (decide_eq_false zo) ?_;refine zh ?_;refine zwH (bC rfl rfl) ?_;refine zwH (RV.ld a0.q0 rfl) ?_;refine zwH (RV.ld a0.q1 rfl) ?_;refine zwH (bj (c:=b) J1 rfl rfl (m-(r2.length+1)) (by dsimp only;omega) a2) ?_;refine cd (d:=51) rfl (b':=false) (decide_eq_false zo) ?_;have a4:ak b=false:=by simp[ak,k1,k3]
  have a7:(b::r2).dropWhile ak=b::r2:=Kq (by rw[a4];decide);have hd:b::r2=r.dropWhile ak:=by rw[<-a5,a7]
  have h1:=a3 hd;have h2:=b0.resolve_right (fun e=>e hd);simp only[Jj]at h1 h2;have a1:=a0.drew;refine zh ?_;refine zwH (bC rfl rfl) ?_;refine zw (bC rfl rfl) ?_;refine zw (bB rfl rfl) ?_;refine Kc ?_;refine zh ?_;refine zFH rfl rfl ?_;refine Ke zk zk ?_;refine zh ?_;refine zwH (RV.ld a1.q0 rfl) ?_;refine zw (RV.ld a1.q1 rfl) ?_;refine zwH (cT J1 rfl rfl rfl (m-r.length) (m-(r2.length+1)) zo (by dsimp only;omega) zo (by dsimp only;omega)) ?_;refine Kc ?_;refine zh ?_;refine ah rfl rfl (⟨by rw[h1],by rw[<-hd];exact a1,a6.drew.drew⟩)
end Go.Proofs.YtjemhjcngaokpaaGreatDoor
end
section
namespace Go.VL
section
variable{P:JH}{N:Nat}{ops:Array KF}{Q:LN→N8→ix→Prop}{rest:List KF}{st:St}{w:ix}
variable{t:J7}{p:String}{e:Array Ma}{d:Nat}{x y z:Kj}
theorem WC.scope{c:Code}(h:WC P N c (N7 Q) st w):WC P N (.scope c) Q st w:=fun a ha=>wp_scope_straight (h a ha)
theorem eN(h:QF N Q .ret st w):QF N (N7 Q) .ret st w:=h
theorem run_next_at(w:ix)(b:Nat)(s:ByteArray)(a0:Nat)(ty:J7){c n:Nat}(hb:w.heap[b]? = some (.stringIter s a0))(h:a0<s.size)(hd:KN s a0=(c,n)):
  (Lc (nP b) true ty).run P w=.ok (.tuple #[.bool true,nI a0,.int .i32 c]) (w.putObj b (.stringIter s (a0+n))):=by
 simp only[Lc,getObj,setObj,J2,Kl,hb,Result.andThen,h,if_true,hd];simp[goInt,World.putObj]
theorem qy(w:ix)(b:Nat)(s:ByteArray)(a0:Nat)(ty:J7)(hb:w.heap[b]? = some (.stringIter s a0))(h:¬a0<s.size):
  (Lc (nP b) true ty).run P w=.ok (.tuple #[.bool false]) w:=by
 simp[Lc,getObj,Kl,hb,h]
theorem tY{l:List UInt8}{a0 c n b:Nat}(hx:ev st x=some (nP b))(hb:w.heap[b]? = some (.stringIter (bs l) a0))(hp:a0<l.length)(a2:KN (bs l) a0=(c,n))(hd:Kd d N=true) 
  (h:WL P N ops Q rest ((d,.tuple #[.bool true,nI (a0:Nat),.int .i32 (c:Int)])::st) (w.putObj b (.stringIter (bs l) (a0+n)))):WL P N ops Q (⟨some d,.next x true,t,p,e,none⟩::rest) st w:=by
 have a1:=run_next_at (P:=P) w b (bs l) a0 t hb (by rw[cZ];exact hp) a2
 exact KQ hd (fun a ha=>by
  simp only[execOp,ha.ev hx,J2,a1,ln]
  rfl) h
theorem vz{l:List UInt8}{a0 b:Nat}(hx:ev st x=some (nP b))(hb:w.heap[b]? = some (.stringIter (bs l) a0))(hp:l.length<=a0)(hd:Kd d N=true) 
  (h:WL P N ops Q rest ((d,.tuple #[.bool false])::st) w):WL P N ops Q (⟨some d,.next x true,t,p,e,none⟩::rest) st w:=by
 have a1:=qy (P:=P) w b (bs l) a0 t hb (by rw[cZ];omega)
 exact KQ hd (fun a ha=>by
  simp only[execOp,ha.ev hx,J2,a1,ln]
  rfl) h
theorem vI{xt yt:J7}{k k':IntKind}{m:Int}(hs:P.underlying xt=some (.int k'))(a0:P.underlying yt=some .string)(hx:ev st x=some (.int k m)):RV P N (.convert xt yt x) t st w (.string (LQ m)):=
 fun a ha a1 p e g=>by
  simp only[execOp,ha.ev hx];simp[convert,run_underlying hs,run_underlying a0,Conv.intToString]
end
theorem Bs{l:List UInt8}{a0:Nat}(h:a0<l.length)(hb:(nth l a0).toNat<128):KN (bs l) a0=((nth l a0).toNat,1):=by
 have hs:a0<(bs l).size:=by rw[cZ];exact h
 have he:(bs l)[a0]'hs=nth l a0:=by rw[aB h];exact M0 (xs:=l) (i:=a0) h
 have:=decode_ascii (bs l) a0 hs (by rw[he];exact hb);rw[he]at this;exact this
theorem Dt{l:List UInt8}{i:Nat}(h:i<l.length):(bs l).get! i=nth l i:=by
 rw[aB h];show(bs l).data[i]! = _;rw[getElem!_pos (bs l).data i (by simpa[bs]using h)];simp[bs]
theorem Bt{l:List UInt8}{a0:Nat}(h:a0<l.length)(hb:128<=(nth l a0).toNat):
  ∃c n,KN (bs l) a0=(c,n)/\128<=c/\K1 (c:Int)=true/\1<=n/\a0+n<=l.length/\∀i,a0<=i->i<a0+n->128<=(nth l i).toNat:=by
 have h0:(bs l).get! (a0+0)=nth l a0:=Dt h;have hc:∀k,(a0+k<(bs l).size&&((bs l).get! (a0+k)).toNat / 64==2)=true->a0+k<l.length/\128<=(nth l (a0+k)).toNat:=fun k hk=>by
  simp only[J6,decide_eq_true_eq,beq_iff_eq,cZ]at hk;rw[Dt hk.1]at hk;exact⟨hk.1,zo⟩
 have one:∀i,a0<=i->i<a0+1->128<=(nth l i).toNat:=fun i h1 h2=>by
  obtain rfl:i=a0:=zo;exact hb
 have a1:∃c n,(Utf8.runeError,1)=(c,n)/\128<=c/\K1 (c:Int)=true/\1<=n/\a0+n<=l.length/\∀i,a0<=i->i<a0+n->128<=(nth l i).toNat:=⟨_,_,rfl,zd,zd,zd,zo,one⟩
 unfold KN;simp only[h0];rw[if_neg zo];have a2:=(nth l a0).toNat_lt
 split
 ·rename_i h1;simp only[J6]at h1;obtain⟨g1,g2⟩:=hc 1 (by simpa using h1.2)
  split
  ·rename_i h2;refine⟨_,_,rfl,h2,?_,zd,zo,fun i k1 k2=>?_⟩
   ·unfold K1;simp only[L9,J6,decide_eq_true_eq];left;constructor<;>omega
   by_cases e:i=a0
   ·rw[e];exact hb
   obtain rfl:i=a0+1:=zo;exact g2
  exact a1
 split
 ·rename_i h1;simp only[J6]at h1;obtain⟨g1,g2⟩:=hc 1 (by simpa using h1.1.2);obtain⟨g3,g4⟩:=hc 2 (by simpa using h1.2)
  split
  ·rename_i h2;simp only[J6,decide_eq_true_eq]at h2;refine⟨_,_,rfl,zo,h2.2,zd,zo,fun i k1 k2=>?_⟩
   by_cases e:i=a0
   ·rw[e];exact hb
   by_cases e1:i=a0+1
   ·rw[e1];exact g2
   obtain rfl:i=a0+2:=zo;exact g4
  exact a1
 split
 ·rename_i h1;simp only[J6]at h1;obtain⟨g1,g2⟩:=hc 1 (by simpa using h1.1.1.2);obtain⟨g3,g4⟩:=hc 2 (by simpa using h1.1.2);obtain⟨g5,g6⟩:=hc 3 (by simpa using h1.2)
  split
  ·rename_i h2;simp only[J6,decide_eq_true_eq]at h2;refine⟨_,_,rfl,zo,h2.2,zd,zo,fun i k1 k2=>?_⟩
   by_cases e:i=a0
   ·rw[e];exact hb
   by_cases e1:i=a0+1
   ·rw[e1];exact g2
   by_cases e2:i=a0+2
   ·rw[e2];exact g4
   obtain rfl:i=a0+3:=zo;exact g6
  exact a1
 exact a1
theorem Bk{c:Nat}(hc:128<=c)(hv:K1 (c:Int)=true):∃L:List UInt8,LQ (c:Int)=bs L/\2<=L.length/\L.length<=4/\128<=(nth L 1).toNat:=by
 unfold LQ;simp only[hv,if_true,Int.toNat_natCast];rw[if_neg zo];have hm:c % 64<64:=Mq _ zd
 split
 ·refine⟨[JF (0xC0+c / 64),JF (0x80+c % 64)],rfl,by simp,by simp,?_⟩;rw[bA,ay];simp;omega
 split
 ·refine⟨[JF (0xE0+c / 4096),JF (0x80+c / 64 % 64),JF (0x80+c % 64)],rfl,by simp,by simp,?_⟩;rw[bA,ay];have:c / 64 % 64<64:=Mq _ zd;simp;omega
 refine⟨[JF (0xF0+c / 262144),JF (0x80+c / 4096 % 64),JF (0x80+c / 64 % 64),JF (0x80+c % 64)],rfl,by simp,by simp,?_⟩;rw[bA,ay];have:c / 4096 % 64<64:=Mq _ zd;simp;omega
end Go.VL
namespace Go.Proofs.YtjemhjcngaokpaaGreatDoor
open Go.VL Go.Proofs
set_option maxRecDepth 10000
theorem qp(c:Int)(w:ix)(hv:K1 c=true):KD Jp 178 [.int .i32 c] w fun v w'=>v=.bool true/\w'=w:=by
 unfold K1 at hv;simp only[L9,J6,decide_eq_true_eq]at hv;refine J3 func178 ntmps178 rfl rfl ?_;refine zh ?_;refine az (d:=6) rfl (b':=true) ((decide_eq_true zo)) ?_;refine zh ?_
 by_cases h:c<55296
 ·refine zTH rfl ((decide_eq_true zo)) ?_;refine ah rfl rfl (⟨rfl,rfl⟩)
 refine zFH rfl ((decide_eq_false zo)) ?_;refine az (d:=13) rfl (b':=true) ((decide_eq_true zo)) ?_
 refine zh ?_;refine zTH rfl ((decide_eq_true zo)) ?_
 refine ah rfl rfl (⟨rfl,rfl⟩)
theorem nK(c:Nat)(w:ix)(hc:128<=c)(hv:K1 (c:Int)=true):KD Jp 159 [.string (bs [33,47]),.int .i32 (c:Int)] w fun v w'=>v=nI (-1)/\Kb w w':=by
 refine J3 func159 ntmps159 rfl rfl ?_;refine zh ?_
 refine az (d:=163) rfl (b':=true) ((decide_eq_true zo)) ?_;refine zh ?_
 refine zFH rfl ((decide_eq_false zo)) ?_
 by_cases h3:(c:Int)=65533
 ·refine zTH rfl ((by simpa using h3)) ?_;refine tX J1 rfl rfl ?_
  refine zh ?_;refine zlp (fun x:Nat=>[(175,.pointer (some ⟨w.heap.size,0,none⟩))]) (fun x=>w.iter (bs [33,47]) x) (fun x=>x<=2) (fun x=>2-x) 0 (Js _) ?_
  rintro k hk;refine zh ?_
  by_cases a2:k<2
  ·have a3:([33,47]:List UInt8)[k]? = some (nth [33,47] k):=by rw[aB (by simpa using a2)];exact Ji (by simpa using a2)
   have a4:(nth ([33,47]:List UInt8) k).toNat<128:=by
    have:k=0\/k=1:=zo
    rcases this with rfl|rfl
    ·rw[ay];decide
    rw[bA,ay];decide
   refine C9 rfl a3 a4 rfl ?_;refine zh ?_
   refine zTH rfl rfl ?_;refine zFH rfl ((beq_eq_false_iff_ne.2 zo)) ?_
   refine zxd (k+1) (a2)
  refine C8 rfl (by simp;omega) rfl ?_;refine zh ?_
  refine zFH rfl rfl ?_;refine ah rfl rfl (⟨rfl,Ext.iter _ _ _⟩)
 refine zFH rfl ((by simpa using h3)) ?_;refine zc call178 (qp c w hv) ?_
 rintro v w9 ⟨rfl,a1⟩;rw[a1];clear a1 w9;obtain⟨L,hL,a6,a5,a7⟩:=Bk hc hv;refine zh ?_;refine aN rfl rfl ?_;refine WC.scope ?_;refine zh ?_;refine zv (vI Ny J1 rfl) ?_;rw[hL];refine zh ?_;refine zvH (cf J1 rfl) ?_;refine zlp (fun x:Unit=>[(0,.string (bs [33,47])),(7,.string (bs L)),(8,nI ((L.length:Int)-1)),(9,nI ((L.length:Int)-1)),(10,nI 0)]) (fun x=>w) (fun x=>True) (fun x=>0) () (trivial) ?_;rintro _ _;refine zh ?_;refine zvH (cf J1 rfl) ?_
 by_cases h2:L.length=2
 ·refine aR rfl ((decide_eq_true (by simp;omega))) ?_;have a0:L[1]? = some (nth L 1):=by rw[aB zo];exact Ji zo
  refine zh ?_;refine WC.scope ?_
  refine zh ?_;refine Ke zk zk ?_
  refine zh ?_;refine zwH (bj (c:=47) J1 rfl rfl 1 zo rfl) ?_
  refine zwH (bj (c:=nth L 1) J1 rfl rfl 1 zo a0) ?_;refine Kc ?_
  refine zh ?_;refine zTH rfl ((by rw[bne_iff_ne];show(47:Int)≠_;omega)) ?_
  refine ME 7 rfl rfl zk zk ?_;refine zh ?_
  refine zwH (jM J1 rfl rfl 2 zo (by simp)) ?_;refine zw (bj (c:=nth L 1) J1 rfl rfl 1 zo a0) ?_
  refine Nm ?_;refine zc call51 (dt [] (nth L 1) w.drew.drew) ?_
  rintro v w9 ⟨rfl,a1⟩;rw[a1];clear a1 w9;refine zh ?_;refine zTH rfl rfl ?_;refine eN ?_;refine zh ?_;refine eN ?_;refine zh ?_;refine ah rfl rfl (⟨rfl,(Jl w).drew.drew⟩)
 refine zFH rfl ((decide_eq_false (by simp;omega))) ?_;refine eN ?_
 refine zh ?_;refine ah rfl rfl (⟨rfl,Jl _⟩)
theorem kM(c:Nat)(w:ix)(hc:128<=c)(hv:K1 (c:Int)=true):KD Jp 136 [.string (bs [33,47]),.int .i32 (c:Int)] w fun v w'=>v=.bool false/\Kb w w':=by
 refine J3 func136 ntmps136 rfl rfl ?_;refine zh ?_
 refine zc call159 (nK c w hc hv) ?_;rintro v w9 ⟨rfl,hE⟩;refine zh ?_
 refine ah rfl rfl (⟨rfl,hE⟩)
theorem uB(c:Nat)(w:ix)(hc:128<=c)(hv:K1 (c:Int)=true):KD Jp 135 [.int .i32 (c:Int)] w fun v w'=>v=.bool false/\Kb w w':=by
 refine J3 func135 ntmps135 rfl rfl ?_;refine zh ?_
 refine zc call136 (kM c w hc hv) ?_;rintro v w9 ⟨rfl,hE⟩;refine zh ?_
 refine ah rfl rfl (⟨rfl,hE⟩)
end Go.Proofs.YtjemhjcngaokpaaGreatDoor
end
section
namespace Go.VL
def forget(i:Nat)(O:Nat->Nat)(b:Nat):Nat:=if O b=i then 0 else O b
theorem Rng.forget{B i:Nat}{O:Nat->Nat}{w:ix}(h:KV B O w):KV B (forget i O) w:=⟨h.le,fun b hb=>by
 unfold VL.forget at hb
 split at hb
 ·exact absurd rfl hb
 exact h.rng b hb⟩
end Go.VL
namespace Go.Proofs.YtjemhjcngaokpaaGreatDoor
open Go.VL Go.Proofs
set_option maxRecDepth 10000
def gw(l:List UInt8):List UInt8:=(l.reverse.dropWhile (· == 32)).reverse
def Cb(l:List UInt8):List UInt8:=au (gw l)
theorem uk(l:List UInt8):gw (l++[32])=gw l:=by simp[gw]
theorem um(l:List UInt8){c:UInt8}(h:c≠32):gw (l++[c])=l++[c]:=by simp[gw,h]
theorem mB(l:List UInt8)(w:ix)(hl:l.length<=1000000):KD Jp 181 [.string (bs l),.int .u8 32] w fun v w'=>v=.string (bs (au l))/\w'=w:=by
 refine J3 func181 ntmps181 rfl rfl ?_;refine zh ?_
 refine zlp (fun x:List UInt8=>[(0,.string (bs x)),(1,.int .u8 32)]) (fun x=>w) (fun x=>au x=au l/\x.length<=1000000) (fun x=>x.length) l (⟨rfl,hl⟩) ?_;rintro r ⟨hr,a0⟩;refine zh ?_
 refine zvH (cf J1 rfl) ?_
 cases r with
 |nil=>
  refine az (d:=8) rfl (b':=false) (rfl) ?_;refine zh ?_
  refine zFH rfl rfl ?_;refine ah rfl rfl (⟨by rw[<-hr];rfl,rfl⟩)
 |cons b r2=>
  simp only[Jj]at a0;refine az (d:=8) rfl (b':=true) ((decide_eq_true (by simp only[Jj];omega))) ?_;refine zh ?_;refine zvH (bj (c:=b) J1 rfl rfl 0 rfl rfl) ?_;refine zC ?_ ?_
  ·intro hb;replace hb:b=32:=by
    by_cases e:b=32
    ·exact e
    have:=ik b 32 zd e;exact absurd (this.symm.trans hb) zd
   subst hb;refine zh ?_;refine zvH (jM J1 rfl rfl 1 rfl (by simp)) ?_;refine zx (r2) (⟨by rw[<-hr];simp[au],zo⟩) (by simp)
  intro hb;replace hb:b≠32:=fun e=>by subst e;cases hb
  refine zh ?_;refine ah rfl rfl (⟨by rw[<-hr];simp[au,hb],rfl⟩)
theorem lg(l:List UInt8)(w:ix)(hl:l.length<=1000000):KD Jp 182 [.string (bs l),.int .u8 32] w fun v w'=>v=.string (bs (gw l))/\w'=w:=by
 refine J3 func182 ntmps182 rfl rfl ?_;refine zh ?_
 refine zlp (fun x:List UInt8=>[(0,.string (bs x)),(1,.int .u8 32)]) (fun x=>w) (fun x=>gw x=gw l/\x.length<=1000000) (fun x=>x.length) l (⟨rfl,hl⟩) ?_;rintro r ⟨hr,a1⟩;refine zh ?_
 refine zvH (cf J1 rfl) ?_
 rcases List.eq_nil_or_concat r with rfl|⟨r2,b,rfl⟩
 ·refine az (d:=8) rfl (b':=false) (rfl) ?_;refine zh ?_
  refine zFH rfl rfl ?_;refine ah rfl rfl (⟨by rw[<-hr];rfl,rfl⟩)
 rw[List.concat_eq_append]at *;have a0:(r2++[b]).length=r2.length+1:=by simp
 rw[a0]at a1;refine az (d:=8) rfl (b':=true) ((decide_eq_true (by rw[a0];omega))) ?_;refine zh ?_;refine zvH (cf J1 rfl) ?_;refine zvH (bj (c:=b) J1 rfl rfl r2.length (by rw[a0];omega) (by simp)) ?_;refine zC ?_ ?_
 ·intro hb;replace hb:b=32:=by
   by_cases e:b=32
   ·exact e
   have:=ik b 32 zd e;exact absurd (this.symm.trans hb) zd
  subst hb;refine zh ?_;refine zv (cf J1 rfl) ?_;refine zv (RV.sub rfl rfl (KH (by rw[a0];omega))) ?_;refine zvH (vG J1 rfl rfl r2.length (by rw[a0];omega) (by simp)) ?_;rw[List.take_left];refine zx (r2) (⟨by rw[<-hr,uk],zo⟩) (by simp)
 intro hb;replace hb:b≠32:=fun e=>by subst e;cases hb
 refine zh ?_;refine ah rfl rfl (⟨by rw[<-hr,um _ hb],rfl⟩)
theorem zm(l:List UInt8):(gw l).length<=l.length:=by
 have:=(LK (l:=l.reverse) (· == (32:UInt8))).length_le;simpa[gw]using this
theorem Ca(l:List UInt8)(w:ix)(hl:l.length<=1000000):KD Jp 160 [.string (bs l),.string (bs [32])] w fun v w'=>v=.string (bs (Cb l))/\Kb w w':=by
 have a0:=zm l;refine J3 func160 ntmps160 rfl rfl ?_;refine zh ?_;refine zvH (cR rfl rfl) ?_
 by_cases h0:l=[]
 ·subst h0;refine az (d:=9) rfl (b':=true) (rfl) ?_;refine zh ?_;refine zTH rfl rfl ?_;refine ah rfl rfl (⟨rfl,Jl _⟩)
 refine az (d:=9) rfl (b':=false) ((by simpa using h0)) ?_;refine zh ?_
 refine zvH (cR rfl rfl) ?_;refine zFH rfl rfl ?_
 refine zvH (cf J1 rfl) ?_;refine az (d:=17) rfl (b':=true) (rfl) ?_
 refine zh ?_;refine zvH (bj (c:=32) J1 rfl rfl 0 rfl rfl) ?_
 refine zTH rfl rfl ?_;refine Ke zk zk ?_
 refine zh ?_;refine zw (bj (c:=32) J1 rfl rfl 0 rfl rfl) ?_
 refine NP call182 rfl (lg l w.drew hl) rfl ?_;refine zh ?_
 refine zw (bj (c:=32) J1 rfl rfl 0 rfl rfl) ?_;refine NP call181 rfl (mB (gw l) w.drew zo) rfl ?_
 refine zh ?_;refine Kc ?_
 refine zh ?_;refine ah rfl rfl (⟨rfl,(Jl w).drew⟩)
def xU(c:UInt8):Bool:=decide (c=33)||decide (c=47)
theorem Fu(c:UInt8):decide (0<=rU [33,47] c)=xU c:=by
 unfold rU xU
 by_cases h1:c=33
 ·subst h1;rfl
 by_cases h2:c=47
 ·subst h2;rfl
 have:[(33:UInt8),47].findIdx? (· == c)=none:=by
  rw[JY];intro x hx;simp at hx
  rcases hx with rfl|rfl<;>simp<;>intro e<;>first|exact h1 e.symm|exact h2 e.symm
 rw[this];simp[h1,h2]
theorem qW(c:UInt8)(w:ix)(hc:c.toNat<128):KD Jp 159 [.string (bs [33,47]),.int .i32 (c.toNat:Int)] w fun v w'=>v=nI (rU [33,47] c)/\w'=w:=by
 refine J3 func159 ntmps159 rfl rfl ?_;refine zh ?_
 refine az (d:=163) rfl (b':=true) ((decide_eq_true zo)) ?_;refine zh ?_
 refine zTH rfl ((decide_eq_true zo)) ?_;refine zv (BV Ny NG rfl (Fit.u8 zo)) ?_
 refine zc call51 (dt [33,47] c w) ?_;rintro v w9 ⟨rfl,a0⟩;rw[a0];clear a0 w9;refine zh ?_
 refine ah rfl rfl (⟨rfl,rfl⟩)
theorem mH(c:UInt8)(w:ix)(hc:c.toNat<128):KD Jp 136 [.string (bs [33,47]),.int .i32 (c.toNat:Int)] w fun v w'=>v=.bool (xU c)/\w'=w:=by
 refine J3 func136 ntmps136 rfl rfl ?_;refine zh ?_
 refine zc call159 (qW c w hc) ?_;rintro v w9 ⟨rfl,a0⟩;rw[a0];clear a0 w9;refine zh ?_
 refine ah rfl rfl (⟨congrArg M5 (Fu c),rfl⟩)
theorem zV(c:UInt8)(w:ix)(hc:c.toNat<128):KD Jp 135 [.int .i32 (c.toNat:Int)] w fun v w'=>v=.bool (xU c)/\w'=w:=by
 refine J3 func135 ntmps135 rfl rfl ?_;refine zh ?_
 refine zc call136 (mH c w hc) ?_;rintro v w9 ⟨rfl,a0⟩;rw[a0];clear a0 w9;refine zh ?_
 refine ah rfl rfl (⟨rfl,rfl⟩)
def lW(l:List UInt8):Int:=match l.findIdx? xU with|some i=>(i:Nat)|none=>-1
theorem qX(l:List UInt8)(w:ix):KD Jp 158 [.string (bs l),.func (.func 135) #[] #[],.bool true] w fun v w'=>v=nI (lW l)/\Kb w w':=by
 have b2:Ju (fun k=>k=1) (fun _=>0) w (lB (fun _=>0) w.heap.size 1) (w.iter (bs l) 0):=MG zd (ar w) _ 1;have hO:lB (fun _=>0) w.heap.size 1 w.heap.size=1:=ed _ _ _;refine J3 func158 ntmps158 rfl rfl ?_;refine zh ?_;refine tX J1 rfl rfl ?_;refine zh ?_;refine zlp (fun x:Nat×ix=>[(1,.func (.func 135) #[] #[]),(2,.bool true),(10,.pointer (some ⟨w.heap.size,0,none⟩))]) (fun x=>x.2) (fun x=>(∀i,i<x.1->i<l.length->xU (nth l i)=false)/\x.2.heap[w.heap.size]? = some (.stringIter (bs l) x.1)/\Ju (fun k=>k=1) (fun _=>0) w (lB (fun _=>0) w.heap.size 1) x.2) (fun x=>l.length-x.1) (0,w.iter (bs l) 0) (⟨fun i hi=>absurd hi (Jq i),World.iter_heap w (bs l) 0,b2⟩) ?_;rintro⟨k,w1⟩ ⟨a3,a2,a5⟩;dsimp only at a3 a2 a5 ⊢;refine zh ?_
 by_cases a1:k<l.length
 ·by_cases a7:(nth l k).toNat<128
  ·refine tY rfl a2 a1 (Bs a1 a7) rfl ?_;have a4:=a5.trans (Nn zd hO (w:=w1) (.stringIter (bs l) (k+1)));have a0:(w1.putObj w.heap.size (.stringIter (bs l) (k+1))).heap[w.heap.size]? = some (.stringIter (bs l) (k+1)):=Lt (bq a2);generalize w1.putObj w.heap.size (.stringIter (bs l) (k+1))=w2 at *;refine zh ?_
   refine zTH rfl rfl ?_;refine du rfl call135 rfl (zV (nth l k) w2 a7) rfl ?_
   rintro v w9 ⟨rfl,a6⟩;rw[a6];clear a6 w9;refine zh ?_;refine zvH (rO KS rfl rfl) ?_
   cases hs:xU (nth l k)with
   |true=>
    refine zTH rfl rfl ?_;have hf:l.findIdx? xU=some k:=Jm.2 ⟨a1,by rw[<-aB a1,hs],fun j hj=>by rw[<-aB zo,a3 j hj zo];decide⟩
    refine ah rfl rfl (⟨by unfold lW;rw[hf];rfl,a4.ext⟩)
   |false=>
    refine zFH rfl rfl ?_;refine zxd (k+1,w2) (⟨fun i hi hl=>(JG.1 hi).elim (fun h=>a3 i h hl) (fun e=>by rw[e];exact hs),a0,a4⟩)
  obtain⟨c,n,a',b1,b0,b4,b3,a9⟩:=Bt a1 zo;refine tY rfl a2 a1 a' rfl ?_;have a4:=a5.trans (Nn zd hO (w:=w1) (.stringIter (bs l) (k+n)));have a0:(w1.putObj w.heap.size (.stringIter (bs l) (k+n))).heap[w.heap.size]? = some (.stringIter (bs l) (k+n)):=Lt (bq a2);generalize w1.putObj w.heap.size (.stringIter (bs l) (k+n))=w2 at *;refine zh ?_;refine zTH rfl rfl ?_;refine du rfl call135 rfl (uB c w2 b1 b0) rfl ?_;rintro v w3 ⟨rfl,a8⟩;refine zh ?_;refine zvH (rO KS rfl rfl) ?_;refine zFH rfl rfl ?_;refine zxd (k+n,w3) (⟨fun i hi hl=>?_,(a8.block _ (bq a0)).trans a0,a4.trans (aa zd _ a8)⟩)
  by_cases e:i<k
  ·exact a3 i e hl
  have:=a9 i zo hi;unfold xU;rw[decide_eq_false (fun e=>by rw[e]at this;exact absurd this zd),decide_eq_false (fun e=>by rw[e]at this;exact absurd this zd)];rfl
 refine vz rfl a2 zo rfl ?_;refine zh ?_
 refine zFH rfl rfl ?_;have hf:l.findIdx? xU=none:=JY.2 fun x hx=>by
  obtain⟨j,hj,rfl⟩:=cG hx;exact a3 j zo hj
 refine ah rfl rfl (⟨by unfold lW;rw[hf],a5.ext⟩)
theorem mE(l:List UInt8)(w:ix):KD Jp 134 [.string (bs l),.func (.func 135) #[] #[]] w fun v w'=>v=nI (lW l)/\Kb w w':=by
 refine J3 func134 ntmps134 rfl rfl ?_;refine zh ?_
 refine zc call158 (qX l w) ?_;rintro v w1 ⟨rfl,hE⟩;refine zh ?_
 refine ah rfl rfl (⟨rfl,hE⟩)
def Gh(a0:List UInt8):XR:=if Cb a0=[]then .ok (.mk 9 0 [])else IA a0
def oH(kn:Kn)(a0:List UInt8):XR:=if Cb a0=[]then .ok (.mk 9 0 [])else fh kn a0
variable{kn:Kn}
def PostS(O:Nat->Nat)(w:ix)(j rb:Nat)(s:LS)(fr:Nat)(x:N3):XR->Prop
 |.ok t=>Nt O w t x/\Rd6 O w j rb s
 |.bad p e=>x=(0,0,nS)/\e≠0/\Rd6 O w j rb {s with bad:=(fr:Int)+(p:Int),e:=e}
theorem xr(l:List UInt8)(p:Nat)(e:Int)(h:fh kn l=.bad p e):e≠0/\p<=l.length:=by
 have hg:=iT (kn:=kn) 20 l;unfold fh at h
 split at h
 ·cases h;exact⟨zd,Js _⟩
 cases hf:vx kn 20 l with
 |bad q f=>
  rw[hf]at h hg
  cases h
  exact⟨hg.2,zo⟩
 |ok t r=>
  rw[hf]at h;dsimp only at h
  split at h
  ·cases h;exact⟨zd,zo⟩
  split at h
  ·cases h;exact⟨zd,Js _⟩
  cases h
theorem vF{α:Type}{enc:α->List ka}{E:J7}{sz:Nat}{B:Nat}{O:Nat->Nat}{w:ix}{i:Nat}{v:ka}{l:List α}(h:JZ enc E sz O w i v l)(hi:i≠0)(r:KV B O w):Free (forget i O) w v:=fun a n c e _=>by
 have h1:=h.1.tag a.block (by subst e;rfl);have h2:=r.rng a.block (by rw[h1];exact hi);exact⟨by unfold forget;rw[if_pos h1],h2.2⟩
def Mac(O:Nat->Nat)(w:ix)(i:Nat)(v:ka)(kn:Kn):Prop:=
 ∃ms:List M3,JZ lf 226 4 O w i v ms/\kn.length=ms.length/\∀q,q<ms.length->(nth kn q).1=(nth ms q).1/\Nt O w (nth kn q).2 (nth ms q).2
theorem Mac.upd{S:Nat->Prop}{O O':Nat->Nat}{w w':ix}{i:Nat}{v:ka}(h:Mac O w i v kn)(u:Ju S O w O' w')(hi:i≠0)(hS:¬S i):Mac O' w' i v kn:=by
 obtain⟨ms,h1,h2,h3⟩:=h;exact⟨ms,h1.upd u hi hS,h2,fun q hq=>⟨(h3 q hq).1,(h3 q hq).2.upd u⟩⟩
theorem Mac.known{B:Nat}{O:Nat->Nat}{w:ix}{i:Nat}{v:ka}(h:Mac O w i v kn)(hi:i≠0)(r:KV B O w):Known (forget i O) w v kn:=by
 obtain⟨ms,h1,h2,h3⟩:=h;exact⟨ms,h1.sl,vF h1 hi r,h2,fun q hq=>⟨(h3 q hq).1,(h3 q hq).2.weak fun b hb=>by unfold forget;rw[hb];split<;>rfl⟩⟩
theorem Mac.nil(O:Nat->Nat)(w:ix)(i:Nat):Mac O w i (nS) []:=⟨[],LV _ _ _ _ _ _,rfl,fun q hq=>absurd hq (by simp)⟩
theorem qx(B:Nat)(O:Nat->Nat)(w:ix)(j rb:Nat)(s:LS)(fr to:Nat)(hR:KV B O w)(hj:j≠0)(he:s.e=0){jm:Nat}(d6:jm≠0)(e7:j≠jm)(e5:Mac O w jm s.mc kn)(e8:fr<=to)(e3:to<=s.l.length)(hl:s.l.length<=100000)(h:Rd6 O w j rb s):
  KD Jp 137 [nP rb,nI fr,nI to] w fun v w'=>∃x,v=nv x/\Ju (fun k=>k=j) O w O w'/\PostS O w' j rb s fr x (oH kn ((s.l.take to).drop fr)):=by
 obtain⟨T0,d2,b1⟩:=hR.bound;obtain⟨T,a2,e6,hT⟩:∃T,0<T/\jm<T/\∀b,O b<T:=⟨T0+jm+1,zo,zo,fun b=>by have:=b1 b;omega⟩
 clear d2 b1 T0;have f7:j<T:=by rw[<-h.tag];exact hT rb
 have f5:((s.l.take to).drop fr).length=to-fr:=by simp;omega
 refine J3 func137 ntmps137 rfl rfl ?_;refine zh ?_
 refine aw hR T zo (Jo _) rfl ?_;intro xb w1 O1 e2 d9 f3 f8;have d8:=h.upd d9 hj zo;have c9:=d9.pT hj a2 (J4 _);refine zh ?_
 refine zvH (RV.ld d8.q0 rfl) ?_;refine zvH (cT J1 rfl rfl rfl fr to rfl rfl e8 e3) ?_
 refine zc call160 (Ca ((s.l.take to).drop fr) w1 zo) ?_;rintro v w2 ⟨rfl,e1⟩;have c7:Ju (fun _=>False) O1 w1 O1 w2:=aa (fun h=>h) O1 e1;have b2:=e2.upd c7 zo (fun h=>h);have c5:=d8.upd c7 hj (fun h=>h);have b4:=f3.upd c7;have a5:=c9.trans (jt O1 e1 hj a2);refine zvH (cR rfl rfl) ?_
 by_cases b3:Cb ((s.l.take to).drop fr)=[]
 ·have hM:oH kn ((s.l.take to).drop fr)=.ok (.mk 9 0 []):=by unfold oH;rw[if_pos b3]
  rw[hM];refine aR rfl ((by rw[b3];rfl)) ?_;have a6:((9,0,nS):N3).2.2.oneCell'=true:=rfl;refine zh ?_;refine zv (aF vT (Jo _) rfl (by first|rfl|(simp only[JD,JK];rfl)) rfl rfl) ?_;refine zsb (us:=#[nI ((9,0,nS):N3).1,nI ((9,0,nS):N3).2.1,((9,0,nS):N3).2.2]) b2 (J0 _) (bZ a6) ?_;have a8:=JE (us:=#[nI ((9,0,nS):N3).1,nI ((9,0,nS):N3).2.1,((9,0,nS):N3).2.2]) b2;have a1:Ju (fun k=>k=T) O1 w2 O1 (Jz w2 xb #[nI ((9,0,nS):N3).1,nI ((9,0,nS):N3).2.1,((9,0,nS):N3).2.2]):=J9 zo (JS b2) rfl;have a':=c5.upd a1 hj zo;have a7:=a5.trans (a1.pT hj a2 (J4 _));refine zh ?_;refine aK rfl rfl (a8.cellsAdd) (J8 _) (J0 _) (⟨(9,0,nS),rfl,a7.priv hT hj,Nc _ _ _ _,a'.fgt h.tag⟩)
 have hM:oH kn ((s.l.take to).drop fr)=fh kn ((s.l.take to).drop fr):=by unfold oH;rw[if_neg b3]
 rw[hM];refine zFH rfl ((by simpa using b3)) ?_;refine zv (RV.ld c5.q9 rfl) ?_;have b9:=e5.upd a5 d6 zo;refine zc call130 (lz s.mc ((s.l.take to).drop fr) B O1 (forget jm O1) w2 b4 b4.forget (b9.known d6 b4)) ?_;rintro v w3 ⟨e0,b5⟩;have c6:Ju (fun _=>False) O1 w2 O1 w3:=aa (fun h=>h) O1 e0;have d3:=b2.upd c6 zo (fun h=>h);have d7:=c5.upd c6 hj (fun h=>h);have d':=b4.upd c6;have b0:=a5.trans (jt O1 e0 hj a2)
 cases hf:fh kn ((s.l.take to).drop fr)with
 |ok t=>
  rw[hf]at b5;obtain⟨x,rfl,d4⟩:=b5;have a6:=d4.one;refine zh ?_;refine aw d' (T+1) zo (Jo _) rfl ?_;intro nb w4 O4 a3 d1 e' f4;refine zsb (us:=#[nI x.1,nI x.2.1,x.2.2]) a3 (J0 _) (bZ a6) ?_;have b8:=a3.setRow (us:=#[nI x.1,nI x.2.1,x.2.2]);have d0:Ju (fun k=>k=T+1) O4 w4 O4 (w4.setRow nb #[nI x.1,nI x.2.1,x.2.2]):=J9 zo a3.tag rfl;have a0:=d1.trans d0;have a9:=d3.upd a0 zo zo;have b':=d7.upd a0 hj zo;have a4:=b0.trans (a0.pT hj a2 (K2 _));have b7:=d4.upd a0;generalize w4.setRow nb #[nI x.1,nI x.2.1,x.2.2]=w5 at *;refine zh ?_;refine zFH rfl rfl ?_;refine zv (af (us:=aV x) b8.cellsAdd (J8 _) (J0 _) rfl) ?_;refine zsb (us:=#[nI x.1,nI x.2.1,x.2.2]) a9 (J0 _) (bZ a6) ?_;have a8:=JE (us:=#[nI x.1,nI x.2.1,x.2.2]) a9;have a1:Ju (fun k=>k=T) O4 w5 O4 (Jz w5 xb #[nI x.1,nI x.2.1,x.2.2]):=J9 zo (JS a9) rfl;have a':=b'.upd a1 hj zo;have a7:=a4.trans (a1.pT hj a2 (J4 _));refine zh ?_;refine aK rfl rfl (a8.cellsAdd) (J8 _) (J0 _) (⟨x,rfl,a7.priv hT hj,(b7.upd a1).low a7,a'.fgt h.tag⟩)
 |bad p e=>
  rw[hf]at b5;obtain⟨rfl,d5⟩:=b5;obtain⟨_,f6⟩:=xr _ _ _ hf;refine zh ?_;refine aw d' (T+1) zo (Jo _) rfl ?_;intro nb w4 O4 a3 d1 e' f4;refine zsa (us:=#[nI 0,nI 0,nS]) a3 (J0 _) ?_;have b8:=a3.setRow (us:=#[nI 0,nI 0,nS]);have d0:Ju (fun k=>k=T+1) O4 w4 O4 (w4.setRow nb #[nI 0,nI 0,nS]):=J9 zo a3.tag rfl;have a0:=d1.trans d0;have a9:=d3.upd a0 zo zo;have b':=d7.upd a0 hj zo;have a4:=b0.trans (a0.pT hj a2 (K2 _));generalize w4.setRow nb #[nI 0,nI 0,nS]=w5 at *;refine zh ?_;refine zTH rfl ((by simpa using d5)) ?_;refine zc MY (bD O4 w5 j rb s ((fr:Int)+(p:Int)) e hj he b') ?_;rintro v w6 ⟨e9,c'⟩;have b6:=a9.upd c' zo zo;have e4:=b8.upd c' zo zo;have c8:=a4.trans (c'.pj a2);refine zh ?_;refine zv (af (us:=aV ((0,0,nS):N3)) e4.cellsAdd (J8 _) (J0 _) rfl) ?_;have a6:((0,0,nS):N3).2.2.oneCell'=true:=rfl;refine zsb (us:=#[nI ((0,0,nS):N3).1,nI ((0,0,nS):N3).2.1,((0,0,nS):N3).2.2]) b6 (J0 _) (bZ a6) ?_;have a8:=JE (us:=#[nI ((0,0,nS):N3).1,nI ((0,0,nS):N3).2.1,((0,0,nS):N3).2.2]) b6;have a1:Ju (fun k=>k=T) O4 w6 O4 (Jz w6 xb #[nI ((0,0,nS):N3).1,nI ((0,0,nS):N3).2.1,((0,0,nS):N3).2.2]):=J9 zo (JS b6) rfl;have a':=e9.upd a1 hj zo;have a7:=c8.trans (a1.pT hj a2 (J4 _));refine zh ?_;refine aK rfl rfl (a8.cellsAdd) (J8 _) (J0 _) (⟨(0,0,nS),rfl,a7.priv hT hj,rfl,d5,a'.fgt h.tag⟩)
end Go.Proofs.YtjemhjcngaokpaaGreatDoor
end
namespace Go.Proofs.YtjemhjcngaokpaaGreatDoor
section
def fH(t:Nd):Int:=if(bO t&&CR 3 t)=true then 4 else if(!(AC t)||decide (4<yj t))=true then 8 else 0
theorem ku(t:Nd)(x:N3)(w:ix)(h:Nt (fun _=>0) w t x):KD Jp 62 [nv x] w fun v w'=>v=nI (fH t)/\Kb w w':=by
 refine J3 func62 ntmps62 rfl rfl ?_;refine zh ?_
 refine aE (ar w) 1 zo rfl rfl ?_;intro xb w1 O1 a5 a7 a8 a3;have a4:∀W,Kb w1 W->∀(j:Nat) (u:ka),(aV x)[j]? = some u->W.cell? (nA xb j)=some u:=fun W hE j u hu=>hE.cell (a5.cellsAdd j u hu)
 refine zh ?_;refine zv (af (us:=aV x) (a4 w1 (Jl _)) (J8 _) (J0 _) rfl) ?_
 refine zc call106 (oM t x w1 (h.ext a3)) ?_;rintro v w2 ⟨rfl,a2⟩;refine zh ?_
 refine zv (af (us:=aV x) (a4 w2 a2) (J8 _) (J0 _) rfl) ?_;refine zc call107 (yu t 3 x w2 (h.ext (a3.trans a2))) ?_
 rintro v w3 ⟨rfl,a6⟩;have a0:=(a3.trans a2).trans a6;refine zh ?_
 cases h1:(bO t&&CR 3 t)with
 |true=>
  refine zTH rfl rfl ?_;refine ah rfl rfl (⟨by unfold fH;rw[if_pos h1],a0⟩)
 |false=>
  refine zFH rfl rfl ?_;refine bN (fun w1=>_=w1) (decide (4<yj t)) 2 (rfl) rfl rfl rfl rfl rfl ?_ ?_
  ·intro a1;refine zh ?_;refine nE 16 3 (rfl) a1
  rintro _ rfl;refine zh ?_
  cases h2:(!(AC t)||decide (4<yj t))with
  |true=>
   refine zTH rfl rfl ?_;refine ah rfl rfl (⟨by unfold fH;rw[if_neg (by rw[h1];decide),if_pos h2],a0⟩)
  |false=>
   refine zFH rfl rfl ?_;refine ah rfl rfl (⟨by unfold fH;rw[if_neg (by rw[h1];decide),if_neg (by rw[h2];decide)],a0⟩)
abbrev R3:=Nd×Nd×Bool
abbrev X3:=N3×N3×Bool
def ct(x:X3):List ka:=[nI x.1.1,nI x.1.2.1,x.1.2.2,nI x.2.1.1,nI x.2.1.2.1,x.2.1.2.2,.bool x.2.2]
def Rt(O:Nat->Nat)(w:ix)(t:R3)(x:X3):Prop:=Nt O w t.1 x.1/\Nt O w t.2.1 x.2.1/\x.2.2=t.2.2
theorem Rt.upd{S:Nat->Prop}{O O':Nat->Nat}{w w':ix}{t:R3}{x:X3}(h:Rt O w t x)(u:Ju S O w O' w'):Rt O' w' t x:=⟨h.1.upd u,h.2.1.upd u,h.2.2⟩
theorem Rt.weak{O O':Nat->Nat}{w:ix}{t:R3}{x:X3}(h:Rt O' w t x)(k:∀b,O' b=0->O b=0):Rt O w t x:=⟨h.1.weak k,h.2.1.weak k,h.2.2⟩
theorem elR:Np Jp 39 69 7 88:=⟨Nw,by kernel_rfl,zd⟩
theorem Gm:ck Jp 69 #[(0,3),(3,3),(6,1)]:=⟨_,underlying69,fun w=>by kernel_rfl⟩
inductive LR where
 |ok (x:R3)
 |bad (p:Nat) (e:Int)
def I9(r:List UInt8):LR:=
 match r.findIdx? xU with
 |none=>.bad r.length 4
 |some k=>
  match Gh (r.take k)with
  |.bad p e=>.bad p e
  |.ok a=>
   match Gh (r.drop (k+1))with
   |.bad p e=>.bad (k+1+p) e
   |.ok b=>if fH b≠0 then .bad (k+1) (fH b)else .ok (a,b,(((nth r k).toNat:Int)==47))
def iZ(kn:Kn)(r:List UInt8):LR:=
 match r.findIdx? xU with
 |none=>.bad r.length 4
 |some k=>
  match oH kn (r.take k)with
  |.bad p e=>.bad p e
  |.ok a=>
   match oH kn (r.drop (k+1))with
   |.bad p e=>.bad (k+1+p) e
   |.ok b=>if fH b≠0 then .bad (k+1) (fH b)else .ok (a,b,(((nth r k).toNat:Int)==47))
variable{kn:Kn}
def zR(s:LS)(fr:Nat):XR->LS
 |.ok _=>s
 |.bad p e=>{s with bad:=(fr:Int)+(p:Int),e:=e}
theorem PostS.rd{O:Nat->Nat}{w:ix}{j rb:Nat}{s:LS}{fr:Nat}{x:N3}{M:XR}(h:PostS O w j rb s fr x M):Rd6 O w j rb (zR s fr M):=by
 cases M with
 |ok t=>exact h.2
 |bad p e=>exact h.2.2
theorem PostS.one{O:Nat->Nat}{w:ix}{j rb:Nat}{s:LS}{fr:Nat}{x:N3}{M:XR}(h:PostS O w j rb s fr x M):x.2.2.oneCell'=true:=by
 cases M with
 |ok t=>exact h.1.one
 |bad p e=>rw[h.1];rfl
theorem PostS.upd{S:Nat->Prop}{O O':Nat->Nat}{w w':ix}{j rb:Nat}{s:LS}{fr:Nat}{x:N3}{M:XR}(h:PostS O w j rb s fr x M)(u:Ju S O w O' w')(hj:j≠0)(hS:¬S j):PostS O' w' j rb s fr x M:=by
 cases M with
 |ok t=>exact⟨h.1.upd u,Jh h.2 u hj hS⟩
 |bad p e=>exact⟨h.1,h.2.1,Jh h.2.2 u hj hS⟩
theorem Ci(s:LS)(fr:Nat)(M:XR):(zR s fr M).l=s.l:=by cases M<;>rfl
theorem zQ(s:LS)(fr:Nat)(M:XR):(zR s fr M).bg=s.bg:=by cases M<;>rfl
def IM(B:Nat)(O:Nat->Nat)(w w':ix)(j jr rb:Nat)(s:LS)(xs:List X3)(M:LR):Prop:=
 ∃O' rv,Ju (fun k=>k=j\/k=jr) O w O' w'/\KV B O' w'/\
  match M with
  |.ok t=>∃x,JZ ct 69 7 O' w' jr rv (xs++[x])/\Rt O' w' t x/\Rd6 O' w' j rb {s with ru:=rv}
  |.bad p e=>e≠0/\Rd6 O' w' j rb {s with ru:=rv,bad:=s.bg+(p:Int),e:=e}
theorem jY{x y:N3}{b:Bool}(h1:x.2.2.oneCell'=true)(h2:y.2.2.oneCell'=true):(ct (x,y,b)).toArray.toList.all JQ=true:=by
 simp only[ct,JD,h1,h2];rfl
theorem bP{x y:N3}{b:Bool}(h1:x.2.2.oneCell'=true)(h2:y.2.2.oneCell'=true):∀c∈ct (x,y,b),c.oneCell'=true:=by
 have:=jY (b:=b) h1 h2;exact My.1 this
theorem Dl{L r:List UInt8}(h:r <:+ L):L.drop (L.length-r.length)=r:=(List.suffix_iff_eq_drop.1 h).symm
theorem jB{O:Nat->Nat}{w:ix}{i b:Nat}{x1 x2:N3}{a0:Bool}{E:J7}(h:JI O w i b (ct (x1,x2,a0)).toArray E):∀(q:Nat) (u:ka),(aV x2)[q]? = some u->w.cell? ((nA b 3).add q)=some u:=fun q u hu=>by
 have e:((nA b 3).add q)=⟨b,3+q,none⟩:=by
  simp only[K5];(repeat' split)<;>simp_all
 rw[e];refine h.cell (3+q) ?_;simp only[aV]at hu
 match q,hu with
 |0,hu=>exact hu
 |1,hu=>exact hu
 |2,hu=>exact hu
theorem uy{O:Nat->Nat}{w:ix}{j rb m n:Nat}{s:LS}{fr:Nat}{x:N3}{M:XR}{hbg:s.bg=((m-n:Nat):Int)}(h:PostS O w j rb s fr x M):w.cell? ⟨rb,0,none⟩=some (.string (bs s.l))/\w.cell? ⟨rb,3,none⟩=some (nI ((m-n:Nat):Int)):=by
 have h0:=h.rd.q0;have h3:=h.rd.q3;rw[Ci]at h0;rw[zQ,hbg]at h3;exact⟨h0,h3⟩
theorem sy(B:Nat)(O:Nat->Nat)(w:ix)(j jr rb:Nat)(s:LS)(m:Nat)(r:List UInt8)(xs:List X3)(hR:KV B O w)(hj:j≠0)(b0:jr≠0)(e7:j≠jr)(hm:m<=s.l.length)(hl:s.l.length<=100000)(i7:s.to=(m:Int))(hbg:s.bg=((m-r.length:Nat):Int))(he:s.e=0){jm:Nat}(h2:jm≠0)(g0:j≠jm)(l':jr≠jm)(j3:Mac O w jm s.mc kn)
  (hr:r <:+ s.l.take m) (f':JZ ct 69 7 O w jr s.ru xs) (l9:xs.length<=40) (h:Rd6 O w j rb s) :
  KD Jp 96 [nP rb] w fun _ w'=>IM B O w w' j jr rb s xs (if xs.length=40 then .bad 0 3 else iZ kn r):=by
 obtain⟨T0,j6,i4⟩:=hR.bound;obtain⟨T,g7,h',l3,hT⟩:∃T,0<T/\jr<T/\jm<T/\∀b,O b<T:=⟨T0+jr+jm+1,by omega,by omega,by omega,fun b=>by have:=i4 b;omega⟩
 clear j6 i4 T0;have f7:j<T:=by rw[<-h.tag];exact hT rb
 have b2:¬(fun q:Nat=>q=j\/q=jr\/T<=q) 0:=fun e=>by rcases e with e|e|e;exact hj e.symm;exact b0 e.symm;omega
 have j1:¬(fun q:Nat=>q=j\/q=jr) 0:=fun e=>by rcases e with e|e;exact hj e.symm;exact b0 e.symm
 have k5:(s.l.take m).length=m:=by simp;omega
 have k':=hr.length_le;rw[k5]at k';have c8:=Dl hr;rw[k5]at c8;have q0:=h.q0;have q2:=h.q2;rw[i7]at q2;have q3:=h.q3;rw[hbg]at q3;have q8:=h.q8;have k9:=f'.sl;refine J3 func96 ntmps96 rfl rfl ?_;refine zg ?_;refine zv (RV.ld q8 rfl) ?_;refine zvG (RV.len (by first|exact k9) Nw rfl) ?_
 by_cases j8:xs.length=40
 ·rw[if_pos j8];refine aR rfl ((by rw[j8];rfl)) ?_;have k7:w.drew.cell? ⟨rb,3,none⟩=some (nI ((m-r.length:Nat):Int)):=q3;refine zg ?_;refine ME 8 rfl rfl zk zk ?_;refine zg ?_;refine zw (RV.ld k7 rfl) ?_;refine Nm ?_;refine zc MY (bD O w.drew j rb s ((m-r.length:Nat):Int) 3 hj he h.drew) ?_;rintro v w1 ⟨f8,k3⟩;refine zg ?_;refine cz rfl ⟨O,s.ru,(Mp k3).mono (fun _ h=>.inl h) j1,hR.drew.upd k3,by decide,?_⟩;rw[show s.bg+((0:Nat):Int)=((m-r.length:Nat):Int)from by rw[hbg];simp];exact f8
 rw[if_neg j8];refine aN rfl ((beq_eq_false_iff_ne.2 zo)) ?_;have hd:=h.drew;have d0:=hd.q0;have d2:=hd.q2;rw[i7]at d2;have d3:=hd.q3;rw[hbg]at d3;refine zg ?_;refine ME 16 rfl rfl zk zk ?_;refine zg ?_;refine zwG (RV.ld d0 rfl) ?_;refine zwG (RV.ld d3 rfl) ?_;refine zw (RV.ld d2 rfl) ?_;refine zw (cT J1 rfl rfl rfl (m-r.length) m rfl rfl zo hm) ?_;refine Nm ?_;rw[c8];refine zc call134 (mE r w.drew) ?_;rintro v w1 ⟨rfl,l7⟩;have i8:Ju (fun _=>False) O w.drew O w1:=aa (fun h=>h) O l7;have f8:=hd.upd i8 hj (fun h=>h);have j9:=f'.drew.upd i8 b0 (fun h=>h);have j0:=hR.drew.upd i8;have e8:Ju (fun q=>q=j\/T<=q) O w O w1:=Mp (i8.mono (fun _ h=>h.elim) (fun e=>by rcases e with e|e;exact hj e.symm;omega));have e2:=f8.q2;rw[i7]at e2;have e3:=f8.q3;rw[hbg]at e3
 cases hf:r.findIdx? xU with
 |none=>
  have hi:lW r = -1:=by unfold lW;rw[hf]
  have hM:iZ kn r=.bad r.length 4:=by unfold iZ;rw[hf]
  rw[hi,hM];refine zg ?_;refine aR rfl rfl ?_;have l8:w1.drew.cell? ⟨rb,2,none⟩=some (nI (m:Int)):=e2;refine zg ?_;refine ME 8 rfl rfl zk zk ?_;refine zg ?_;refine zw (RV.ld l8 rfl) ?_;refine Nm ?_;refine zc MY (bD O w1.drew j rb s (m:Int) 4 hj he f8.drew) ?_;rintro v w2 ⟨l5,k2⟩;refine zg ?_;refine cz rfl ⟨O,s.ru,(e8.fgt (S':=fun k=>k=j\/k=jr) (fun b hb=>.inl (hb.resolve_right (by have:=hT b;omega))) j1).trans ((Mp k2).mono (fun _ h=>.inl h) j1),j0.drew.upd k2,by decide,?_⟩;rw[show s.bg+(r.length:Int)=(m:Int)from by rw[hbg];omega];exact l5
 |some k=>
  obtain⟨hk,m1,m0⟩:=Jm.1 hf;have hi:lW r=(k:Nat):=by unfold lW;rw[hf]
  rw[hi];have j4:s.l[k+(m-r.length)]? = some (nth r k):=by
   have h1:(s.l.take m)[m-r.length+k]? = r[k]?:=by rw[<-c8,List.getElem?_drop,c8]
   rw[aB hk];exact mM (m:=m) (by rw[LF,h1];exact Ji hk)
  have f4:(s.l.take (k+(m-r.length))).drop (m-r.length)=r.take k:=by
   rw[<-c8,MQ,Ko,KI zo,c8,LF]
  have h5:(s.l.take m).drop (k+(m-r.length)+1)=r.drop (k+1):=by
   rw[<-c8,List.drop_drop,c8];congr 1;omega
  generalize i0:(((nth r k).toNat:Int)==47)=brk;refine zg ?_;refine zFG rfl ((decide_eq_false zo)) ?_;refine zv (RV.ld e3 rfl) ?_;refine zvG (L7 rfl rfl (KH zo)) ?_;rw[show(k:Int)+((m-r.length:Nat):Int)=((k+(m-r.length):Nat):Int)from by omega];refine iy (fun z:(Nat->Nat)×World×Nat×N3=>[(0,nP rb),(2,nI ((k+(m-r.length):Nat):Int)),(3,.pointer (some ⟨z.2.2.1,0,none⟩))]) (fun z:(Nat->Nat)×World×Nat×N3=>z.2.1) (fun z:(Nat->Nat)×World×Nat×N3=>JI z.1 z.2.1 T z.2.2.1 (ct (z.2.2.2,(0,0,nS),brk)).toArray 69/\Ju (fun q=>q=j\/T<=q) O w z.1 z.2.1/\KV B z.1 z.2.1/\PostS z.1 z.2.1 j rb s (m-r.length) z.2.2.2 (oH kn (r.take k))) ?_ ?_
  ·intro Qm hN;refine aG (fun V=>V.cell? ⟨rb,0,none⟩=some (.string (bs s.l))/\V.cell? ⟨rb,3,none⟩=some (nI ((m-r.length:Nat):Int))) 19 rfl zk ?_;refine zin ⟨f8.drew.q0,e3⟩ fun zS=>?_
   refine zrm 0 rfl zS rfl ?_;refine zrm 1 rfl zS rfl ?_
   refine zr 2 rfl zS (fun _=>ao rfl) ?_;refine zrf 3 rfl zS rfl ?_
   refine zrf 4 rfl zS rfl ?_;refine zt 5 rfl zS (fun w1 e5=>RV.ld e5.2 rfl) ?_
   refine zrm 6 rfl zS rfl ?_;refine zrm 8 rfl zS rfl ?_
   refine zr 9 rfl zS (fun _=>ao rfl) ?_;refine zrf 10 rfl zS rfl ?_
   refine zrf 11 rfl zS rfl ?_;refine zt 12 rfl zS (fun w1 e5=>RV.ld e5.1 rfl) ?_
   refine zrm 13 rfl zS rfl ?_;refine zr 14 rfl zS (fun _=>bj (c:=nth r k) J1 rfl rfl (k+(m-r.length)) rfl j4) ?_
   refine zr 15 rfl zS (fun _=>RV.eql rfl rfl) ?_;rw[i0];refine bL 7 17 zk rfl rfl ?_ ?_
   ·refine zc NB (qx B O w1.drew j rb s (m-r.length) (k+(m-r.length)) j0.drew hj he h2 g0 (j3.upd (M6 e8) h2 zo) zo zo hl f8.drew) ?_;rintro v w3 ⟨x1,rfl,h4,e4⟩;rw[f4]at e4;refine zg ?_
    refine ae (uy (hbg:=hbg) e4) ?_;refine zr 16 rfl (uy (hbg:=hbg) e4) (fun _=>N1 (cells:=(ct (x1,(0,0,nS),brk)).toArray) Gm (Lo _) rfl rfl) ?_
    refine Jn 17 zk rfl ?_;refine aw (j0.drew.upd h4) T zo (Lo _) rfl ?_
    intro xb w4 O4 d8 e0 i5 k6;have e1:=e4.upd e0 hj zo;refine zg ?_;refine ae (uy (hbg:=hbg) e1) ?_;refine Jn 18 zk rfl ?_;refine zsb (us:=(ct (x1,(0,0,nS),brk)).toArray) d8 (KJ _) (jY e4.one rfl) ?_;have f9:=d8.setRow (us:=(ct (x1,(0,0,nS),brk)).toArray);have d':Ju (fun q=>q=T) O4 w4 O4 (w4.setRow xb (ct (x1,(0,0,nS),brk)).toArray):=J9 zo d8.tag rfl;have e':=e1.upd d' hj zo;refine zg ?_;refine ae (uy (hbg:=hbg) e') ?_;refine JP zk ?_;exact iC (hN ((O4,_,xb,x1)) (⟨f9,(((M6 e8).trans (h4.pj g7)).trans (e0.pT hj g7 (J4 _))).trans (d'.pT hj g7 (J4 _)),i5.upd d',e'⟩)) ⟨rfl,rfl,rfl,trivial⟩ rfl
   refine aw j0.drew T zo (Lo _) rfl ?_;intro xb w3 O3 g9 h4 g8 m2;have d7:=f8.drew.upd h4 hj zo;have f3:=d7.q3;rw[hbg]at f3;refine zg ?_
   refine ae ⟨d7.q0,f3⟩ ?_;refine Jn 7 zk rfl ?_
   refine zc NB (qx B O3 w3 j rb s (m-r.length) (k+(m-r.length)) g8 hj he h2 g0 (j3.upd ((M6 e8).trans (h4.pT hj g7 (J4 _))) h2 zo) zo zo hl d7) ?_;rintro v w4 ⟨x1,rfl,e0,e1⟩;rw[f4]at e1;have d8:=g9.upd e0 zo zo;refine zg ?_
   refine ae (uy (hbg:=hbg) e1) ?_;refine zr 16 rfl (uy (hbg:=hbg) e1) (fun _=>N1 (cells:=(ct (x1,(0,0,nS),brk)).toArray) Gm (Lo _) rfl rfl) ?_
   refine Jn 18 zk rfl ?_;refine zsb (us:=(ct (x1,(0,0,nS),brk)).toArray) d8 (KJ _) (jY e1.one rfl) ?_
   have f9:=d8.setRow (us:=(ct (x1,(0,0,nS),brk)).toArray);have d':Ju (fun q=>q=T) O3 w4 O3 (w4.setRow xb (ct (x1,(0,0,nS),brk)).toArray):=J9 zo d8.tag rfl;have e':=e1.upd d' hj zo;refine zg ?_;refine ae (uy (hbg:=hbg) e') ?_;refine JP zk ?_;exact iC (hN ((O3,_,xb,x1)) (⟨f9,(((M6 e8).trans (h4.pT hj g7 (J4 _))).trans (e0.pj g7)).trans (d'.pT hj g7 (J4 _)),(g8.upd e0).upd d',e'⟩)) ⟨rfl,rfl,rfl,trivial⟩ rfl
  rintro⟨O3,w3,xb,x1⟩ ⟨g9,g3,g8,e4⟩;dsimp only at g9 g3 g8 e4 ⊢;have f6:=f'.upd g3 b0 (fun e=>by rcases e with e|e;exact e7 e.symm;omega);have hx1o:=e4.one;have g4:Ju (fun q=>q=j\/q=jr\/T<=q) O w O3 w3:=g3.mono (fun _ h=>h.elim .inl (fun h=>.inr (.inr h))) b2;refine zg ?_
  cases g':oH kn (r.take k)with
  |bad p e=>
   have hM:iZ kn r=.bad p e:=by unfold iZ;rw[hf];dsimp only;rw[g']
   rw[hM];rw[g']at e4;obtain⟨rfl,c9,d7⟩:=e4;replace d7:JI O3 w3 j rb ({s with bad:=((m-r.length:Nat):Int)+(p:Int),e:=e}:LS).cells 128:=d7;refine zg ?_;refine zvG (RV.ld d7.q5 rfl) ?_;refine zFG rfl ((by simpa using c9)) ?_;refine zv (af (us:=aV ((0,0,nS):N3)) (jB g9) (J8 _) (J0 _) rfl) ?_;refine zc Nk (ku (.mk 0 0 []) (0,0,nS) w3 (Nc _ _ _ _)) ?_;rintro v w4 ⟨rfl,k6⟩;have i1:Ju (fun _=>False) O3 w3 O3 w4:=aa (fun h=>h) O3 k6;have k1:=d7.upd i1 hj (fun h=>h);have d8:=g9.upd i1 zo (fun h=>h);have e6:=f6.upd i1 b0 (fun h=>h);have i5:=g8.upd i1;have c5:=g4.trans (i1.mono (fun _ h=>h.elim) b2);refine zg ?_;refine zvG (RV.ld k1.q5 rfl) ?_;refine az (d:=98) rfl (b':=false) ((by simpa using c9)) ?_;obtain⟨x1,hx1e⟩:∃x1:N3,x1=(0,0,nS):=⟨_,rfl⟩
   obtain⟨x2,hx2e⟩:∃x2:N3,x2=(0,0,nS):=⟨_,rfl⟩
   have hx2o:x2.2.2.oneCell'=true:=by rw[hx2e];rfl
   have hx1o:x1.2.2.oneCell'=true:=by rw[hx1e];rfl
   have j2:JI O3 w4 T xb (ct (x1,x2,brk)).toArray 69:=by rw[hx1e,hx2e];exact d8
   have c':=(Jy k1)
   have c6:=(Jy j2)
   have a':=(Lu e6)
   have e9:=(M7 i5)
   refine zg ?_;refine zFG rfl rfl ?_
   refine aG (fun V=>∀(q:Nat) (u:ka),(ct (x1,x2,brk))[q]? = some u->V.cell? (nA xb q)=some u) 13 rfl zk ?_;refine zin c6.cellsAdd fun zS=>?_
   refine zrm 0 rfl zS rfl ?_;refine zrm 1 rfl zS rfl ?_
   refine zr 2 rfl zS (fun _=>ao rfl) ?_;refine zrf 3 rfl zS rfl ?_
   refine zrf 4 rfl zS rfl ?_;refine zt 6 rfl zS (fun w1 e5=>af (us:=ct (x1,x2,brk)) e5 (Lw _) (KJ _) rfl) ?_
   refine bL 5 7 zk rfl rfl ?_ ?_
   ·refine zvG (RV.ld c'.q8 rfl) ?_;refine ae c6.cellsAdd ?_
    refine Jn 7 zk rfl ?_;refine aJ elR (enc:=ct) (x1,x2,brk) rfl rfl rfl zd rfl ?_
    intro w9 h9 d5;have a5:Ju (fun _=>False) O3 (JB w4) O3 w9:=aa (fun h=>h) O3 d5;have c7:=c'.upd a5 hj (fun h=>h);have b9:=c6.upd a5 zo (fun h=>h);have a7:=a'.upd a5 b0 (fun h=>h);have d4:=e9.upd a5;have b6:=(c5.drew).trans (a5.mono (fun _ h=>h.elim) b2);refine zg ?_;refine ae b9.cellsAdd ?_;have a8:∀u∈[(x1,x2,brk)],∀c∈ct u,c.oneCell'=true:=fun u hu=>by
     rw[J5.1 hu];exact bP hx1o hx2o
    refine Jn 8 zk rfl ?_;refine aC elR a7 d4 h9 (by simp) rfl rfl (fun _ _=>rfl) a8 (by simp;omega) (by simp;omega) zo rfl ?_
    intro a2 b1 O10 a0 a3 b8;have a4:=Jh c7 a3 hj zo;have a6:=Jh b9 a3 zo zo;have b4:=a0.one;refine zg ?_;refine zaf a6.cellsAdd fun zS=>?_
    refine zr 9 rfl zS (fun _=>ao rfl) ?_;refine zrf 10 rfl zS rfl ?_
    refine zrf 11 rfl zS rfl ?_;refine Jn 12 zk rfl ?_
    refine aj (j:=8) a4 rfl (KK _) b4 rfl rfl rfl ?_;have b5:=a4.s_ru a2;have a1:Ju (fun q=>q=j) O10 b1 O10 (b1.setCell ⟨rb,8,none⟩ a2):=JM (fun e=>hj e.symm) a4.tag rfl;have b3:=a6.upd a1 zo zo;have a9:=a0.upd a1 b0 (fun e=>e7 e.symm);have b7:=b8.upd a1;refine zg ?_
    refine ae b3.cellsAdd ?_;refine JP zk ?_
    have d1:Ju (fun q=>q=j\/q=jr\/T<=q) O w O10 (b1.setCell ⟨rb,8,none⟩ a2):=(b6.trans (a3.mono (fun _ h=>.inr (.inl h)) b2)).trans (a1.mono (fun _ h=>.inl h) b2);refine aH rfl ⟨lowT O10 T,a2,d1.lowT hT (fun b hb=>by have:=hT b;rcases hb with h|h|h;exact .inl h;exact .inr h;omega) (fun e=>by rcases e with e|e;exact hj e.symm;exact b0 e.symm),b7.lowT T,?_⟩;exact⟨c9,by rw[show s.bg+(p:Int)=((m-r.length:Nat):Int)+(p:Int)from by rw[hbg]];exact b5.lowT f7⟩
   refine aJ elR (enc:=ct) (x1,x2,brk) rfl rfl rfl zd rfl ?_;intro w9 h9 d5;have a5:Ju (fun _=>False) O3 (JB w4) O3 w9:=aa (fun h=>h) O3 d5;have c7:=c'.upd a5 hj (fun h=>h);have b9:=c6.upd a5 zo (fun h=>h);have a7:=a'.upd a5 b0 (fun h=>h);have d4:=e9.upd a5;have b6:=(c5.drew).trans (a5.mono (fun _ h=>h.elim) b2);refine zg ?_
   refine ae b9.cellsAdd ?_;refine Jn 5 zk rfl ?_
   refine zvG (RV.ld c7.q8 rfl) ?_;refine ae b9.cellsAdd ?_
   have a8:∀u∈[(x1,x2,brk)],∀c∈ct u,c.oneCell'=true:=fun u hu=>by
    rw[J5.1 hu];exact bP hx1o hx2o
   refine Jn 8 zk rfl ?_;refine aC elR a7 d4 h9 (by simp) rfl rfl (fun _ _=>rfl) a8 (by simp;omega) (by simp;omega) zo rfl ?_
   intro a2 b1 O10 a0 a3 b8;have a4:=Jh c7 a3 hj zo;have a6:=Jh b9 a3 zo zo;have b4:=a0.one;refine zg ?_;refine zaf a6.cellsAdd fun zS=>?_
   refine zr 9 rfl zS (fun _=>ao rfl) ?_;refine zrf 10 rfl zS rfl ?_
   refine zrf 11 rfl zS rfl ?_;refine Jn 12 zk rfl ?_
   refine aj (j:=8) a4 rfl (KK _) b4 rfl rfl rfl ?_;have b5:=a4.s_ru a2;have a1:Ju (fun q=>q=j) O10 b1 O10 (b1.setCell ⟨rb,8,none⟩ a2):=JM (fun e=>hj e.symm) a4.tag rfl;have b3:=a6.upd a1 zo zo;have a9:=a0.upd a1 b0 (fun e=>e7 e.symm);have b7:=b8.upd a1;refine zg ?_
   refine ae b3.cellsAdd ?_;refine JP zk ?_
   have d1:Ju (fun q=>q=j\/q=jr\/T<=q) O w O10 (b1.setCell ⟨rb,8,none⟩ a2):=(b6.trans (a3.mono (fun _ h=>.inr (.inl h)) b2)).trans (a1.mono (fun _ h=>.inl h) b2);refine aH rfl ⟨lowT O10 T,a2,d1.lowT hT (fun b hb=>by have:=hT b;rcases hb with h|h|h;exact .inl h;exact .inr h;omega) (fun e=>by rcases e with e|e;exact hj e.symm;exact b0 e.symm),b7.lowT T,?_⟩;exact⟨c9,by rw[show s.bg+(p:Int)=((m-r.length:Nat):Int)+(p:Int)from by rw[hbg]];exact b5.lowT f7⟩
  |ok a=>
   rw[g']at e4;obtain⟨l2,d7⟩:=e4;replace d7:JI O3 w3 j rb s.cells 128:=d7;have g2:=d7.q2;rw[i7]at g2;have g5:=d7.q5;rw[he]at g5;refine zg ?_;refine zvG (RV.ld g5 rfl) ?_;refine zTG rfl rfl ?_;refine zvG (L7 rfl rfl (KH zo)) ?_;refine zv (RV.ld g2 rfl) ?_;rw[show((k+(m-r.length):Nat):Int)+1=((k+(m-r.length)+1:Nat):Int)from by omega];refine zc NB (qx B O3 w3 j rb s (k+(m-r.length)+1) m g8 hj he h2 g0 (j3.upd g4 h2 zo) zo hm hl d7) ?_;rintro v w4 ⟨x2,rfl,e0,e1⟩;rw[h5]at e1;have hx2o:=e1.one;have d8:=g9.upd e0 zo zo;have e6:=f6.upd e0 b0 (fun e=>e7 e.symm);have i5:=g8.upd e0;have j5:=g4.trans (e0.mono (fun _ h=>.inl h) b2);have l1:=l2.upd e0;refine zg ?_;refine kV 3 (us:=#[nI x2.1,nI x2.2.1,x2.2.2]) d8 (Nat.le_of_ble_eq_true rfl) (J0 _) (bZ hx2o) rfl rfl rfl ?_;rw[show((ct (x1,(0,0,nS),brk)).toArray.toList.take 3++(#[nI x2.1,nI x2.2.1,x2.2.2]:Array ka).toList++(ct (x1,(0,0,nS),brk)).toArray.toList.drop (3+(#[nI x2.1,nI x2.2.1,x2.2.2]:Array ka).size)).toArray=(ct (x1,x2,brk)).toArray from rfl];have f9:=d8.setRow (us:=(ct (x1,x2,brk)).toArray);have d':Ju (fun q=>q=T) O3 w4 O3 (w4.setRow xb (ct (x1,x2,brk)).toArray):=J9 zo d8.tag rfl;have e':=e1.upd d' hj zo;have f5:=e6.upd d' b0 zo;have k4:=i5.upd d';have i3:=j5.trans (d'.mono (fun _ h=>.inr (.inr (JV h.symm))) b2);have l0:=l1.upd d';generalize w4.setRow xb (ct (x1,x2,brk)).toArray=w5 at *;refine zg ?_
   refine zv (af (us:=aV x2) (jB f9) (J8 _) (J0 _) rfl) ?_
   cases h6:oH kn (r.drop (k+1))with
   |bad p e=>
    have hM:iZ kn r=.bad (k+1+p) e:=by unfold iZ;rw[hf];dsimp only;rw[g'];dsimp only;rw[h6]
    rw[hM];rw[h6]at e';obtain⟨hx2e,c9,g1⟩:=e';replace g1:JI O3 w5 j rb ({s with bad:=((k+(m-r.length)+1:Nat):Int)+(p:Int),e:=e}:LS).cells 128:=g1;refine zc Nk (ku (.mk 0 0 []) x2 w5 (by rw[hx2e];exact Nc _ _ _ _)) ?_;rintro v w6 ⟨rfl,j7⟩;have d9:Ju (fun _=>False) O3 w5 O3 w6:=aa (fun h=>h) O3 j7;have h3:=g1.upd d9 hj (fun h=>h);have i6:=f9.upd d9 zo (fun h=>h);have d6:=f5.upd d9 b0 (fun h=>h);have i':=k4.upd d9;have c5:=i3.trans (d9.mono (fun _ h=>h.elim) b2);refine zg ?_;refine zvG (RV.ld h3.q5 rfl) ?_;refine az (d:=98) rfl (b':=false) ((by simpa using c9)) ?_;have c':=(Jy h3)
    have c6:=(Jy i6)
    have a':=(Lu d6)
    have e9:=(M7 i')
    refine zg ?_;refine zFG rfl rfl ?_
    refine aG (fun V=>∀(q:Nat) (u:ka),(ct (x1,x2,brk))[q]? = some u->V.cell? (nA xb q)=some u) 13 rfl zk ?_;refine zin c6.cellsAdd fun zS=>?_
    refine zrm 0 rfl zS rfl ?_;refine zrm 1 rfl zS rfl ?_
    refine zr 2 rfl zS (fun _=>ao rfl) ?_;refine zrf 3 rfl zS rfl ?_
    refine zrf 4 rfl zS rfl ?_;refine zt 6 rfl zS (fun w1 e5=>af (us:=ct (x1,x2,brk)) e5 (Lw _) (KJ _) rfl) ?_
    refine bL 5 7 zk rfl rfl ?_ ?_
    ·refine zvG (RV.ld c'.q8 rfl) ?_;refine ae c6.cellsAdd ?_
     refine Jn 7 zk rfl ?_;refine aJ elR (enc:=ct) (x1,x2,brk) rfl rfl rfl zd rfl ?_
     intro w9 h9 d5;have a5:Ju (fun _=>False) O3 (JB w6) O3 w9:=aa (fun h=>h) O3 d5;have c7:=c'.upd a5 hj (fun h=>h);have b9:=c6.upd a5 zo (fun h=>h);have a7:=a'.upd a5 b0 (fun h=>h);have d4:=e9.upd a5;have b6:=(c5.drew).trans (a5.mono (fun _ h=>h.elim) b2);refine zg ?_;refine ae b9.cellsAdd ?_;have a8:∀u∈[(x1,x2,brk)],∀c∈ct u,c.oneCell'=true:=fun u hu=>by
      rw[J5.1 hu];exact bP hx1o hx2o
     refine Jn 8 zk rfl ?_;refine aC elR a7 d4 h9 (by simp) rfl rfl (fun _ _=>rfl) a8 (by simp;omega) (by simp;omega) zo rfl ?_
     intro a2 b1 O10 a0 a3 b8;have a4:=Jh c7 a3 hj zo;have a6:=Jh b9 a3 zo zo;have b4:=a0.one;refine zg ?_;refine zaf a6.cellsAdd fun zS=>?_
     refine zr 9 rfl zS (fun _=>ao rfl) ?_;refine zrf 10 rfl zS rfl ?_
     refine zrf 11 rfl zS rfl ?_;refine Jn 12 zk rfl ?_
     refine aj (j:=8) a4 rfl (KK _) b4 rfl rfl rfl ?_;have b5:=a4.s_ru a2;have a1:Ju (fun q=>q=j) O10 b1 O10 (b1.setCell ⟨rb,8,none⟩ a2):=JM (fun e=>hj e.symm) a4.tag rfl;have b3:=a6.upd a1 zo zo;have a9:=a0.upd a1 b0 (fun e=>e7 e.symm);have b7:=b8.upd a1;refine zg ?_
     refine ae b3.cellsAdd ?_;refine JP zk ?_
     have d1:Ju (fun q=>q=j\/q=jr\/T<=q) O w O10 (b1.setCell ⟨rb,8,none⟩ a2):=(b6.trans (a3.mono (fun _ h=>.inr (.inl h)) b2)).trans (a1.mono (fun _ h=>.inl h) b2);refine aH rfl ⟨lowT O10 T,a2,d1.lowT hT (fun b hb=>by have:=hT b;rcases hb with h|h|h;exact .inl h;exact .inr h;omega) (fun e=>by rcases e with e|e;exact hj e.symm;exact b0 e.symm),b7.lowT T,?_⟩;exact⟨c9,by rw[show s.bg+((k+1+p:Nat):Int)=((k+(m-r.length)+1:Nat):Int)+(p:Int)from by rw[hbg];omega];exact b5.lowT f7⟩
    refine aJ elR (enc:=ct) (x1,x2,brk) rfl rfl rfl zd rfl ?_;intro w9 h9 d5;have a5:Ju (fun _=>False) O3 (JB w6) O3 w9:=aa (fun h=>h) O3 d5;have c7:=c'.upd a5 hj (fun h=>h);have b9:=c6.upd a5 zo (fun h=>h);have a7:=a'.upd a5 b0 (fun h=>h);have d4:=e9.upd a5;have b6:=(c5.drew).trans (a5.mono (fun _ h=>h.elim) b2);refine zg ?_
    refine ae b9.cellsAdd ?_;refine Jn 5 zk rfl ?_
    refine zvG (RV.ld c7.q8 rfl) ?_;refine ae b9.cellsAdd ?_
    have a8:∀u∈[(x1,x2,brk)],∀c∈ct u,c.oneCell'=true:=fun u hu=>by
     rw[J5.1 hu];exact bP hx1o hx2o
    refine Jn 8 zk rfl ?_;refine aC elR a7 d4 h9 (by simp) rfl rfl (fun _ _=>rfl) a8 (by simp;omega) (by simp;omega) zo rfl ?_
    intro a2 b1 O10 a0 a3 b8;have a4:=Jh c7 a3 hj zo;have a6:=Jh b9 a3 zo zo;have b4:=a0.one;refine zg ?_;refine zaf a6.cellsAdd fun zS=>?_
    refine zr 9 rfl zS (fun _=>ao rfl) ?_;refine zrf 10 rfl zS rfl ?_
    refine zrf 11 rfl zS rfl ?_;refine Jn 12 zk rfl ?_
    refine aj (j:=8) a4 rfl (KK _) b4 rfl rfl rfl ?_;have b5:=a4.s_ru a2;have a1:Ju (fun q=>q=j) O10 b1 O10 (b1.setCell ⟨rb,8,none⟩ a2):=JM (fun e=>hj e.symm) a4.tag rfl;have b3:=a6.upd a1 zo zo;have a9:=a0.upd a1 b0 (fun e=>e7 e.symm);have b7:=b8.upd a1;refine zg ?_
    refine ae b3.cellsAdd ?_;refine JP zk ?_
    have d1:Ju (fun q=>q=j\/q=jr\/T<=q) O w O10 (b1.setCell ⟨rb,8,none⟩ a2):=(b6.trans (a3.mono (fun _ h=>.inr (.inl h)) b2)).trans (a1.mono (fun _ h=>.inl h) b2);refine aH rfl ⟨lowT O10 T,a2,d1.lowT hT (fun b hb=>by have:=hT b;rcases hb with h|h|h;exact .inl h;exact .inr h;omega) (fun e=>by rcases e with e|e;exact hj e.symm;exact b0 e.symm),b7.lowT T,?_⟩;exact⟨c9,by rw[show s.bg+((k+1+p:Nat):Int)=((k+(m-r.length)+1:Nat):Int)+(p:Int)from by rw[hbg];omega];exact b5.lowT f7⟩
   |ok b=>
    rw[h6]at e';obtain⟨h8,g1⟩:=e';replace g1:JI O3 w5 j rb s.cells 128:=g1;refine zc Nk (ku b x2 w5 h8.zero) ?_;rintro v w6 ⟨rfl,j7⟩;have d9:Ju (fun _=>False) O3 w5 O3 w6:=aa (fun h=>h) O3 j7;have h3:=g1.upd d9 hj (fun h=>h);have i6:=f9.upd d9 zo (fun h=>h);have d6:=f5.upd d9 b0 (fun h=>h);have i':=k4.upd d9;have i2:=i3.trans (d9.mono (fun _ h=>h.elim) b2);have k0:=l0.upd d9;have j':=h8.upd d9;have g6:=h3.q5;rw[he]at g6;refine zg ?_;refine zvG (RV.ld g6 rfl) ?_;refine az (d:=98) rfl (b':=true) (rfl) ?_;refine zg ?_
    by_cases h0:fH b=0
    ·have hM:iZ kn r=.ok (a,b,brk):=by unfold iZ;rw[hf];dsimp only;rw[g'];dsimp only;rw[h6];dsimp only;rw[if_neg (by simpa using h0),i0]
     rw[hM];have c5:=i2;refine aN rfl ((by rw[h0];rfl)) ?_;have c':=(Jy h3)
     have c6:=(Jy i6)
     have a':=(Lu d6)
     have e9:=(M7 i')
     refine zg ?_;refine aG (fun V=>∀(q:Nat) (u:ka),(ct (x1,x2,brk))[q]? = some u->V.cell? (nA xb q)=some u) 13 rfl zk ?_
     refine zin c6.cellsAdd fun zS=>?_
     refine zrm 0 rfl zS rfl ?_;refine zrm 1 rfl zS rfl ?_
     refine zr 2 rfl zS (fun _=>ao rfl) ?_;refine zrf 3 rfl zS rfl ?_
     refine zrf 4 rfl zS rfl ?_;refine zt 6 rfl zS (fun w1 e5=>af (us:=ct (x1,x2,brk)) e5 (Lw _) (KJ _) rfl) ?_
     refine bL 5 7 zk rfl rfl ?_ ?_
     ·refine zvG (RV.ld c'.q8 rfl) ?_;refine ae c6.cellsAdd ?_
      refine Jn 7 zk rfl ?_;refine aJ elR (enc:=ct) (x1,x2,brk) rfl rfl rfl zd rfl ?_
      intro w9 h9 d5;have a5:Ju (fun _=>False) O3 (JB w6) O3 w9:=aa (fun h=>h) O3 d5;have c7:=c'.upd a5 hj (fun h=>h);have b9:=c6.upd a5 zo (fun h=>h);have a7:=a'.upd a5 b0 (fun h=>h);have d4:=e9.upd a5;have b6:=(c5.drew).trans (a5.mono (fun _ h=>h.elim) b2);refine zg ?_;refine ae b9.cellsAdd ?_;have a8:∀u∈[(x1,x2,brk)],∀c∈ct u,c.oneCell'=true:=fun u hu=>by
       rw[J5.1 hu];exact bP hx1o hx2o
      refine Jn 8 zk rfl ?_;refine aC elR a7 d4 h9 (by simp) rfl rfl (fun _ _=>rfl) a8 (by simp;omega) (by simp;omega) zo rfl ?_
      intro a2 b1 O10 a0 a3 b8;have a4:=Jh c7 a3 hj zo;have a6:=Jh b9 a3 zo zo;have b4:=a0.one;refine zg ?_;refine zaf a6.cellsAdd fun zS=>?_
      refine zr 9 rfl zS (fun _=>ao rfl) ?_;refine zrf 10 rfl zS rfl ?_
      refine zrf 11 rfl zS rfl ?_;refine Jn 12 zk rfl ?_
      refine aj (j:=8) a4 rfl (KK _) b4 rfl rfl rfl ?_;have b5:=a4.s_ru a2;have a1:Ju (fun q=>q=j) O10 b1 O10 (b1.setCell ⟨rb,8,none⟩ a2):=JM (fun e=>hj e.symm) a4.tag rfl;have b3:=a6.upd a1 zo zo;have a9:=a0.upd a1 b0 (fun e=>e7 e.symm);have b7:=b8.upd a1;refine zg ?_
      refine ae b3.cellsAdd ?_;refine JP zk ?_
      have d1:Ju (fun q=>q=j\/q=jr\/T<=q) O w O10 (b1.setCell ⟨rb,8,none⟩ a2):=(b6.trans (a3.mono (fun _ h=>.inr (.inl h)) b2)).trans (a1.mono (fun _ h=>.inl h) b2);refine aH rfl ⟨lowT O10 T,a2,d1.lowT hT (fun b hb=>by have:=hT b;rcases hb with h|h|h;exact .inl h;exact .inr h;omega) (fun e=>by rcases e with e|e;exact hj e.symm;exact b0 e.symm),b7.lowT T,?_⟩;exact⟨(x1,x2,brk),a9.lowT h',⟨((((k0.drew).upd a5).upd a3).upd a1).weak (fun b e=>jh e),((((j'.drew).upd a5).upd a3).upd a1).weak (fun b e=>jh e),rfl⟩,b5.lowT f7⟩
     refine aJ elR (enc:=ct) (x1,x2,brk) rfl rfl rfl zd rfl ?_;intro w9 h9 d5;have a5:Ju (fun _=>False) O3 (JB w6) O3 w9:=aa (fun h=>h) O3 d5;have c7:=c'.upd a5 hj (fun h=>h);have b9:=c6.upd a5 zo (fun h=>h);have a7:=a'.upd a5 b0 (fun h=>h);have d4:=e9.upd a5;have b6:=(c5.drew).trans (a5.mono (fun _ h=>h.elim) b2);refine zg ?_
     refine ae b9.cellsAdd ?_;refine Jn 5 zk rfl ?_
     refine zvG (RV.ld c7.q8 rfl) ?_;refine ae b9.cellsAdd ?_
     have a8:∀u∈[(x1,x2,brk)],∀c∈ct u,c.oneCell'=true:=fun u hu=>by
      rw[J5.1 hu];exact bP hx1o hx2o
     refine Jn 8 zk rfl ?_;refine aC elR a7 d4 h9 (by simp) rfl rfl (fun _ _=>rfl) a8 (by simp;omega) (by simp;omega) zo rfl ?_
     intro a2 b1 O10 a0 a3 b8;have a4:=Jh c7 a3 hj zo;have a6:=Jh b9 a3 zo zo;have b4:=a0.one;refine zg ?_;refine zaf a6.cellsAdd fun zS=>?_
     refine zr 9 rfl zS (fun _=>ao rfl) ?_;refine zrf 10 rfl zS rfl ?_
     refine zrf 11 rfl zS rfl ?_;refine Jn 12 zk rfl ?_
     refine aj (j:=8) a4 rfl (KK _) b4 rfl rfl rfl ?_;have b5:=a4.s_ru a2;have a1:Ju (fun q=>q=j) O10 b1 O10 (b1.setCell ⟨rb,8,none⟩ a2):=JM (fun e=>hj e.symm) a4.tag rfl;have b3:=a6.upd a1 zo zo;have a9:=a0.upd a1 b0 (fun e=>e7 e.symm);have b7:=b8.upd a1;refine zg ?_
     refine ae b3.cellsAdd ?_;refine JP zk ?_
     have d1:Ju (fun q=>q=j\/q=jr\/T<=q) O w O10 (b1.setCell ⟨rb,8,none⟩ a2):=(b6.trans (a3.mono (fun _ h=>.inr (.inl h)) b2)).trans (a1.mono (fun _ h=>.inl h) b2);refine aH rfl ⟨lowT O10 T,a2,d1.lowT hT (fun b hb=>by have:=hT b;rcases hb with h|h|h;exact .inl h;exact .inr h;omega) (fun e=>by rcases e with e|e;exact hj e.symm;exact b0 e.symm),b7.lowT T,?_⟩;exact⟨(x1,x2,brk),a9.lowT h',⟨((((k0.drew).upd a5).upd a3).upd a1).weak (fun b e=>jh e),((((j'.drew).upd a5).upd a3).upd a1).weak (fun b e=>jh e),rfl⟩,b5.lowT f7⟩
    have hM:iZ kn r=.bad (k+1) (fH b):=by unfold iZ;rw[hf];dsimp only;rw[g'];dsimp only;rw[h6];dsimp only;rw[if_pos (by simpa using h0)]
    rw[hM];refine zTG rfl ((by simpa using h0)) ?_;refine zvG (L7 rfl rfl (KH zo)) ?_;refine zc MY (bD O3 w6 j rb s (((k+(m-r.length):Nat):Int)+1) (fH b) hj he h3) ?_;rintro v w7 ⟨l4,i9⟩;have k8:=i6.upd i9 zo zo;have h7:=d6.upd i9 b0 (fun e=>e7 e.symm);have l6:=i'.upd i9;have c5:=i2.trans (i9.mono (fun _ h=>.inl h) b2);have c':=(Jy l4)
    have c6:=(Jy k8)
    have a':=(Lu h7)
    have e9:=(M7 l6)
    refine zg ?_;refine aG (fun V=>∀(q:Nat) (u:ka),(ct (x1,x2,brk))[q]? = some u->V.cell? (nA xb q)=some u) 13 rfl zk ?_
    refine zin c6.cellsAdd fun zS=>?_
    refine zrm 0 rfl zS rfl ?_;refine zrm 1 rfl zS rfl ?_
    refine zr 2 rfl zS (fun _=>ao rfl) ?_;refine zrf 3 rfl zS rfl ?_
    refine zrf 4 rfl zS rfl ?_;refine zt 6 rfl zS (fun w1 e5=>af (us:=ct (x1,x2,brk)) e5 (Lw _) (KJ _) rfl) ?_
    refine bL 5 7 zk rfl rfl ?_ ?_
    ·refine zvG (RV.ld c'.q8 rfl) ?_;refine ae c6.cellsAdd ?_
     refine Jn 7 zk rfl ?_;refine aJ elR (enc:=ct) (x1,x2,brk) rfl rfl rfl zd rfl ?_
     intro w9 h9 d5;have a5:Ju (fun _=>False) O3 (JB w7) O3 w9:=aa (fun h=>h) O3 d5;have c7:=c'.upd a5 hj (fun h=>h);have b9:=c6.upd a5 zo (fun h=>h);have a7:=a'.upd a5 b0 (fun h=>h);have d4:=e9.upd a5;have b6:=(c5.drew).trans (a5.mono (fun _ h=>h.elim) b2);refine zg ?_;refine ae b9.cellsAdd ?_;have a8:∀u∈[(x1,x2,brk)],∀c∈ct u,c.oneCell'=true:=fun u hu=>by
      rw[J5.1 hu];exact bP hx1o hx2o
     refine Jn 8 zk rfl ?_;refine aC elR a7 d4 h9 (by simp) rfl rfl (fun _ _=>rfl) a8 (by simp;omega) (by simp;omega) zo rfl ?_
     intro a2 b1 O10 a0 a3 b8;have a4:=Jh c7 a3 hj zo;have a6:=Jh b9 a3 zo zo;have b4:=a0.one;refine zg ?_;refine zaf a6.cellsAdd fun zS=>?_
     refine zr 9 rfl zS (fun _=>ao rfl) ?_;refine zrf 10 rfl zS rfl ?_
     refine zrf 11 rfl zS rfl ?_;refine Jn 12 zk rfl ?_
     refine aj (j:=8) a4 rfl (KK _) b4 rfl rfl rfl ?_;have b5:=a4.s_ru a2;have a1:Ju (fun q=>q=j) O10 b1 O10 (b1.setCell ⟨rb,8,none⟩ a2):=JM (fun e=>hj e.symm) a4.tag rfl;have b3:=a6.upd a1 zo zo;have a9:=a0.upd a1 b0 (fun e=>e7 e.symm);have b7:=b8.upd a1;refine zg ?_
     refine ae b3.cellsAdd ?_;refine JP zk ?_
     have d1:Ju (fun q=>q=j\/q=jr\/T<=q) O w O10 (b1.setCell ⟨rb,8,none⟩ a2):=(b6.trans (a3.mono (fun _ h=>.inr (.inl h)) b2)).trans (a1.mono (fun _ h=>.inl h) b2);refine aH rfl ⟨lowT O10 T,a2,d1.lowT hT (fun b hb=>by have:=hT b;rcases hb with h|h|h;exact .inl h;exact .inr h;omega) (fun e=>by rcases e with e|e;exact hj e.symm;exact b0 e.symm),b7.lowT T,?_⟩;exact⟨h0,by rw[show s.bg+((k+1:Nat):Int)=((k+(m-r.length):Nat):Int)+1 from by rw[hbg];omega];exact b5.lowT f7⟩
    refine aJ elR (enc:=ct) (x1,x2,brk) rfl rfl rfl zd rfl ?_;intro w9 h9 d5;have a5:Ju (fun _=>False) O3 (JB w7) O3 w9:=aa (fun h=>h) O3 d5;have c7:=c'.upd a5 hj (fun h=>h);have b9:=c6.upd a5 zo (fun h=>h);have a7:=a'.upd a5 b0 (fun h=>h);have d4:=e9.upd a5;have b6:=(c5.drew).trans (a5.mono (fun _ h=>h.elim) b2);refine zg ?_
    refine ae b9.cellsAdd ?_;refine Jn 5 zk rfl ?_
    refine zvG (RV.ld c7.q8 rfl) ?_;refine ae b9.cellsAdd ?_
    have a8:∀u∈[(x1,x2,brk)],∀c∈ct u,c.oneCell'=true:=fun u hu=>by
     rw[J5.1 hu];exact bP hx1o hx2o
    refine Jn 8 zk rfl ?_;refine aC elR a7 d4 h9 (by simp) rfl rfl (fun _ _=>rfl) a8 (by simp;omega) (by simp;omega) zo rfl ?_
    intro a2 b1 O10 a0 a3 b8;have a4:=Jh c7 a3 hj zo;have a6:=Jh b9 a3 zo zo;have b4:=a0.one;refine zg ?_;refine zaf a6.cellsAdd fun zS=>?_
    refine zr 9 rfl zS (fun _=>ao rfl) ?_;refine zrf 10 rfl zS rfl ?_
    refine zrf 11 rfl zS rfl ?_;refine Jn 12 zk rfl ?_
    refine aj (j:=8) a4 rfl (KK _) b4 rfl rfl rfl ?_;have b5:=a4.s_ru a2;have a1:Ju (fun q=>q=j) O10 b1 O10 (b1.setCell ⟨rb,8,none⟩ a2):=JM (fun e=>hj e.symm) a4.tag rfl;have b3:=a6.upd a1 zo zo;have a9:=a0.upd a1 b0 (fun e=>e7 e.symm);have b7:=b8.upd a1;refine zg ?_
    refine ae b3.cellsAdd ?_;refine JP zk ?_
    have d1:Ju (fun q=>q=j\/q=jr\/T<=q) O w O10 (b1.setCell ⟨rb,8,none⟩ a2):=(b6.trans (a3.mono (fun _ h=>.inr (.inl h)) b2)).trans (a1.mono (fun _ h=>.inl h) b2);refine aH rfl ⟨lowT O10 T,a2,d1.lowT hT (fun b hb=>by have:=hT b;rcases hb with h|h|h;exact .inl h;exact .inr h;omega) (fun e=>by rcases e with e|e;exact hj e.symm;exact b0 e.symm),b7.lowT T,?_⟩;exact⟨h0,by rw[show s.bg+((k+1:Nat):Int)=((k+(m-r.length):Nat):Int)+1 from by rw[hbg];omega];exact b5.lowT f7⟩
end
def bt(a0:List UInt8):List UInt8:=a0.takeWhile (fun b=>!(b==35))
def aY(a0:List UInt8):List UInt8:=au (bt a0)
theorem yO{a0:List UInt8}{k:Nat}(h:a0.findIdx? (· == 35)=some k):bt a0=a0.take k/\k<=a0.length:=by
 obtain⟨hk,h1,h2⟩:=Jm.1 h;refine⟨?_,zo⟩;unfold bt;have e:a0=a0.take k++a0.drop k:=(LG k a0).symm
 conv=>lhs;rw[e]
 rw[List.takeWhile_append_of_pos]
 ·rw[Kv hk,Lj (by simpa using h1),K0]
 intro x hx;obtain⟨i,hi,rfl⟩:=M9 hx;simp only[Mx]at hi;have:=h2 i zo;simp only[Mr];simpa using this
theorem ek{p:UInt8->Bool}:∀ {l:List UInt8},(∀x∈l,p x=true)->l.takeWhile p=l
 |[],_=>rfl
 |a::l,h=>by rw[List.takeWhile_cons_of_pos (h a (by simp)),ek fun x hx=>h x (by simp[hx])]
theorem yP{a0:List UInt8}(h:a0.findIdx? (· == 35)=none):bt a0=a0:=by
 have h1:=JY.1 h;exact ek fun x hx=>by simpa using h1 x hx
def dZ(r:List UInt8):List UInt8:=r.takeWhile (fun b=>!(b==10))
def RowsT(O:Nat->Nat)(w:ix)(jr:Nat)(rv:ka)(ts:List R3)(xs:List X3):Prop:=
 JZ ct 69 7 O w jr rv xs/\ts.length=xs.length/\xs.length<=40/\∀i,i<xs.length->Rt O w (nth ts i) (nth xs i)
theorem RowsT.push{O:Nat->Nat}{w:ix}{jr:Nat}{rv:ka}{ts:List R3}{xs:List X3}{t:R3}{x:X3}(hr:JZ ct 69 7 O w jr rv (xs++[x]))(h1:ts.length=xs.length)(h2:xs.length<40)(h3:∀i,i<xs.length->Rt O w (nth ts i) (nth xs i))(h4:Rt O w t x):RowsT O w jr rv (ts++[t]) (xs++[x]):=by
 refine⟨hr,by simp[h1],by simp;omega,fun i hi=>?_⟩;simp only[Jw,JO]at hi
 by_cases e:i<xs.length
 ·rw[aB (by simp;omega),aB (by simp;omega),JA zo,JA e,<-aB zo,<-aB e];exact h3 i e
 obtain rfl:i=xs.length:=zo;rw[aB (by simp;omega),aB (by simp),JW zo,JW zo];simp[h1];exact h4
theorem yk{r:List UInt8}{k:Nat}(h:r.findIdx? (· == 10)=some k):(dZ r).length=k:=by
 obtain⟨hk,h1,h2⟩:=Jm.1 h;unfold dZ;have e:r=r.take k++r.drop k:=(LG k r).symm;have e2:(r.take k).takeWhile (fun b=>!(b==10))=r.take k:=ek fun x hx=>by
  obtain⟨i,hi,rfl⟩:=M9 hx;simp only[Mx]at hi;have:=h2 i zo;simp only[Mr];simpa using this
 conv=>lhs;rw[e]
 rw[List.takeWhile_append,e2,if_pos rfl,Kv hk,Lj (by simpa using h1),K0];simp;omega
theorem ym{r:List UInt8}(h:r.findIdx? (· == 10)=none):dZ r=r:=
 ek fun x hx=>by simpa using JY.1 h x hx
theorem sV(l:List UInt8)(fr:Nat):(l.take (fr+(dZ (l.drop fr)).length)).drop fr=dZ (l.drop fr):=by
 have h1:dZ (l.drop fr)=(l.drop fr).take (dZ (l.drop fr)).length:=List.prefix_iff_eq_take.1 (List.takeWhile_prefix _)
 conv=>rhs;rw[h1]
 rw[MQ]
abbrev xQ(ig kp ru:ka):ka:=.agg #[ig,kp,ru]
abbrev rS:ka:=nS
theorem G0:ck Jp 41 #[(0,1),(1,1),(2,1)]:=⟨_,underlying41,fun w=>by kernel_rfl⟩
theorem Iq:ck Jp 125 #[(0,1),(1,1),(2,1),(3,1),(4,1),(5,1)]:=⟨_,underlying125,fun w=>by kernel_rfl⟩
theorem Ip:ck Jp 128 #[(0,6),(6,3),(9,1),(10,1),(11,1)]:=⟨_,underlying128,fun w=>by kernel_rfl⟩
theorem zj{w:ix}{rb:Nat}{a b c:ka}(h6:w.cell? ⟨rb,6,none⟩=some a)(h7:w.cell? ⟨rb,7,none⟩=some b)(h8:w.cell? ⟨rb,8,none⟩=some c):∀(q:Nat) (u:ka),[a,b,c][q]? = some u->w.cell? ((nA rb 6).add q)=some u:=fun q u hu=>by
 have e:((nA rb 6).add q)=⟨rb,6+q,none⟩:=by
  simp only[K5];(repeat' split)<;>simp_all
 rw[e]
 match q,hu with
 |0,hu=>obtain rfl:=Ku hu;exact h6
 |1,hu=>obtain rfl:=Ku hu;exact h7
 |2,hu=>obtain rfl:=Ku hu;exact h8
def C4(l:List Int)(i:Nat):Bool:=(decide (nth l i<0)||decide (36<=nth l i))||(decide ((0:Int)<(i:Int))&&decide (nth l i<=nth l (i-1)))
def kf(l:List Int):Bool:=!(jc (C4 l) l.length)
def sx(t:R3):Bool:=(bO t.1&&bO t.2.1)&&(fH t.2.1==0)
def G4(ts:List R3):Bool:=!(jc (fun i=>!(sx (nth ts i))) ts.length)
def eh(li lk:List Int)(ts:List R3):Bool:=((decide ((ts.length:Int)<=40)&&kf li)&&kf lk)&&G4 ts
theorem sE(l:List Int)(sv:ka)(w:ix)(h:Sl (fun c:Int=>[nI c]) 1 w sv l):KD Jp 31 [sv] w fun v w'=>v=.bool (kf l)/\w'=w:=by
 have a5:=h.len_le;refine J3 func31 ntmps31 rfl rfl ?_;refine zh ?_;refine zlp (fun x:Nat=>[(0,sv),(5,sv),(6,nI l.length),(7,nI x)]) (fun x=>w) (fun x=>x<=l.length/\∀i,i<x->C4 l i=false) (fun x=>l.length-x) 0 (⟨Js _,fun i hi=>absurd hi (Jq i)⟩) ?_;rintro k ⟨hk,a3⟩;refine zh ?_;refine zC ?_ ?_
 ·intro a0;replace a0:k<l.length:=dT a0;refine zh ?_;refine zvH (RV.ld (h.ld a0) rfl) ?_;refine bN (fun w1=>_=w1) (decide (36<=nth l k)) 2 (rfl) rfl rfl rfl rfl rfl ?_ ?_
  ·intro a1;refine zh ?_;refine nE 14 3 (rfl) a1
  rintro _ rfl;refine zh ?_;refine bN (fun w1=>_=w1) ((decide ((0:Int)<(k:Int))&&decide (nth l k<=nth l (k-1)))) 11 (rfl) rfl rfl rfl rfl rfl ?_ ?_
  ·intro a2;refine zh ?_
   cases a6:decide ((0:Int)<(k:Int))with
   |true=>
    have a7:=of_decide_eq_true a6;refine az (d:=21) rfl (b':=true) (rfl) ?_;refine zh ?_;rw[show(k:Int)-1=((k-1:Nat):Int)from by omega];refine zh ?_;refine zvH (RV.ld (h.ld (i:=k-1) zo) rfl) ?_;refine nE 18 13 (rfl) a2
   |false=>
    refine az (d:=21) rfl (b':=false) (rfl) ?_;refine zh ?_
    refine nE 18 13 (rfl) a2
  rintro _ rfl;refine zh ?_;refine zC ?_ ?_
  ·intro hy;refine zh ?_;refine ah rfl rfl (⟨by unfold kf;rw[eL.2 ⟨k,a0,hy⟩];rfl,rfl⟩)
  intro hy;refine zh ?_;refine zxd (k+1) (⟨a0,fun i hi=>(JG.1 hi).elim (a3 i) (fun e=>by rw[e];exact hy)⟩)
 intro a4;replace a4:l.length<=k:=dF a4;refine zh ?_;refine ah rfl rfl (⟨by unfold kf;rw[cF.2 fun i hi=>a3 i zo];rfl,rfl⟩)
abbrev nr(x:X3):ka:=.agg (ct x).toArray
theorem jZ{O:Nat->Nat}{w:ix}{i b:Nat}{x:X3}{E:J7}(h:JI O w i b (ct x).toArray E):(∀W,Kb w W->∀(q:Nat) (u:ka),(aV x.1)[q]? = some u->W.cell? (nA b q)=some u)/\(∀W,Kb w W->∀(q:Nat) (u:ka),(aV x.2.1)[q]? = some u->W.cell? ((nA b 3).add q)=some u)/\(∀W,Kb w W->W.cell? (nA b 6)=some (.bool x.2.2))/\(∀W,Kb w W->∀(q:Nat) (u:ka),(ct x)[q]? = some u->W.cell? (nA b q)=some u):=by
 obtain⟨x1,x2,a0⟩:=x;refine⟨fun W hE q u hu=>hE.cell (h.cellsAdd q u ?_),fun W hE q u hu=>hE.cell (jB h q u hu),fun W hE=>hE.cell (h.cellsAdd 6 _ rfl),fun W hE q u hu=>hE.cell (h.cellsAdd q u hu)⟩;simp only[aV]at hu
 match q,hu with
 |0,hu=>exact hu
 |1,hu=>exact hu
 |2,hu=>exact hu
theorem Rt.ext{O:Nat->Nat}{w w':ix}{t:R3}{x:X3}(h:Rt O w t x)(e:Kb w w'):Rt O w' t x:=⟨h.1.ext e,h.2.1.ext e,h.2.2⟩
theorem xY(t:R3)(x:X3)(w:ix)(h:Rt (fun _=>0) w t x):KD Jp 34 [nr x] w fun v w'=>v=.bool (sx t)/\Kb w w':=by
 have hx1o:=h.1.one;have hx2o:=h.2.1.one;have a7:=bP (b:=x.2.2) hx1o hx2o;refine J3 func34 ntmps34 rfl rfl ?_;refine zh ?_;refine aE (ar w) 1 zo rfl rfl ?_;intro xb w1 O1 a6 a8 a9 a4;obtain⟨lc,rc,bc,_⟩:=jZ a6;refine zh ?_;refine zv (af (us:=aV x.1) (lc w1 (Jl _)) (J8 _) (J0 _) rfl) ?_;refine zc Nl (fD t.1 x.1 w1 (h.1.ext a4)) ?_;rintro v w2 ⟨rfl,a3⟩;refine zh ?_;refine bG (Kb w1) (bO t.2.1) 3 (a3) rfl rfl rfl rfl rfl ?_ ?_
 ·intro a1;refine zh ?_;refine zvH (af (us:=aV x.2.1) (rc _ a3) (J8 _) (J0 _) rfl) ?_;refine zc Nl (fD t.2.1 x.2.1 _ (h.2.1.ext (a4.trans a3))) ?_;rintro v w3 ⟨rfl,a0⟩;refine zh ?_;refine nE 6 4 (a3.trans a0) a1
 intro w3 a0;refine zh ?_;refine bG (Kb w1) ((fH t.2.1==0)) 4 (a0) rfl rfl rfl rfl rfl ?_ ?_
 ·intro a2;refine zh ?_;refine zvH (af (us:=aV x.2.1) (rc _ a0) (J8 _) (J0 _) rfl) ?_;refine zc Nk (ku t.2.1 x.2.1 _ (h.2.1.ext (a4.trans a0))) ?_;rintro v w4 ⟨rfl,a5⟩;refine zh ?_;refine nE 11 5 (a0.trans a5) a2
 intro w4 a5;refine zh ?_;refine ah rfl rfl (⟨rfl,a4.trans a5⟩)
theorem ya(t:R3)(x:X3)(w:ix)(h:Rt (fun _=>0) w t x):KD Jp 33 [nr x] w fun v w'=>v=.bool (!(sx t))/\Kb w w':=by
 have hx1o:=h.1.one;have hx2o:=h.2.1.one;have a2:=bP (b:=x.2.2) hx1o hx2o;refine J3 func33 ntmps33 rfl rfl ?_;refine zh ?_;refine aE (ar w) 1 zo rfl rfl ?_;intro xb w1 O1 a1 a4 a5 a0;obtain⟨_,_,_,ac⟩:=jZ a1;refine zh ?_;refine zv (af (us:=ct x) (ac w1 (Jl _)) (Lw _) (KJ _) rfl) ?_;refine zc call34 (xY t x w1 (h.ext a0)) ?_;rintro v w2 ⟨rfl,a3⟩;refine zh ?_;refine ah rfl rfl (⟨rfl,a0.trans a3⟩)
theorem lJ{F:FuncId}(hF:∀(args:Array ka) (w:ix),(callFunc F args).run Jp w=.ok (.enter F args) w)(cs:Array ka)(l:List (X3))(sv:ka)(q:Nat->Bool)(w:ix)(h:Sl ct 7 w sv l) 
  (hq:∀i,i<l.length->∀w',Kb w w'->KD Jp F ([nr (nth l i)]++cs.toList) w' fun v w''=>v=.bool (q i)/\Kb w' w'') :
  KD Jp 60 [sv,.func (.func F) #[] cs] w fun v w'=>v=nI (dC q l.length)/\Kb w w':=by
 have hl:=h.len_le;refine J3 func60 ntmps60 rfl rfl ?_;refine zh ?_;refine zlp (fun x:Nat×ix=>[(0,sv),(1,.func (.func F) #[] cs),(7,nI l.length),(8,nI x.1)]) (fun x=>x.2) (fun x=>x.1<=l.length/\Kb w x.2/\∀i,i<x.1->q i=false) (fun x=>l.length-x.1) (0,w) (⟨Js _,Jl _,fun i hi=>absurd hi (Jq i)⟩) ?_;rintro⟨k,w1⟩ ⟨hk,hE,a1⟩;dsimp only at hk hE a1 ⊢;have h1:=h.ext hE;refine zh ?_;refine zC ?_ ?_
 ·intro a0;replace a0:k<l.length:=dT a0;refine zh ?_;refine zv (af (us:=ct (nth l k)) (fun j u hu=>h1.cell a0 hu) (Lw _) (KJ _) rfl) ?_;refine du rfl hF rfl (hq k a0 w1 hE) rfl ?_;rintro v w2 ⟨rfl,a3⟩;refine zh ?_;refine zC ?_ ?_
  ·intro hy;refine zh ?_;refine ah rfl rfl (⟨by rw[cD a0 hy a1],hE.trans a3⟩)
  intro hy;refine zh ?_;refine zxd (k+1,w2) (⟨a0,hE.trans a3,fun i hi=>(JG.1 hi).elim (a1 i) (fun e=>by rw[e];exact hy)⟩)
 intro a2;replace a2:l.length<=k:=dF a2;refine zh ?_;refine ah rfl rfl (⟨by rw[cC fun i hi=>a1 i zo],hE⟩)
theorem ja{F:FuncId}(hF:∀(args:Array ka) (w:ix),(callFunc F args).run Jp w=.ok (.enter F args) w)(cs:Array ka)(l:List (X3))(sv:ka)(q:Nat->Bool)(w:ix)(h:Sl ct 7 w sv l) 
  (hq:∀i,i<l.length->∀w',Kb w w'->KD Jp F ([nr (nth l i)]++cs.toList) w' fun v w''=>v=.bool (q i)/\Kb w' w'') :
  KD Jp 32 [sv,.func (.func F) #[] cs] w fun v w'=>v=.bool (jc q l.length)/\Kb w w':=by
 refine J3 func32 ntmps32 rfl rfl ?_;refine zh ?_
 refine zc call60 (lJ hF cs l sv q w h hq) ?_;rintro v w1 ⟨rfl,hE⟩;refine zh ?_
 refine ah rfl rfl (⟨by rw[firstN_any],hE⟩)
theorem xZ(li lk:List Int)(ts:List R3)(xs:List X3)(ig kp ru:ka)(w:ix)(hi:Sl (fun c:Int=>[nI c]) 1 w ig li)(hk:Sl (fun c:Int=>[nI c]) 1 w kp lk)(hr:Sl ct 7 w ru xs)(hl:ts.length=xs.length)(hx:∀i,i<xs.length->Rt (fun _=>0) w (nth ts i) (nth xs i)):
  KD Jp 16 [xQ ig kp ru] w fun v w'=>v=.bool (eh li lk ts)/\Kb w w':=by
 have b0:=hi.one;have a':=hk.one;have a9:=hr.one;refine J3 func16 ntmps16 rfl rfl ?_;refine zh ?_;refine aE (ar w) 1 zo rfl rfl ?_;intro xb w1 O1 a5 b1 b2 a4;have c0:w1.cell? (nA xb 0)=some ig:=a5.cell 0 rfl;have c1:w1.cell? (nA xb 1)=some kp:=a5.cell 1 rfl;have c2:w1.cell? (nA xb 2)=some ru:=a5.cell 2 rfl;have a7:=hr.ext a4;refine zh ?_;refine bG (fun w1=>_=w1) (kf li) 3 (rfl) rfl rfl rfl rfl rfl ?_ ?_
 ·intro a1;refine zh ?_;refine zc call31 (sE li ig w1 (hi.ext a4)) ?_;rintro v w9 ⟨rfl,a0⟩;rw[a0];clear a0 w9;refine zh ?_;refine nE 7 4 (rfl) a1
 rintro _ rfl;refine zh ?_;refine bG (fun w1=>_=w1) (kf lk) 3 (rfl) rfl rfl rfl rfl rfl ?_ ?_
 ·intro a2;refine zh ?_;refine zc call31 (sE lk kp w1 (hk.ext a4)) ?_;rintro v w9 ⟨rfl,a0⟩;rw[a0];clear a0 w9;refine zh ?_;refine nE 12 4 (rfl) a2
 rintro _ rfl;refine zh ?_;have a8:G4 ts = !(jc (fun i=>!(sx (nth ts i))) xs.length):=by unfold G4;rw[hl]
 refine bG (Kb w1) ((!(jc (fun i=>!(sx (nth ts i))) xs.length))) 4 (Jl w1) rfl rfl rfl rfl rfl ?_ ?_
 ·intro a3;refine zh ?_;refine zc call32 (ja call33 #[] xs ru (fun i=>!(sx (nth ts i))) w1 a7 (fun i hi w' hE=>ya (nth ts i) (nth xs i) w' ((hx i hi).ext (a4.trans hE)))) ?_;rintro v w2 ⟨rfl,a6⟩;refine zh ?_;refine nE 17 5 (a6) a3
 intro w2 a6;refine zh ?_;refine ah rfl rfl (⟨by unfold eh;rw[hl,a8],a4.trans a6⟩)
abbrev DA:List UInt8:=[67,82,32,33,32,76,70]
theorem gL:∀(n:Nat) (t:Nd),nsz t<=n->∀(x:N3) (w:ix) (fV:Nat),Nt (fun _=>0) w t x->fV<=1000000->KD Jp 12 [nv x,nI (fV:Int)] w fun v w'=>v=nI ((min (nsz t) (fV+1):Nat):Int)/\Kb w w'
 |0,t,hn=>by have:=dJ t;omega
 |n+1,.mk k c kids,hn=>by
  intro x w fV h hm;obtain⟨xs,hs,hf,hl,hk⟩:=h.kids;simp only[Nf]at hl hk;have b4:=eV kids;simp only[nsz]at hn ⊢;have a9:=hs.len_le;refine J3 func12 ntmps12 rfl rfl ?_;refine zh ?_;refine aE (ar w) 1 zo rfl rfl ?_;intro xb w1 O1 a5 b7 b8 a3;have c2:w1.cell? (nA xb 2)=some x.2.2:=a5.cell 2 rfl;have a8:=hs.ext a3;refine zh ?_;refine zlp (fun y:Nat×ix=>[(1,nI (fV:Int)),(2,nP xb),(5,nI ((min (dA (kids.take y.1)+1) (fV+1):Nat):Int)),(6,nI y.1)]) (fun y=>y.2) (fun y=>y.1<=xs.length/\Kb w1 y.2) (fun y=>xs.length-y.1) (0,w1) (⟨Js _,Jl _⟩) ?_;rintro⟨i,w2⟩ ⟨hi,a0⟩;dsimp only at hi a0 ⊢;have a7:=a8.ext a0;have d2:=a0.cell c2;have a6:=cB kids i;refine zh ?_;refine bG (fun w1=>_=w1) (decide (((min (dA (kids.take i)+1) (fV+1):Nat):Int)<=(fV:Int))) 3 (rfl) rfl rfl rfl rfl rfl ?_ ?_
  ·intro a1;refine zh ?_;refine nE 12 4 (rfl) a1
  rintro _ rfl;refine zh ?_;refine zC ?_ ?_
  ·intro hc;simp only[J6,decide_eq_true_eq]at hc;obtain⟨b6,b5⟩:=hc;have a2:i<xs.length:=zo;have b2:=dY kids i zo;have b1:=cB kids (i+1);have a4:=(hk i a2).ext (a3.trans a0);have b0:=a4.one;have b3:=cu kids i zo;refine zh ?_;refine zvH (af (us:=aV (nth xs i)) (fun j u hu=>a7.cell a2 hu) (Nz _) (Lz _) rfl) ?_;rw[show(fV:Int)-((min (dA (kids.take i)+1) (fV+1):Nat):Int)=((fV-(dA (kids.take i)+1):Nat):Int)from by omega];refine zc NO (gL n (nth kids i) zo (nth xs i) w2 (fV-(dA (kids.take i)+1)) a4 zo) ?_;rintro v w5 ⟨rfl,a'⟩;refine zh ?_;rw[show((min (dA (kids.take i)+1) (fV+1):Nat):Int)+((min (nsz (nth kids i)) (fV-(dA (kids.take i)+1)+1):Nat):Int)=((min (dA (kids.take (i+1))+1) (fV+1):Nat):Int)from by omega];refine zxd (i+1,w5) (⟨a2,a0.trans a'⟩)
  intro hc;simp only[LP,decide_eq_false_iff_not]at hc;have he:min (dA (kids.take i)+1) (fV+1)=min (dA kids+1) (fV+1):=by
   rcases hc with hc|hc
   ·obtain rfl:i=xs.length:=zo;rw[<-hl,List.take_length]
   omega
  refine zh ?_;refine ah rfl rfl (⟨by rw[he],a3.trans a0⟩)
abbrev encI(c:Int):List ka:=[nI c]
abbrev aO(n:Nat):List ka:=[nI (n:Int)]
theorem FK{w:ix}{v:ka}{l:List Nat}(h:Sl aO 1 w v l):Sl encI 1 w v (l.map fun(n:Nat)=>(n:Int)):=
 ⟨by simpa using h.shape,fun i hi j u hu=>h.cells i (by simpa using hi) j u (by simpa using hu)⟩
theorem yq(l:List Int)(c:Int)(sv:ka)(w:ix)(h:Sl encI 1 w sv l):KD Jp 162 [sv,nI c] w fun v w'=>v=nI (dC (fun i=>c==nth l i) l.length)/\w'=w:=by
 have hl:=h.len_le;refine J3 func162 ntmps162 rfl rfl ?_;refine zh ?_;refine zlp (fun x:Nat=>[(0,sv),(1,nI c),(7,nI l.length),(8,nI x)]) (fun x=>w) (fun x=>x<=l.length/\∀i,i<x->(c==nth l i)=false) (fun x=>l.length-x) 0 (⟨Js _,fun i hi=>absurd hi (Jq i)⟩) ?_;rintro k ⟨hk,a1⟩;refine zh ?_;refine zC ?_ ?_
 ·intro a0;replace a0:k<l.length:=dT a0;have m1:=h.ld a0;refine zh ?_;refine zC ?_ ?_
  ·intro hy;refine zh ?_;refine ah rfl rfl (⟨by rw[cD (q:=fun i=>c==nth l i) a0 hy a1],rfl⟩)
  intro hy;refine zh ?_;refine zxd (k+1) (⟨a0,fun i hi=>(JG.1 hi).elim (a1 i) (fun e=>by rw[e];exact hy)⟩)
 intro a2;replace a2:l.length<=k:=dF a2;refine zh ?_;refine ah rfl rfl (⟨by rw[cC (q:=fun i=>c==nth l i) fun i hi=>a1 i zo],rfl⟩)
theorem rq(l:List Int)(c:Int)(sv:ka)(w:ix)(h:Sl encI 1 w sv l):KD Jp 142 [sv,nI c] w fun v w'=>v=.bool (decide (c∈l))/\w'=w:=by
 have he:jc (fun i=>c==nth l i) l.length=decide (c∈l):=by
  rw[im (p:=fun x=>c==x),La];simp[List.any_eq_true]
 refine J3 func142 ntmps142 rfl rfl ?_;refine zh ?_
 refine zc call162 (yq l c sv w h) ?_;rintro v w9 ⟨rfl,a0⟩;rw[a0];clear a0 w9;refine zh ?_
 refine ah rfl rfl (⟨congrArg M5 (firstN_any.trans he),rfl⟩)
theorem rn(l:List Nat)(c:Nat)(sv:ka)(w:ix)(h:Sl aO 1 w sv l):KD Jp 142 [sv,nI (c:Nat)] w fun v w'=>v=.bool (l.contains c)/\w'=w:=by
 refine(rq _ c sv w (FK h)).mono fun v w' ⟨h1,h2⟩=>⟨?_,h2⟩
 rw[h1];congr 1;rw[La];simp only[decide_eq_true_eq,JT,List.contains_iff_mem]
 constructor
 ·rintro⟨a,ha,e⟩;have e:a=c:=zo;rw[<-e];exact ha
 exact fun hc=>⟨c,hc,rfl⟩
structure Tx(w:ix)(v:ka)(li lk:List Int)(ts:List R3):Prop where
 ex:∃ig kp ru xs,v=xQ ig kp ru/\Sl encI 1 w ig li/\Sl encI 1 w kp lk/\Sl ct 7 w ru xs/\ts.length=xs.length/\∀i,i<xs.length->Rt (fun _=>0) w (nth ts i) (nth xs i)
theorem Tx.ext{w w':ix}{v:ka}{li lk:List Int}{ts:List R3}(h:Tx w v li lk ts)(e:Kb w w'):Tx w' v li lk ts:=by
 obtain⟨ig,kp,ru,xs,hv,h1,h2,h3,h4,h5⟩:=h;exact⟨ig,kp,ru,xs,hv,h1.ext e,h2.ext e,h3.ext e,h4,fun i hi=>(h5 i hi).ext e⟩
def Few(li lk:List Int)(ts:List R3):Prop:=ts.length<=45/\li.length<=40/\lk.length<=40/\∀i,i<ts.length->nsz (nth ts i).1<=150/\nsz (nth ts i).2.1<=150
theorem A3(li lk:List Int)(ts:List R3)(v:ka)(w:ix)(h:Tx w v li lk ts):KD Jp 11 [v] w fun u w'=>∃g,u=.bool g/\Kb w w'/\(g=false->Few li lk ts):=by
 obtain⟨ig,kp,ru,xs,rfl,h1,h2,h3,h4,h5⟩:=h;have o1:=h1.one;have o2:=h2.one;have o3:=h3.one;refine J3 func11 ntmps11 rfl rfl ?_;refine zh ?_;refine aE (ar w) 1 zo rfl rfl ?_;intro xb w1 O1 a8 b9 b' a5;have c0:w1.cell? (nA xb 0)=some ig:=a8.cell 0 rfl;have c1:w1.cell? (nA xb 1)=some kp:=a8.cell 1 rfl;have c2:w1.cell? (nA xb 2)=some ru:=a8.cell 2 rfl;have g1:=h1.ext a5;have g2:=h2.ext a5;have g3:=h3.ext a5;refine zh ?_;refine bN (fun w1=>_=w1) (decide ((40:Int)<(li.length:Int))) 4 (rfl) rfl rfl rfl rfl rfl ?_ ?_
 ·intro a1;refine zh ?_;refine nE 9 5 (rfl) a1
 rintro _ rfl;refine zh ?_;refine bN (fun w1=>_=w1) (decide ((40:Int)<(lk.length:Int))) 4 (rfl) rfl rfl rfl rfl rfl ?_ ?_
 ·intro a2;refine zh ?_;refine nE 15 5 (rfl) a2
 rintro _ rfl;refine zh ?_;refine zC ?_ ?_
 ·intro hc;refine zh ?_;refine ah rfl rfl (⟨true,rfl,a5,fun e=>by cases e⟩)
 intro hc;simp only[Bool.or_eq_false_iff,decide_eq_false_iff_not]at hc;obtain⟨⟨b8,b7⟩,b6⟩:=hc;refine zh ?_;refine zlp (fun y:Nat×Nat×ix=>[(1,nP xb),(3,nI (y.2.1:Nat)),(4,nI y.1)]) (fun y=>y.2.2) (fun y=>y.1<=xs.length/\y.2.1<=302*y.1/\Kb w1 y.2.2/\∀j,j<y.1->min (nsz (nth ts j).1) 151+min (nsz (nth ts j).2.1) 151<=y.2.1) (fun y=>xs.length-y.1) (0,0,w1) (⟨Js _,by dsimp only;omega,Jl _,fun j hj=>absurd hj (Jq j)⟩) ?_;rintro⟨i,s,w2⟩ ⟨hi,a6,a4,a9⟩;dsimp only at hi a6 a4 a9 ⊢;have d2:=a4.cell c2;have a7:=g3.ext a4;refine zh ?_;refine bG (fun w1=>_=w1) (decide ((s:Int)<=150)) 2 (rfl) rfl rfl rfl rfl rfl ?_ ?_
 ·intro b1;refine zh ?_;refine nE 26 3 (rfl) b1
 rintro _ rfl;refine zh ?_;refine zC ?_ ?_
 ·intro hc;simp only[J6,decide_eq_true_eq]at hc;have a3:i<xs.length:=zo;have b0:=(h5 i a3).ext (a5.trans a4);have b3:∀W,Kb w2 W->∀(j:Nat) (u:ka),(aV (nth xs i).1)[j]? = some u->W.cell? (((adr ru 7 i).add 0).add j)=some u:=fun W hE j u hu=>by
   have e:(((adr ru 7 i).add 0).add j)=(adr ru 7 i).add j:=by rw[Ly,LC]
   rw[e];refine hE.cell (a7.cell a3 ?_);simp only[aV]at hu
   match j,hu with
   |0,hu=>exact hu
   |1,hu=>exact hu
   |2,hu=>exact hu
  have b2:∀W,Kb w2 W->∀(j:Nat) (u:ka),(aV (nth xs i).2.1)[j]? = some u->W.cell? (((adr ru 7 i).add 3).add j)=some u:=fun W hE j u hu=>by
   have e:(((adr ru 7 i).add 3).add j)=(adr ru 7 i).add (3+j):=by rw[Ly]
   rw[e];refine hE.cell (a7.cell a3 ?_);simp only[aV]at hu
   match j,hu with
   |0,hu=>exact hu
   |1,hu=>exact hu
   |2,hu=>exact hu
  refine zh ?_;refine xI (Kb w2) zk zk ((Jl w2).drew) ?_
  refine jq (fun w1 a0=>Nb rfl) rfl ?_;refine jq (fun w1 a0=>L0 2 Nv rfl rfl (sizeOf23 _) zd rfl) rfl ?_
  refine jq (fun w1 a0=>LW (by first|exact a0.cell d2) (isAgg23 _) rfl) rfl ?_;refine jq (fun w1 a0=>Nb rfl) rfl ?_
  refine jq (fun w1 a0=>LX (a7.ext a0) Mm (sizeOf54 _) rfl rfl i rfl a3) rfl ?_;refine jq (fun w1 a0=>L0 0 Ml rfl rfl (Lz _) zd rfl) rfl ?_
  refine jq (fun w1 a0=>af (us:=aV (nth xs i).1) (b3 _ a0) (Nz _) (Lz _) rfl) rfl ?_;refine NQ NO rfl (fun w1 a0=>(gL (nsz (nth ts i).1) (nth ts i).1 (J4 _) (nth xs i).1 _ 150 (b0.1.ext a0) zd).mono fun v w' h=>⟨h.1,a0.trans h.2⟩) rfl ?_
  refine jq (fun w1 a0=>L7 rfl rfl (KH zo)) rfl ?_;refine jq (fun w1 a0=>L0 2 Nv rfl rfl (sizeOf23 _) zd rfl) rfl ?_
  refine jq (fun w1 a0=>LW (by first|exact a0.cell d2) (isAgg23 _) rfl) rfl ?_;refine jq (fun w1 a0=>Nb rfl) rfl ?_
  refine jq (fun w1 a0=>LX (a7.ext a0) Mm (sizeOf54 _) rfl rfl i rfl a3) rfl ?_;refine jq (fun w1 a0=>L0 3 Ml rfl rfl (Lz _) zd rfl) rfl ?_
  refine jq (fun w1 a0=>af (us:=aV (nth xs i).2.1) (b2 _ a0) (Nz _) (Lz _) rfl) rfl ?_;refine NQ NO rfl (fun w1 a0=>(gL (nsz (nth ts i).2.1) (nth ts i).2.1 (J4 _) (nth xs i).2.1 _ 150 (b0.2.1.ext a0) zd).mono fun v w' h=>⟨h.1,a0.trans h.2⟩) rfl ?_
  refine jq (fun w1 a0=>L7 rfl rfl (KH zo)) rfl ?_;refine jq (fun w1 a0=>RV.assign rfl) rfl ?_
  refine WQ.nil ?_;intro w3 b4;refine zh ?_
  rw[show(s:Int)+((min (nsz (nth ts i).1) (150+1):Nat):Int)+((min (nsz (nth ts i).2.1) (150+1):Nat):Int)=((s+(min (nsz (nth ts i).1) 151+min (nsz (nth ts i).2.1) 151):Nat):Int)from by omega];refine zxd (i+1,s+(min (nsz (nth ts i).1) 151+min (nsz (nth ts i).2.1) 151),w3) (⟨a3,by dsimp only;omega,a4.trans b4,fun j hj=>(JG.1 hj).elim (fun h=>by have:=a9 j h;dsimp only;omega) (fun e=>by dsimp only;rw[e];omega)⟩)
 intro hc;simp only[LP,decide_eq_false_iff_not]at hc;have a':decide ((150:Int)<(s:Int))=false->Few li lk ts:=fun e=>by
  have hs:=of_decide_eq_false e;have b5:i=xs.length:=zo;refine⟨zo,zo,zo,fun j hj=>?_⟩;have:=a9 j zo;omega
 refine zh ?_;refine ah rfl rfl (⟨decide ((150:Int)<(s:Int)),rfl,a5.trans a4,a'⟩)
end Go.Proofs.YtjemhjcngaokpaaGreatDoor
section
namespace Go.VL
open Go.ChangeShapes Go.WideShapes Go.ChangeAt Go.RowKit Go.Deep
section
variable{H:Type}{enc:J7×ka→H}{P:JH}{w:ix}{base:Nat}{held:Bool}
theorem RdF.slice{a1:Nat}{t e:J7}{sz:Nat}{cs:List ka}{x:DataW H×List No}(ht:P.underlying t=some (.slice e))(ce:P.cellsOf e=sz)(hz:0<sz)(h:K9 enc P w base (fun _=>true) held a1 t cs=some x):
  ∃v xs,cs=[v]/\Sl (fun c:List ka=>c) sz w v xs/\∀c∈xs,c.length=sz/\∃n y,a1=n+1/\K9 enc P w base (fun _=>true) held n e c=some y:=by
 rcases DataW.trod_slice ht h with⟨rfl,_⟩|⟨a,len,a',a6,a7,n,a8,rfl,rfl,hb,hl,hm,a3,a9,_,_⟩
 ·exact⟨_,[],rfl,⟨⟨none,0,rfl,J4 _,zo,fun h=>absurd rfl h⟩,fun i hi=>absurd hi (by simp)⟩,by simp⟩
 have hx:∀i,i<len->∃c:List ka,w.cells? base (a.add (i*P.cellsOf e)) (P.cellsOf e)=some c/\∃y,K9 enc P w base (fun _=>true) held n e c=some y:=fun i hi=>by
  have:=a9 i hi;rw[Ji zo]at this;obtain⟨c,hc,hy⟩:=Option.bind_eq_some_iff.1 this;exact⟨c,hc,_,hy⟩
 obtain⟨V,hV⟩:=choose_lt hx;rw[ce]at hV;have hc:∀i,i<len->∀j u,(V i)[j]? = some u->w.cell? (a.add (i*sz+j))=some u:=fun i hi j u hu=>by
  obtain⟨_,a3,a0⟩:=Me (hV i hi).1;have hj:j<sz:=by have:=(JX.1 hu).1;omega
  have:=a0 j hj;rw[Ly]at this;rw[this,hu]
 have a2:∀i,i<len->(V i).length=sz:=fun i hi=>(Me (hV i hi).1).2.1
 have a4:((JJ len).map V).length=len:=by simp
 refine⟨_,(JJ len).map V,rfl,⟨⟨some a,a',by rw[a4],zo,by simpa[maxLen]using hm,fun h=>?_⟩,fun i hi j u hu=>?_⟩,fun c a5=>?_⟩
 ·rw[a4]at h;have h0:0<(V 0).length:=by rw[a2 0 zo];exact hz
  have:=hc 0 zo 0 _ (Ji h0);obtain⟨b,o,s⟩:=a;have hs:s=none:=by simpa[K5]using Mo this
  subst hs;exact⟨b,o,rfl⟩
 ·rw[a4]at hi;have h0:0<(V 0).length:=by rw[a2 0 zo];exact hz
  have h1:=hc 0 zo 0 _ (Ji h0);obtain⟨b,o,s⟩:=a;have hs:s=none:=by simpa[K5]using Mo h1
  subst hs;simp only[Ka,Kp]at hu;have h2:=hc i hi j u hu;simp only[adr];have e1:((⟨b,o,none⟩:MM).add (i*sz+j))=((⟨b,o+i*sz,none⟩:MM).add j):=by
   simp only[K5];split<;>split<;>simp_all<;>omega
  rw[e1]at h2;exact h2
 simp only[JT,MR]at a5;obtain⟨i,hi,rfl⟩:=a5;obtain⟨_,y,hy⟩:=hV i hi;exact⟨a2 i hi,n,y,a8,hy⟩
theorem Sl.free{α:Type}[Inhabited α]{f:α->List ka}{sz:Nat}{v:ka}{xs:List α}(h:Sl f sz w v xs)(hf:∀a,f a≠[]):Free (fun _=>0) w v:=fun a n c e hn=>by
 refine⟨rfl,?_⟩;obtain⟨a',c',e',_,_,_⟩:=h.shape;rw[e']at e
 cases e
 cases hq:f (nth xs 0)with
 |nil=>exact absurd hq (hf _)
 |cons u r=>
  have hc:=h.cell (i:=0) (j:=0) (u:=u) zo (by rw[hq];rfl);have:=Lp _ _ hc;subst e';have hb:((adr (.slice (some a) xs.length c) sz 0).add 0).block=a.block:=by simp only[adr,K5];split<;>rfl
  rw[hb]at this;exact this
end
end Go.VL
namespace Go.Proofs.YtjemhjcngaokpaaGreatDoor
open Go.ChangeShapes Go.WideShapes Go.ChangeAt Go.RowKit Go.VL Go.Proofs
set_option maxRecDepth 100000
section
variable{H:Type}{enc:J7×ka→H}{w:ix}{base:Nat}{held:Bool}
theorem uo:∀(a0:Nat) (cs:List ka) (x:DataW H×List No),K9 enc Jp w base (fun _=>true) held a0 52 cs=some x->∃(y:N3),cs=aV y/\∃t:Nd,Nt (fun _=>0) w t y
 |0,cs,x,h=>by simp[K9]at h
 |a0+1,cs,x,h=>by
  obtain⟨xs,m,a8,rfl,hl,a1,hf⟩:=DataW.trod_struct underlying52 h;obtain rfl:a0=m:=zo;have a6:cs.length=3:=hl.trans zk;obtain⟨c0,c1,c2,rfl⟩:∃c0 c1 c2,cs=[c0,c1,c2]:=by
   match cs,a6 with
   |[a,b,c],_=>exact⟨a,b,c,rfl⟩
  have a7:xs.length=3:=a1;have f0:K9 enc Jp w base (fun _=>true) held a0 3 [c0]=xs[0]?:=hf 0 _ rfl;have f1:K9 enc Jp w base (fun _=>true) held a0 3 [c1]=xs[1]?:=hf 1 _ rfl;have f2:K9 enc Jp w base (fun _=>true) held a0 50 [c2]=xs[2]?:=hf 2 _ rfl;rw[Ji zo]at f0 f1 f2;obtain⟨n0,e0,_⟩:=Rd.int (enc:=enc) (w:=w) (base:=base) (held:=held) KC ⟨a0,_,f0⟩;obtain⟨n1,e1,_⟩:=Rd.int (enc:=enc) (w:=w) (base:=base) (held:=held) KC ⟨a0,_,f1⟩;obtain⟨v,ys,e2,hs,hy⟩:=RdF.slice (sz:=3) underlying50 zk zd f2;simp only[JU,and_true]at e0 e1 e2;subst e0 e1 e2
  obtain⟨zs,rfl,hz⟩:=uU (f:=aV) (R:=fun y=>∃t:Nd,Nt (fun _=>0) w t y) ys (fun c hc=>by
   obtain⟨_,n,y,hn,a4⟩:=hy c hc
   exact uo n c y a4)
  have a2:=hs.of_map;have a5:∀i,i<zs.length->∃t:Nd,Nt (fun _=>0) w t (nth zs i):=fun i hi=>hz _ (by rw[aB hi];exact L3 hi)
  obtain⟨T,hT⟩:=M1 a5;have a3:((JJ zs.length).map T).length=zs.length:=by simp
  refine⟨(n0,n1,c2),rfl,.mk n0 n1 ((JJ zs.length).map T),.mk a2 (a2.free fun a=>by simp) a3 fun i hi=>?_⟩;rw[aB (by rw[a3];exact hi)];simp only[Ka,Kp];exact hT i hi
termination_by a0=>a0
theorem D6(cs:List ka)(h:Rd enc Jp w base held 54 cs):∃x:X3,cs=ct x/\∃t:R3,Rt (fun _=>0) w t x:=by
 obtain⟨hl,hf⟩:=h.struct Ml;have a0:cs.length=7:=hl.trans zk;obtain⟨c0,c1,c2,c3,c4,c5,c6,rfl⟩:∃c0 c1 c2 c3 c4 c5 c6,cs=[c0,c1,c2,c3,c4,c5,c6]:=by
  match cs,a0 with
  |[a,b,c,d,e,f,g],_=>exact⟨a,b,c,d,e,f,g,rfl⟩
 have f0:Rd enc Jp w base held 52 [c0,c1,c2]:=hf 0 _ rfl;have f1:Rd enc Jp w base held 52 [c3,c4,c5]:=hf 1 _ rfl;have f2:Rd enc Jp w base held 4 [c6]:=hf 2 _ rfl;obtain⟨n0,y0,h0⟩:=f0;obtain⟨n1,y1,h1⟩:=f1;obtain⟨x0,e0,t0,k0⟩:=uo n0 _ _ h0;obtain⟨x1,e1,t1,k1⟩:=uo n1 _ _ h1;obtain⟨b,eb⟩:=f2.bool KS;simp only[aV,JU,and_true]at e0 e1 eb;obtain⟨rfl,rfl,rfl⟩:=e0;obtain⟨rfl,rfl,rfl⟩:=e1;subst eb;exact⟨(x0,x1,b),rfl,(t0,t1,b),k0,k1,rfl⟩
theorem DN{v:ka}{d:DataW H}{ps:List No}{r:Reach}{b0:Nat}(hv:Value.okWide Jp w r b0 25 v)(h:DataW.Trod enc Jp w base (fun _=>true) held 25 v d ps):∃li lk ts,Tx w v li lk ts:=by
 obtain⟨cs,rfl,a3⟩:=okWide_struct Nx hv;obtain⟨hl,hf⟩:=(GN h).flat Nx zk zk;have a2:cs.size=3:=by simpa[LA]using hl
 obtain⟨c0,c1,c2,rfl⟩:∃c0 c1 c2,cs = #[c0,c1,c2]:=by
  match cs,a2 with
  |⟨[c0,c1,c2]⟩,_=>exact⟨c0,c1,c2,rfl⟩
 obtain⟨_,h0,r0⟩:=hf 0 _ rfl;obtain⟨_,h1,r1⟩:=hf 1 _ rfl;obtain⟨_,h2,r2⟩:=hf 2 _ rfl
 cases h0;cases h1;cases h2
 obtain⟨v0,z0,e0,i0,_⟩:=r0.ints KO KC zk;obtain⟨v1,z1,e1,i1,_⟩:=r1.ints KO KC zk;obtain⟨v2,zs,e2,i2,hz⟩:=r2.sliceOf (f:=ct) (R:=fun x=>∃t:R3,Rt (fun _=>0) w t x) (sz:=7) Mm zk zd D6
 cases e0;cases e1;cases e2
 have a1:∀i,i<zs.length->∃t:R3,Rt (fun _=>0) w t (nth zs i):=fun i hi=>hz _ (by rw[aB hi];exact L3 hi)
 obtain⟨T,hT⟩:=M1 a1;have a0:((JJ zs.length).map T).length=zs.length:=by simp
 refine⟨z0,z1,(JJ zs.length).map T,c0,c1,c2,zs,rfl,i0,i1,i2,a0,fun i hi=>?_⟩;rw[aB (by rw[a0];exact hi)];simp only[Ka,Kp];exact hT i hi
end
end Go.Proofs.YtjemhjcngaokpaaGreatDoor
end
namespace Go.Proofs.YtjemhjcngaokpaaGreatDoor
abbrev Lf:=Int×Int×Nat
abbrev Kt:=List Nat×List Nat×Nat
structure Gr where
 ls:List Lf
 ks:List Kt
def Gr.fr(g:Gr)(k:Nat):List Nat:=(nth g.ks k).1
def Gr.lv(g:Gr)(k:Nat):List Nat:=(nth g.ks k).2.1
def Gr.en(g:Gr)(k:Nat):Nat:=(nth g.ks k).2.2
def Gr.knot(g:Gr):Gr:=⟨g.ls,g.ks++[([],[],0)]⟩
def Gr.free(g:Gr)(a b:Nat):Gr:=⟨g.ls,g.ks.set a (g.fr a++[b],g.lv a,g.en a)⟩
def Gr.leaf(g:Gr)(k c:Int)(a b:Nat):Gr:=⟨g.ls++[(k,c,b)],g.ks.set a (g.fr a,g.lv a++[g.ls.length+1],g.en a)⟩
def dc(k c m:Int):Bool:=
 if k=0 then(decide (0<=m)&&decide (m<36))&&(m==c)else if k=1 then decide (0<=m)&&decide (m<36)else if k=2 then(decide (0<=m)&&decide (m<36))&&(m != c)else m==36
def layO(k:Int)(g:Gr)(i:Nat):Gr:=if k=8 then(if k=7 then g else g.free i (i+1))else(if k=7 then g else g.free i (i+1)).free (i+1) i
mutual
def fW:Nd->Nat->Nat->Gr->Gr
 |.mk k c l,a,b,g=>
  if k=4 then oE l a b g
  else if k=5 then oF l a b g
  else if k=6\/k=7\/k=8 then layO k (pN l g.ks.length (g.ks.length+1) ((g.knot.knot.free a g.ks.length).free (g.ks.length+1) b)) g.ks.length
  else if k=9 then g.free a b
  else g.leaf k c a b
def oE:List Nd->Nat->Nat->Gr->Gr
 |[],_,_,g=>g
 |t::r,a,b,g=>if r.isEmpty then fW t a b g else oE r g.ks.length b (fW t a g.ks.length g.knot)
def oF:List Nd->Nat->Nat->Gr->Gr
 |[],_,_,g=>g
 |t::r,a,b,g=>oF r a b (fW t a b g)
def pN:List Nd->Nat->Nat->Gr->Gr
 |[],_,_,g=>g
 |t::_,a,b,g=>fW t a b g
end
inductive StarP(L:List Int->Prop):List Int->Prop
 |nil:StarP L []
 |cons {u v:List Int}:L u->StarP L v->StarP L (u++v)
mutual
/-- Which words an expression matches. -/
def Lg:Nd->List Int->Prop
 |.mk k c l=>fun w=>
  if k=4 then LgS l w
  else if k=5 then LgA l w
  else if k=6 then StarP (LgH l) w
  else if k=7 then∃u v,w=u++v/\LgH l u/\StarP (LgH l) v
  else if k=8 then w=[]\/LgH l w
  else if k=9 then w=[]
  else∃m,w=[m]/\dc k c m=true
def LgS:List Nd->List Int->Prop
 |[]=>fun w=>w=[]
 |t::r=>fun w=>∃u v,w=u++v/\Lg t u/\LgS r v
def LgA:List Nd->List Int->Prop
 |[]=>fun _=>False
 |t::r=>fun w=>Lg t w\/LgA r w
def LgH:List Nd->List Int->Prop
 |[]=>fun _=>False
 |t::_=>Lg t
end
mutual
/-- Expressions whose parts are as many as they must. -/
def gK:Nd->Bool
 |.mk k _ l=>(if k=4 then !l.isEmpty else if k=6\/k=7\/k=8 then decide (l.length=1)else true)&&dV l
def dV:List Nd->Bool
 |[]=>true
 |t::r=>gK t&&dV r
end
inductive Pt(g:Gr):Nat->List Int->Nat->Prop
 |nil (k:Nat):Pt g k [] k
 |eps {k k' q:Nat} {w:List Int}:k<g.ks.length->k'∈g.fr k->Pt g k' w q->Pt g k w q
 |leaf {k j q:Nat} {m:Int} {w:List Int}:k<g.ks.length->j<g.ls.length->j+1∈g.lv k->dc (nth g.ls j).1 (nth g.ls j).2.1 m=true->Pt g (nth g.ls j).2.2 w q->Pt g k (m::w) q
theorem Pt.trans{g:Gr}{a b c:Nat}{u v:List Int}(h:Pt g a u b)(k:Pt g b v c):Pt g a (u++v) c:=by
 induction h with
 |nil=>exact k
 |eps h1 h2 _ ih=>exact .eps h1 h2 (ih k)
 |leaf h1 h2 h3 h4 _ ih=>exact .leaf h1 h2 h3 h4 (ih k)
structure Sub(g g':Gr):Prop where
 len:g.ks.length<=g'.ks.length
 ls:∃r,g'.ls=g.ls++r
 fr:∀k j,k<g.ks.length->j∈g.fr k->j∈g'.fr k
 lv:∀k j,k<g.ks.length->j∈g.lv k->j∈g'.lv k
theorem Sub.refl(g:Gr):Sub g g:=⟨J4 _,⟨[],by simp⟩,fun _ _ _ h=>h,fun _ _ _ h=>h⟩
theorem Sub.trans{a b c:Gr}(h:Sub a b)(k:Sub b c):Sub a c:=by
 obtain⟨r,hr⟩:=h.ls;obtain⟨s,hs⟩:=k.ls;exact⟨LD h.len k.len,⟨r++s,by rw[hs,hr,Kx]⟩,fun q j hq hj=>k.fr q j (Kr hq h.len) (h.fr q j hq hj),fun q j hq hj=>k.lv q j (Kr hq h.len) (h.lv q j hq hj)⟩
theorem aL(g:Gr):g.knot.ks.length=g.ks.length+1:=by simp[Gr.knot]
theorem bd(g:Gr)(a b:Nat):(g.free a b).ks.length=g.ks.length:=by simp[Gr.free]
theorem iP(g:Gr)(k c:Int)(a b:Nat):(g.leaf k c a b).ks.length=g.ks.length:=by simp[Gr.leaf]
theorem qT(g:Gr)(k:Nat):nth g.knot.ks k=if k<g.ks.length then nth g.ks k else([],[],0):=by
 unfold Gr.knot;rw[aA]
 split
 ·rfl
 by_cases h:k-g.ks.length=0
 ·rw[h,ay]
 rw[eF (by simp;omega)];rfl
theorem nJ(g:Gr)(k:Nat):g.knot.fr k=if k<g.ks.length then g.fr k else []:=by unfold Gr.fr;rw[qT];split<;>rfl
theorem nH(g:Gr)(k:Nat):g.knot.lv k=if k<g.ks.length then g.lv k else []:=by unfold Gr.lv;rw[qT];split<;>rfl
theorem nM{g:Gr}{a b:Nat}(ha:a<g.ks.length)(k:Nat):(g.free a b).fr k=if k=a then g.fr a++[b]else g.fr k:=by
 unfold Gr.free Gr.fr;rw[aQ ha];split<;>rfl
theorem nL{g:Gr}{a b:Nat}(ha:a<g.ks.length)(k:Nat):(g.free a b).lv k=g.lv k:=by
 unfold Gr.free Gr.lv;rw[aQ ha];split
 ·rename_i h;rw[h]
 rfl
theorem nz{g:Gr}{x c:Int}{a b:Nat}(ha:a<g.ks.length)(k:Nat):(g.leaf x c a b).fr k=g.fr k:=by
 unfold Gr.leaf Gr.fr;rw[aQ ha];split
 ·rename_i h;rw[h]
 rfl
theorem nu{g:Gr}{x c:Int}{a b:Nat}(ha:a<g.ks.length)(k:Nat):(g.leaf x c a b).lv k=if k=a then g.lv a++[g.ls.length+1]else g.lv k:=by
 unfold Gr.leaf Gr.lv;rw[aQ ha];split<;>rfl
theorem nw(g:Gr)(x c:Int)(a b:Nat):(g.leaf x c a b).ls=g.ls++[(x,c,b)]:=rfl
theorem kB(g:Gr):Sub g g.knot:=⟨by rw[aL];omega,⟨[],by simp[Gr.knot]⟩,fun k j hk h=>by rw[nJ,if_pos hk];exact h,fun k j hk h=>by rw[nH,if_pos hk];exact h⟩
theorem eX{g:Gr}{a b:Nat}(ha:a<g.ks.length):Sub g (g.free a b):=⟨by rw[bd];omega,⟨[],by simp[Gr.free]⟩,fun k j _ h=>by
 rw[nM ha];split
 ·rename_i e;subst e;exact LZ _ h
 exact h,fun k j _ h=>by rw[nL ha];exact h⟩
theorem CH{g:Gr}{x c:Int}{a b:Nat}(ha:a<g.ks.length):Sub g (g.leaf x c a b):=⟨by rw[iP];omega,⟨_,rfl⟩,fun k j _ h=>by rw[nz ha];exact h,fun k j _ h=>by
 rw[nu ha];split
 ·rename_i e;subst e;exact LZ _ h
 exact h⟩
structure WF(g:Gr):Prop where
 fr:∀k j,k<g.ks.length->j∈g.fr k->j<g.ks.length
 lv:∀k j,k<g.ks.length->j∈g.lv k->1<=j/\j<=g.ls.length
 ls:∀j,j<g.ls.length->(nth g.ls j).2.2<g.ks.length
theorem WF.knot{g:Gr}(h:WF g):WF g.knot:=by
 have hl:=aL g;refine⟨fun k j hk hj=>?_,fun k j hk hj=>?_,fun j hj=>?_⟩
 ·rw[nJ]at hj
  split at hj
  ·rename_i e;have:=h.fr k j e hj;omega
  simp at hj
 ·rw[nH]at hj
  split at hj
  ·rename_i e;exact h.lv k j e hj
  simp at hj
 have:=h.ls j hj;show(nth g.ls j).2.2<_;omega
theorem WF.free{g:Gr}(h:WF g){a b:Nat}(ha:a<g.ks.length)(hb:b<g.ks.length):WF (g.free a b):=by
 have hl:=bd g a b;refine⟨fun k j hk hj=>?_,fun k j hk hj=>?_,fun j hj=>?_⟩
 ·rw[hl]at hk ⊢;rw[nM ha]at hj
  split at hj
  ·rcases JN.1 hj with hj|hj
   ·exact h.fr a j ha hj
   rw[J5.1 hj];exact hb
  exact h.fr k j hk hj
 ·rw[hl]at hk;rw[nL ha]at hj;exact h.lv k j hk hj
 rw[hl];exact h.ls j hj
theorem WF.leaf{g:Gr}(h:WF g){x c:Int}{a b:Nat}(ha:a<g.ks.length)(hb:b<g.ks.length):WF (g.leaf x c a b):=by
 have hl:=iP g x c a b;have h2:(g.leaf x c a b).ls.length=g.ls.length+1:=by simp[Gr.leaf]
 refine⟨fun k j hk hj=>?_,fun k j hk hj=>?_,fun j hj=>?_⟩
 ·rw[hl]at hk ⊢;rw[nz ha]at hj;exact h.fr k j hk hj
 ·rw[hl]at hk;rw[h2];rw[nu ha]at hj
  split at hj
  ·rcases JN.1 hj with hj|hj
   ·have:=h.lv a j ha hj;omega
   rw[J5.1 hj];omega
  have:=h.lv k j hk hj;omega
 rw[hl,nw,aA]
 split
 ·rename_i e;exact h.ls j e
 rw[h2]at hj;rw[show j-g.ls.length=0 from by omega,ay];exact hb
theorem Fq{k:Int}{g:Gr}{i:Nat}(h:WF g)(hi:i+1<g.ks.length):WF (layO k g i):=by
 unfold layO;split<;>split
 ·exact h
 ·exact h.free zo hi
 ·exact h.free hi zo
 exact(h.free zo hi).free (by rw[bd];exact hi) (by rw[bd];omega)
theorem CK{k:Int}{g:Gr}{i:Nat}(hi:i+1<g.ks.length):Sub g (layO k g i):=by
 unfold layO;split<;>split
 ·exact Sub.refl _
 ·exact eX zo
 ·exact eX hi
 exact(eX zo).trans (eX (by rw[bd];exact hi))
def bV(g:Gr)(a b:Nat):Gr:=(g.knot.knot.free a g.ks.length).free (g.ks.length+1) b
theorem ey(g:Gr)(a b:Nat):(bV g a b).ks.length=g.ks.length+2:=by unfold bV;rw[bd,bd,aL,aL]
theorem fF{g:Gr}(h:WF g){a b:Nat}(ha:a<g.ks.length)(hb:b<g.ks.length):WF (bV g a b):=by
 have h2:g.knot.knot.ks.length=g.ks.length+2:=by rw[aL,aL]
 exact(h.knot.knot.free zo zo).free (by rw[bd];omega) (by rw[bd];omega)
theorem yf{g:Gr}{a b:Nat}(ha:a<g.ks.length):Sub g (bV g a b):=by
 have h2:g.knot.knot.ks.length=g.ks.length+2:=by rw[aL,aL]
 exact(((kB g).trans (kB _)).trans (eX zo)).trans (eX (by rw[bd];omega))
mutual
theorem cL:∀(t:Nd) (a b:Nat) (g:Gr),WF g->a<g.ks.length->b<g.ks.length->WF (fW t a b g)/\Sub g (fW t a b g)
 |.mk k c l,a,b,g,h,ha,hb=>by
  unfold fW
  split
  ·exact AL l a b g h ha hb
  split
  ·exact AQ l a b g h ha hb
  split
  ·have hl:=ey g a b
   obtain⟨h1,h2⟩:=nD l g.ks.length (g.ks.length+1) (bV g a b) (fF h ha hb) zo zo
   have:=h2.len
   show WF (layO k (pN l g.ks.length (g.ks.length+1) (bV g a b)) g.ks.length)/\Sub g (layO k (pN l g.ks.length (g.ks.length+1) (bV g a b)) g.ks.length)
   exact⟨Fq h1 zo,((yf ha).trans h2).trans (CK zo)⟩
  split
  ·exact⟨h.free ha hb,eX ha⟩
  exact⟨h.leaf ha hb,CH ha⟩
theorem AL:∀(l:List Nd) (a b:Nat) (g:Gr),WF g->a<g.ks.length->b<g.ks.length->WF (oE l a b g)/\Sub g (oE l a b g)
 |[],_,_,g,h,_,_=>⟨h,Sub.refl g⟩
 |t::r,a,b,g,h,ha,hb=>by
  unfold oE
  split
  ·exact cL t a b g h ha hb
  have hl:=aL g
  obtain⟨h1,h2⟩:=cL t a g.ks.length g.knot h.knot zo zo
  have:=h2.len
  obtain⟨h3,h4⟩:=AL r g.ks.length b _ h1 zo zo
  exact⟨h3,((kB g).trans h2).trans h4⟩
theorem AQ:∀(l:List Nd) (a b:Nat) (g:Gr),WF g->a<g.ks.length->b<g.ks.length->WF (oF l a b g)/\Sub g (oF l a b g)
 |[],_,_,g,h,_,_=>⟨h,Sub.refl g⟩
 |t::r,a,b,g,h,ha,hb=>by
  unfold oF
  obtain⟨h1,h2⟩:=cL t a b g h ha hb
  have:=h2.len
  obtain⟨h3,h4⟩:=AQ r a b _ h1 zo zo
  exact⟨h3,h2.trans h4⟩
theorem nD:∀(l:List Nd) (a b:Nat) (g:Gr),WF g->a<g.ks.length->b<g.ks.length->WF (pN l a b g)/\Sub g (pN l a b g)
 |[],_,_,g,h,_,_=>⟨h,Sub.refl g⟩
 |t::_,a,b,g,h,ha,hb=>by
  unfold pN
  exact cL t a b g h ha hb
end
structure Lbl(g:Gr)(R:Nat->List Int->Prop):Prop where
 fr:∀k j,k<g.ks.length->j∈g.fr k->∀w,R j w->R k w
 lv:∀k j,k<g.ks.length->j<g.ls.length->j+1∈g.lv k->∀m w,dc (nth g.ls j).1 (nth g.ls j).2.1 m=true->R (nth g.ls j).2.2 w->R k (m::w)
theorem Lbl.agree{g:Gr}{R R':Nat->List Int->Prop}(h:Lbl g R)(hw:WF g)(e:∀k,k<g.ks.length->R' k=R k):Lbl g R':=
 ⟨fun k j hk hj w=>by rw[e k hk,e j (hw.fr k j hk hj)];exact h.fr k j hk hj w,fun k j hk hj hl m w=>by rw[e k hk,e _ (hw.ls j hj)];exact h.lv k j hk hj hl m w⟩
theorem Lbl.knot{g:Gr}{R:Nat->List Int->Prop}(h:Lbl g R):Lbl g.knot R:=by
 refine⟨fun k j hk hj w=>?_,fun k j hk hj hl m w=>?_⟩
 ·rw[nJ]at hj
  split at hj
  ·rename_i e;exact h.fr k j e hj w
  simp at hj
 rw[nH]at hl
 split at hl
 ·rename_i e;exact h.lv k j e hj hl m w
 simp at hl
theorem Lbl.free{g:Gr}{R:Nat->List Int->Prop}(h:Lbl g R){a b:Nat}(ha:a<g.ks.length)(a0:∀w,R b w->R a w):Lbl (g.free a b) R:=by
 refine⟨fun k j hk hj w=>?_,fun k j hk hj hl m w=>?_⟩
 ·rw[bd]at hk;rw[nM ha]at hj
  split at hj
  ·rename_i e;subst e
   rcases JN.1 hj with hj|hj
   ·exact h.fr k j ha hj w
   rw[J5.1 hj];exact a0 w
  exact h.fr k j hk hj w
 rw[bd]at hk;rw[nL ha]at hl;exact h.lv k j hk hj hl m w
theorem Lbl.leaf{g:Gr}{R:Nat->List Int->Prop}(h:Lbl g R)(hw:WF g){x c:Int}{a b:Nat}(ha:a<g.ks.length)(a1:∀m w,dc x c m=true->R b w->R a (m::w)):Lbl (g.leaf x c a b) R:=by
 refine⟨fun k j hk hj w=>?_,fun k j hk hj hl m w=>?_⟩
 ·rw[iP]at hk;rw[nz ha]at hj;exact h.fr k j hk hj w
 rw[iP]at hk;rw[nu ha]at hl;rw[nw,Jw]at hj;simp only[Jj,Kg]at hj;rw[nw,aA]
 by_cases a0:j<g.ls.length
 ·rw[if_pos a0];refine h.lv k j hk a0 ?_ m w
  split at hl
  ·rename_i e;subst e
   rcases JN.1 hl with hl|hl
   ·exact hl
   have:=J5.1 hl;omega
  exact hl
 rw[if_neg a0,show j-g.ls.length=0 from by omega,ay]
 split at hl
 ·rename_i e;subst e;exact a1 m w
 have:=hw.lv k (j+1) hk hl;omega
def ug(R:Nat->List Int->Prop)(i:Nat)(X:List Int->Prop):Nat->List Int->Prop:=fun k=>if k=i then X else R k
theorem mT(R:Nat->List Int->Prop)(i:Nat)(X:List Int->Prop):ug R i X i=X:=if_pos rfl
theorem eB{R:Nat->List Int->Prop}{i k:Nat}{X:List Int->Prop}(h:k≠i):ug R i X k=R k:=if_neg h
def Cat(L M:List Int->Prop):List Int->Prop:=fun w=>∃u v,w=u++v/\L u/\M v
def uL(k:Int)(L:List Int->Prop):List Int->Prop:=if k=8 then fun w=>w=[]else StarP L
def inL(k:Int)(L:List Int->Prop):List Int->Prop:=if k=6 then StarP L else if k=7 then Cat L (StarP L)else fun w=>w=[]\/L w
theorem Cr(k:Int)(L:List Int->Prop):uL k L []:=by unfold uL;split;rfl;exact .nil
theorem GA{k:Int}(hk:k=6\/k=7\/k=8){L:List Int->Prop}{u v:List Int}(hu:L u)(hv:uL k L v):inL k L (u++v):=by
 unfold uL at hv;unfold inL
 rcases hk with rfl|rfl|rfl
 ·rw[if_neg zd]at hv;rw[if_pos rfl];exact .cons hu hv
 ·rw[if_neg zd]at hv;rw[if_neg zd,if_pos rfl];exact⟨u,v,rfl,hu,hv⟩
 rw[if_pos rfl]at hv;subst hv;rw[if_neg zd,if_neg zd,K0];exact .inr hu
theorem Ft{k:Int}(hk:k=6\/k=7\/k=8)(h7:k≠7){L:List Int->Prop}{v:List Int}(hv:uL k L v):inL k L v:=by
 unfold uL at hv;unfold inL
 rcases hk with rfl|rfl|rfl
 ·rw[if_neg zd]at hv;rw[if_pos rfl];exact hv
 ·exact absurd rfl h7
 rw[if_pos rfl]at hv;rw[if_neg zd,if_neg zd];exact .inl hv
theorem Cq{k:Int}(hk:k=6\/k=7\/k=8)(h8:k≠8){L:List Int->Prop}{v:List Int}(hv:inL k L v):uL k L v:=by
 unfold inL at hv;unfold uL;rw[if_neg h8]
 rcases hk with rfl|rfl|rfl
 ·rw[if_pos rfl]at hv;exact hv
 ·rw[if_neg zd,if_pos rfl]at hv;obtain⟨u,v,rfl,hu,hv⟩:=hv;exact .cons hu hv
 exact absurd rfl h8
theorem Da{k c:Int}{l:List Nd}(hk:k=6\/k=7\/k=8):Lg (.mk k c l)=inL k (LgH l):=by
 unfold Lg inL;funext w
 rcases hk with rfl|rfl|rfl
 ·rw[if_neg zd,if_neg zd,if_pos rfl,if_pos rfl]
 ·rw[if_neg zd,if_neg zd,if_neg zd,if_pos rfl,if_neg zd,if_pos rfl];rfl
 rw[if_neg zd,if_neg zd,if_neg zd,if_neg zd,if_pos rfl,if_neg zd,if_neg zd]
theorem CL{k:Int}{g:Gr}{R:Nat->List Int->Prop}{i:Nat}(h:Lbl g R)(hi:i+1<g.ks.length)(h7:k≠7->∀w,R (i+1) w->R i w)(h8:k≠8->∀w,R i w->R (i+1) w):Lbl (layO k g i) R:=by
 unfold layO
 split
 ·split
  ·exact h
  rename_i q;exact h.free zo (h7 q)
 rename_i q8
 split
 ·exact h.free hi (h8 q8)
 rename_i q;exact(h.free zo (h7 q)).free (by rw[bd];exact hi) (h8 q8)
mutual
theorem kz:∀(t:Nd) (a b:Nat) (g:Gr) (R:Nat->List Int->Prop),WF g->a<g.ks.length->b<g.ks.length->Lbl g R->(∀u v,Lg t u->R b v->R a (u++v))->
  ∃R',(∀k,k<g.ks.length->R' k=R k)/\Lbl (fW t a b g) R'
 |.mk k c l,a,b,g,R,h,ha,hb,hL,hab=>by
  unfold fW
  by_cases h4:k=4
  ·rw[if_pos h4]
   refine pM l a b g R h ha hb hL fun u v hu hv=>hab u v ?_ hv
   unfold Lg;rw[if_pos h4];exact hu
  rw[if_neg h4]
  by_cases h5:k=5
  ·rw[if_pos h5]
   refine pO l a b g R h ha hb hL fun u v hu hv=>hab u v ?_ hv
   unfold Lg;rw[if_neg h4,if_pos h5];exact hu
  rw[if_neg h5]
  by_cases h678:k=6\/k=7\/k=8
  ·rw[if_pos h678]
   have hab':∀u v,inL k (LgH l) u->R b v->R a (u++v):=fun u v hu hv=>hab u v (by rw[Da h678];exact hu) hv
   have hl:=ey g a b
   have hwf:=fF h ha hb
   obtain⟨h1,h2⟩:=nD l g.ks.length (g.ks.length+1) (bV g a b) hwf zo zo
   have hlen:=h2.len
   show∃R',(∀q,q<g.ks.length->R' q=R q)/\Lbl (layO k (pN l g.ks.length (g.ks.length+1) (bV g a b)) g.ks.length) R'
   have hR1:Lbl (bV g a b) (ug (ug R g.ks.length (Cat (inL k (LgH l)) (R b))) (g.ks.length+1) (Cat (uL k (LgH l)) (R b))):=by
    have hk2:g.knot.knot.ks.length=g.ks.length+2:=by rw[aL,aL]
    have hg:=(hL.agree (R':=ug (ug R g.ks.length (Cat (inL k (LgH l)) (R b))) (g.ks.length+1) (Cat (uL k (LgH l)) (R b))) h fun q hq=>by rw[eB zo,eB zo]).knot.knot
    refine(hg.free zo ?_).free (by rw[bd];omega) ?_
    ·intro w hw
     rw[eB zo,mT]at hw
     rw[eB zo,eB zo]
     obtain⟨u,v,rfl,hu,hv⟩:=hw
     exact hab' u v hu hv
    intro w hw
    rw[eB zo,eB zo]at hw
    rw[mT]
    exact⟨[],w,rfl,Cr _ _,hw⟩
   have hi1:(ug (ug R g.ks.length (Cat (inL k (LgH l)) (R b))) (g.ks.length+1) (Cat (uL k (LgH l)) (R b))) g.ks.length=Cat (inL k (LgH l)) (R b):=by rw[eB zo,mT]
   have ho1:(ug (ug R g.ks.length (Cat (inL k (LgH l)) (R b))) (g.ks.length+1) (Cat (uL k (LgH l)) (R b))) (g.ks.length+1)=Cat (uL k (LgH l)) (R b):=mT _ _ _
   have hold:∀q,q<g.ks.length->(ug (ug R g.ks.length (Cat (inL k (LgH l)) (R b))) (g.ks.length+1) (Cat (uL k (LgH l)) (R b))) q=R q:=fun q hq=>by rw[eB zo,eB zo]
   generalize ug (ug R g.ks.length (Cat (inL k (LgH l)) (R b))) (g.ks.length+1) (Cat (uL k (LgH l)) (R b))=R1 at *
   obtain⟨R2,e2,hR2⟩:=yn l g.ks.length (g.ks.length+1) (bV g a b) R1 hwf zo zo hR1 (fun u v hu hv=>by
    rw[ho1]at hv
    rw[hi1]
    obtain⟨v1,v2,rfl,hv1,hv2⟩:=hv
    exact⟨u++v1,v2,by rw[Kx],GA h678 hu hv1,hv2⟩)
   refine⟨R2,fun q hq=>by rw[e2 q zo,hold q hq],CL hR2 zo ?_ ?_⟩
   ·intro h7 w
    rw[e2 _ zo,e2 _ zo,hi1,ho1]
    rintro⟨u,v,rfl,hu,hv⟩
    exact⟨u,v,rfl,Ft h678 h7 hu,hv⟩
   intro h8 w
   rw[e2 _ zo,e2 _ zo,hi1,ho1]
   rintro⟨u,v,rfl,hu,hv⟩
   exact⟨u,v,rfl,Cq h678 h8 hu,hv⟩
  rw[if_neg h678]
  have hg:Lg (.mk k c l)=fun w=>if k=9 then w=[]else∃m,w=[m]/\dc k c m=true:=by
   unfold Lg;funext w;rw[if_neg h4,if_neg h5,if_neg zo,if_neg zo,if_neg zo]
  rw[hg]at hab
  by_cases h9:k=9
  ·rw[if_pos h9]
   exact⟨R,fun _ _=>rfl,hL.free ha fun w hw=>hab [] w (by show(if k=9 then _ else _);rw[if_pos h9]) hw⟩
  rw[if_neg h9]
  exact⟨R,fun _ _=>rfl,hL.leaf h ha fun m w hm hw=>hab [m] w (by show(if k=9 then _ else _);rw[if_neg h9];exact⟨m,rfl,hm⟩) hw⟩
theorem pM:∀(l:List Nd) (a b:Nat) (g:Gr) (R:Nat->List Int->Prop),WF g->a<g.ks.length->b<g.ks.length->Lbl g R->(∀u v,LgS l u->R b v->R a (u++v))->
  ∃R',(∀k,k<g.ks.length->R' k=R k)/\Lbl (oE l a b g) R'
 |[],_,_,_,R,_,_,_,hL,_=>⟨R,fun _ _=>rfl,hL⟩
 |t::r,a,b,g,R,h,ha,hb,hL,hab=>by
  unfold LgS at hab
  unfold oE
  split
  ·rename_i hr
   obtain rfl:r=[]:=by simpa using hr
   exact kz t a b g R h ha hb hL fun u v hu hv=>hab u v ⟨u,[],by simp,hu,by unfold LgS;rfl⟩ hv
  have hl:=aL g
  have hold:∀q,q<g.ks.length->ug R g.ks.length (Cat (LgS r) (R b)) q=R q:=fun q hq=>eB zo
  have hmid:=mT R g.ks.length (Cat (LgS r) (R b))
  have hR1:=(hL.agree h hold).knot
  generalize ug R g.ks.length (Cat (LgS r) (R b))=R1 at *
  obtain⟨R2,e2,hR2⟩:=kz t a g.ks.length g.knot R1 h.knot zo zo hR1 (fun u v hu hv=>by
   rw[hmid]at hv
   rw[hold a ha]
   obtain⟨v1,v2,rfl,hv1,hv2⟩:=hv
   rw[<-Kx]
   exact hab (u++v1) v2 ⟨u,v1,rfl,hu,hv1⟩ hv2)
  obtain⟨h1,h2⟩:=cL t a g.ks.length g.knot h.knot zo zo
  have hlen:=h2.len
  obtain⟨R3,e3,hR3⟩:=pM r g.ks.length b _ R2 h1 zo zo hR2 (fun u v hu hv=>by
   rw[e2 b zo,hold b hb]at hv
   rw[e2 _ zo,hmid]
   exact⟨u,v,rfl,hu,hv⟩)
  exact⟨R3,fun q hq=>by rw[e3 q zo,e2 q zo,hold q hq],hR3⟩
theorem pO:∀(l:List Nd) (a b:Nat) (g:Gr) (R:Nat->List Int->Prop),WF g->a<g.ks.length->b<g.ks.length->Lbl g R->(∀u v,LgA l u->R b v->R a (u++v))->
  ∃R',(∀k,k<g.ks.length->R' k=R k)/\Lbl (oF l a b g) R'
 |[],_,_,_,R,_,_,_,hL,_=>⟨R,fun _ _=>rfl,hL⟩
 |t::r,a,b,g,R,h,ha,hb,hL,hab=>by
  unfold LgA at hab
  unfold oF
  obtain⟨R2,e2,hR2⟩:=kz t a b g R h ha hb hL fun u v hu hv=>hab u v (.inl hu) hv
  obtain⟨h1,h2⟩:=cL t a b g h ha hb
  have hlen:=h2.len
  obtain⟨R3,e3,hR3⟩:=pO r a b _ R2 h1 zo zo hR2 fun u v hu hv=>by
   rw[e2 b hb]at hv
   rw[e2 a ha]
   exact hab u v (.inr hu) hv
  exact⟨R3,fun q hq=>by rw[e3 q zo,e2 q hq],hR3⟩
theorem yn:∀(l:List Nd) (a b:Nat) (g:Gr) (R:Nat->List Int->Prop),WF g->a<g.ks.length->b<g.ks.length->Lbl g R->(∀u v,LgH l u->R b v->R a (u++v))->
  ∃R',(∀k,k<g.ks.length->R' k=R k)/\Lbl (pN l a b g) R'
 |[],_,_,_,R,_,_,_,hL,_=>⟨R,fun _ _=>rfl,hL⟩
 |t::_,a,b,g,R,h,ha,hb,hL,hab=>by
  unfold LgH at hab
  unfold pN
  exact kz t a b g R h ha hb hL hab
end
theorem qU(g:Gr)(k:Nat):g.knot.en k=if k<g.ks.length then g.en k else 0:=by unfold Gr.en;rw[qT];split<;>rfl
theorem vf{g:Gr}{a b:Nat}(ha:a<g.ks.length)(k:Nat):(g.free a b).en k=g.en k:=by
 unfold Gr.free Gr.en;rw[aQ ha];split
 ·rename_i h;rw[h]
 rfl
theorem AJ{g:Gr}{x c:Int}{a b:Nat}(ha:a<g.ks.length)(k:Nat):(g.leaf x c a b).en k=g.en k:=by
 unfold Gr.leaf Gr.en;rw[aQ ha];split
 ·rename_i h;rw[h]
 rfl
def SameEn(g g':Gr):Prop:=∀k,g'.en k=if k<g.ks.length then g.en k else 0
theorem GG{g:Gr}{k:Nat}(h:g.ks.length<=k):g.en k=0:=by unfold Gr.en;rw[eF h];rfl
theorem SameEn.refl(g:Gr):SameEn g g:=fun k=>by
 split
 ·rfl
 exact GG zo
theorem SameEn.trans{a b c:Gr}(h:SameEn a b)(k:SameEn b c)(hl:a.ks.length<=b.ks.length):SameEn a c:=fun q=>by
 rw[k q]
 by_cases h1:q<a.ks.length
 ·rw[if_pos h1,if_pos zo,h q,if_pos h1]
 rw[if_neg h1]
 split
 ·rw[h q,if_neg h1]
 rfl
theorem nG(g:Gr):SameEn g g.knot:=qU g
theorem eI{g:Gr}{a b:Nat}(ha:a<g.ks.length):SameEn g (g.free a b):=fun k=>by
 rw[vf ha];exact SameEn.refl g k
theorem AI{g:Gr}{x c:Int}{a b:Nat}(ha:a<g.ks.length):SameEn g (g.leaf x c a b):=fun k=>by
 rw[AJ ha];exact SameEn.refl g k
theorem AO{k:Int}{g:Gr}{i:Nat}(hi:i+1<g.ks.length):SameEn g (layO k g i):=by
 unfold layO;split<;>split
 ·exact SameEn.refl _
 ·exact eI zo
 ·exact eI hi
 exact(eI zo).trans (eI (by rw[bd];exact hi)) (by rw[bd];omega)
theorem uM{g:Gr}{a b:Nat}(ha:a<g.ks.length):SameEn g (bV g a b):=by
 have h2:g.knot.knot.ks.length=g.ks.length+2:=by rw[aL,aL]
 unfold bV;exact(((nG g).trans (nG _) (by rw[aL];omega)).trans (eI zo) zo).trans (eI (by rw[bd];omega)) (by rw[bd];omega)
mutual
theorem gW:∀(t:Nd) (a b:Nat) (g:Gr),WF g->a<g.ks.length->b<g.ks.length->SameEn g (fW t a b g)
 |.mk k c l,a,b,g,h,ha,hb=>by
  unfold fW
  split
  ·exact tf l a b g h ha hb
  split
  ·exact th l a b g h ha hb
  split
  ·have hl:=ey g a b
   have hwf:=fF h ha hb
   obtain⟨h1,h2⟩:=nD l g.ks.length (g.ks.length+1) (bV g a b) hwf zo zo
   have:=h2.len
   exact((uM ha).trans (AP l _ _ _ hwf zo zo) zo).trans (AO zo) (by show g.ks.length<=(pN l g.ks.length (g.ks.length+1) (bV g a b)).ks.length;omega)
  split
  ·exact eI ha
  exact AI ha
theorem tf:∀(l:List Nd) (a b:Nat) (g:Gr),WF g->a<g.ks.length->b<g.ks.length->SameEn g (oE l a b g)
 |[],_,_,g,_,_,_=>SameEn.refl g
 |t::r,a,b,g,h,ha,hb=>by
  unfold oE
  split
  ·exact gW t a b g h ha hb
  have hl:=aL g
  obtain⟨h1,h2⟩:=cL t a g.ks.length g.knot h.knot zo zo
  have:=h2.len
  exact((nG g).trans (gW t _ _ _ h.knot zo zo) zo).trans (tf r _ _ _ h1 zo zo) zo
theorem th:∀(l:List Nd) (a b:Nat) (g:Gr),WF g->a<g.ks.length->b<g.ks.length->SameEn g (oF l a b g)
 |[],_,_,g,_,_,_=>SameEn.refl g
 |t::r,a,b,g,h,ha,hb=>by
  unfold oF
  obtain⟨h1,h2⟩:=cL t a b g h ha hb
  have:=h2.len
  exact(gW t a b g h ha hb).trans (th r _ _ _ h1 zo zo) zo
theorem AP:∀(l:List Nd) (a b:Nat) (g:Gr),WF g->a<g.ks.length->b<g.ks.length->SameEn g (pN l a b g)
 |[],_,_,g,_,_,_=>SameEn.refl g
 |t::_,a,b,g,h,ha,hb=>by
  unfold pN
  exact gW t a b g h ha hb
end
def Gr.mark(g:Gr)(a e:Nat):Gr:=⟨g.ls,g.ks.set a (g.fr a,g.lv a,e)⟩
theorem dr(g:Gr)(a e:Nat):(g.mark a e).ks.length=g.ks.length:=by simp[Gr.mark]
theorem qO{g:Gr}{a e:Nat}(ha:a<g.ks.length)(k:Nat):(g.mark a e).fr k=g.fr k:=by
 unfold Gr.mark Gr.fr;rw[aQ ha];split
 ·rename_i h;rw[h]
 rfl
theorem qN{g:Gr}{a e:Nat}(ha:a<g.ks.length)(k:Nat):(g.mark a e).lv k=g.lv k:=by
 unfold Gr.mark Gr.lv;rw[aQ ha];split
 ·rename_i h;rw[h]
 rfl
theorem AA{g:Gr}{a e:Nat}(ha:a<g.ks.length)(k:Nat):(g.mark a e).en k=if k=a then e else g.en k:=by
 unfold Gr.mark Gr.en;rw[aQ ha];split<;>rfl
theorem CD{g:Gr}{a e:Nat}(ha:a<g.ks.length):Sub g (g.mark a e):=⟨by rw[dr];omega,⟨[],by simp[Gr.mark]⟩,fun k j _ h=>by rw[qO ha];exact h,fun k j _ h=>by rw[qN ha];exact h⟩
theorem WF.mark{g:Gr}(h:WF g){a e:Nat}(ha:a<g.ks.length):WF (g.mark a e):=
 ⟨fun k j hk hj=>by rw[dr]at hk ⊢;rw[qO ha]at hj;exact h.fr k j hk hj,fun k j hk hj=>by rw[dr]at hk;rw[qN ha]at hj;exact h.lv k j hk hj,fun j hj=>by rw[dr];exact h.ls j hj⟩
def gz(g:Gr)(i:Nat):Gr:=((g.knot.mark g.ks.length (i+1)).knot).free 0 (g.ks.length+1)
def sN(x:Nd)(i:Nat)(g:Gr):Gr:=fW x (g.ks.length+1) g.ks.length (gz g i)
def dE:List Nd->Nat->Gr->Gr
 |[],_,g=>g
 |x::r,i,g=>dE r (i+1) (sN x i g)
def g00:Gr:=⟨[],[([],[],0)]⟩
def rT(xs:List Nd):Gr:=dE xs 0 g00
theorem fq(g:Gr)(i:Nat):(gz g i).ks.length=g.ks.length+2:=by unfold gz;rw[bd,aL,dr,aL]
theorem gI{g:Gr}(h:WF g)(h0:0<g.ks.length)(i:Nat):WF (gz g i)/\Sub g (gz g i):=by
 have h1:=aL g;have h2:=dr g.knot g.ks.length (i+1);have h3:=aL (g.knot.mark g.ks.length (i+1));refine⟨((h.knot.mark zo).knot).free zo zo,(((kB g).trans (CD zo)).trans (kB _)).trans (eX zo)⟩
theorem zJ{g:Gr}(h0:0<g.ks.length)(i k:Nat):(gz g i).en k=if k=g.ks.length then i+1 else if k<g.ks.length then g.en k else 0:=by
 have h1:=aL g;have h2:=dr g.knot g.ks.length (i+1);have h3:=aL (g.knot.mark g.ks.length (i+1));unfold gz;rw[vf zo,qU,AA zo,qU]
 by_cases hk:k=g.ks.length
 ·simp only[if_pos hk];rw[if_pos zo]
 simp only[if_neg hk]
 by_cases a0:k<g.ks.length
 ·simp only[if_pos a0];rw[if_pos zo]
 simp only[if_neg a0];split<;>rfl
theorem qH{g:Gr}(h:WF g)(h0:0<g.ks.length)(x:Nd)(i:Nat):WF (sN x i g)/\Sub g (sN x i g)/\g.ks.length+2<=(sN x i g).ks.length:=by
 obtain⟨h1,h2⟩:=gI h h0 i;have hl:=fq g i;obtain⟨h3,h4⟩:=cL x (g.ks.length+1) g.ks.length (gz g i) h1 zo zo;exact⟨h3,h2.trans h4,by have:=h4.len;unfold sN;omega⟩
theorem Ak{g:Gr}(h:WF g)(h0:0<g.ks.length)(x:Nd)(i k:Nat):(sN x i g).en k=if k=g.ks.length then i+1 else if k<g.ks.length then g.en k else 0:=by
 obtain⟨h1,h2⟩:=gI h h0 i;have hl:=fq g i;have:=gW x (g.ks.length+1) g.ks.length (gz g i) h1 zo zo k;rw[zJ h0,hl]at this;unfold sN;rw[this]
 by_cases hk:k=g.ks.length
 ·rw[if_pos zo]
 rw[if_neg hk]
 by_cases a0:k<g.ks.length
 ·rw[if_pos zo]
 rw[if_neg a0];split<;>rfl
theorem xC:∀(xs:List Nd) (i:Nat) (g:Gr),WF g->0<g.ks.length->WF (dE xs i g)/\Sub g (dE xs i g)/\∀k,k<g.ks.length->(dE xs i g).en k=g.en k
 |[],_,g,h,_=>⟨h,Sub.refl g,fun _ _=>rfl⟩
 |x::r,i,g,h,h0=>by
  obtain⟨h1,h2,h3⟩:=qH h h0 x i;obtain⟨h4,h5,h6⟩:=xC r (i+1) (sN x i g) h1 zo;refine⟨h4,h2.trans h5,fun k hk=>?_⟩;show(dE r (i+1) (sN x i g)).en k=_;rw[h6 k zo,Ak h h0,if_neg zo,if_pos hk]
theorem xm:WF g00:=by
 refine⟨fun k j hk hj=>?_,fun k j hk hj=>?_,fun j hj=>?_⟩
 ·have:k=0:=by simpa[g00]using hk
  subst this;simp[Gr.fr,g00,ay]at hj
 ·have:k=0:=by simpa[g00]using hk
  subst this;simp[Gr.lv,g00,ay]at hj
 simp[g00]at hj
theorem Fi(xs:List Nd):WF (rT xs)/\0<(rT xs).ks.length:=by
 obtain⟨h1,h2,_⟩:=xC xs 0 g00 xm zd;exact⟨h1,Kr zd h2.len⟩
def dG:List Nat->List Nat->List Nat
 |l,[]=>l
 |l,x::r=>dG (if l.contains x then l else l++[x]) r
def gO(g:Gr):Nat->Nat->List Nat->List Nat
 |0,_,l=>l
 |n+1,i,l=>if i<l.length then gO g n (i+1) (dG l (g.fr (nth l i)))else l
def eT(g:Gr)(k:Nat):List Nat:=gO g g.ks.length 0 [k]
theorem iW:∀(r l:List Nat),∃s,dG l r=l++s
 |[],l=>⟨[],by simp[dG]⟩
 |x::r,l=>by
  unfold dG
  split
  ·exact iW r l
  obtain⟨s,hs⟩:=iW r (l++[x]);exact⟨x::s,by rw[hs];simp⟩
theorem fS:∀(r l:List Nat) (y:Nat),y∈dG l r↔y∈l\/y∈r
 |[],l,y=>by simp[dG]
 |x::r,l,y=>by
  unfold dG;rw[fS r]
  split
  ·rename_i h;have hx:x∈l:=by simpa using h
   constructor
   ·rintro(h1|h1)
    ·exact .inl h1
    exact .inr (by simp[h1])
   rintro(h1|h1)
   ·exact .inl h1
   rcases List.mem_cons.1 h1 with rfl|h1
   ·exact .inl hx
   exact .inr h1
  simp[or_assoc]
theorem mq:∀(r l:List Nat),l.Nodup->(dG l r).Nodup
 |[],l,h=>h
 |x::r,l,h=>by
  unfold dG;refine mq r _ ?_
  split
  ·exact h
  rename_i hx;have hx:x∉l:=by simpa using hx
  exact KU.2 ⟨h,by simp,fun a ha b hb=>by rw[J5.1 hb];intro e;exact hx (by rw[<-e];exact ha)⟩
theorem eW{n:Nat}{l:List Nat}(hn:l.Nodup)(h:∀x∈l,x<n):l.length<=n:=by
 have:=hn.length_le_of_subset (l₂:=JJ n) fun x hx=>MR.2 (h x hx)
 simpa using this
structure Rc(g:Gr)(k i:Nat)(l:List Nat):Prop where
 nd:l.Nodup
 lt:∀x∈l,x<g.ks.length
 fst:k∈l
 pt:∀x∈l,Pt g k [] x
 cl:∀j,j<i->j<l.length->∀y∈g.fr (nth l j),y∈l
theorem rK{g:Gr}{k:Nat}(hk:k<g.ks.length):Rc g k 0 [k]:=⟨by simp,by simpa using hk,by simp,fun x hx=>by rw[J5.1 hx];exact .nil _,fun j hj=>absurd hj (Jq _)⟩
theorem Rc.step{g:Gr}(hw:WF g){k i:Nat}{l:List Nat}(h:Rc g k i l)(hi:i<l.length):Rc g k (i+1) (dG l (g.fr (nth l i))):=by
 have hm:=aI hi;obtain⟨s,hs⟩:=iW (g.fr (nth l i)) l;refine⟨mq _ _ h.nd,fun x hx=>?_,(fS _ _ _).2 (.inl h.fst),fun x hx=>?_,fun j hj a1 y hy=>?_⟩
 ·rcases(fS _ _ _).1 hx with hx|hx
  ·exact h.lt x hx
  exact hw.fr _ _ (h.lt _ hm) hx
 ·rcases(fS _ _ _).1 hx with hx|hx
  ·exact h.pt x hx
  have:=(h.pt _ hm).trans (.eps (h.lt _ hm) hx (.nil x));simpa using this
 have a0:j<l.length:=zo;rw[hs,aA,if_pos a0]at hy;refine(fS _ _ _).2 ?_
 by_cases e:j=i
 ·subst e;exact .inr hy
 exact .inl (h.cl j zo a0 y hy)
theorem Rc.done{g:Gr}{k i:Nat}{l:List Nat}(h:Rc g k i l)(hi:l.length<=i)(q:Nat):q∈l↔Pt g k [] q:=by
 refine⟨h.pt q,fun p=>?_⟩;have a0:∀ {a:Nat} {w:List Int} {b:Nat},Pt g a w b->w=[]->a∈l->b∈l:=fun p=>by
  induction p with
  |nil=>exact fun _ h=>h
  |eps h1 h2 _ ih=>
   intro e ha;obtain⟨j,hj,rfl⟩:=cG ha;exact ih e (h.cl j zo hj _ h2)
  |leaf=>intro e;cases e
 exact a0 p rfl h.fst
theorem nh{g:Gr}(hw:WF g){k:Nat}:∀(n i:Nat) (l:List Nat),Rc g k i l->g.ks.length<=i+n->∀q,q∈gO g n i l↔Pt g k [] q
 |0,i,l,h,hn,q=>h.done (LD (eW h.nd h.lt) zo) q
 |n+1,i,l,h,hn,q=>by
  unfold gO
  split
  ·rename_i hi;exact nh hw n (i+1) _ (h.step hw hi) zo q
  rename_i hi;exact h.done zo q
theorem ng{g:Gr}(hw:WF g){k:Nat}(hk:k<g.ks.length)(q:Nat):q∈eT g k↔Pt g k [] q:=nh hw _ _ _ (rK hk) zo q
def Gr.pl(g:Gr)(p:Nat):Nat:=if p=0 then 0 else(nth g.ls (p-1)).2.2
def cK(g:Gr)(p:Nat):List Nat:=(eT g (g.pl p)).flatMap g.lv
def fY(g:Gr)(b k:Nat):Nat:=if g.en k=0 then b else b ||| 2^(g.en k-1)
def oG(g:Gr)(p:Nat):Nat:=(eT g (g.pl p)).foldl (fY g) 0
theorem uI{g:Gr}(hw:WF g)(h0:0<g.ks.length){p:Nat}(hp:p<=g.ls.length):g.pl p<g.ks.length:=by
 unfold Gr.pl
 split
 ·exact h0
 exact hw.ls _ zo
theorem vY{g:Gr}(hw:WF g)(h0:0<g.ks.length){p:Nat}(hp:p<=g.ls.length)(j:Nat):j∈cK g p↔∃k,Pt g (g.pl p) [] k/\j∈g.lv k:=by
 unfold cK;rw[Mw]
 constructor
 ·rintro⟨k,hk,hj⟩;exact⟨k,(ng hw (uI hw h0 hp) k).1 hk,hj⟩
 rintro⟨k,hk,hj⟩;exact⟨k,(ng hw (uI hw h0 hp) k).2 hk,hj⟩
structure Stp(g:Gr)(se:Bool)(step:List Int->Int->List Int):Prop where
 mem:∀(s:List Int) (m x:Int),x∈step s m↔(se=true/\x=0)\/∃p∈s,∃j∈cK g p.toNat,x=(j:Int)/\dc (nth g.ls (j-1)).1 (nth g.ls (j-1)).2.1 m=true
def inP(g:Gr)(s:List Int):Prop:=∀x∈s,0<=x/\x.toNat<=g.ls.length
theorem zI{g:Gr}(hw:WF g)(h0:0<g.ks.length){se:Bool}{step:List Int->Int->List Int}(h:Stp g se step){s:List Int}(hs:inP g s)(m:Int):inP g (step s m):=fun x hx=>by
 rcases(h.mem s m x).1 hx with⟨_,rfl⟩|⟨p,hp,j,hj,rfl,_⟩
 ·exact⟨Kz _,Js _⟩
 obtain⟨k,hk,a2⟩:=(vY hw h0 (hs p hp).2 j).1 hj;have a1:k<g.ks.length:=(ng hw (uI hw h0 (hs p hp).2) k).2 hk |> fun hm=>by
  have a0:∀ {a:Nat} {w:List Int} {b:Nat},Pt g a w b->a<g.ks.length->b<g.ks.length:=fun p=>by
   induction p with
   |nil=>exact fun h=>h
   |eps h1 h2 _ ih=>exact fun _=>ih (hw.fr _ _ h1 h2)
   |leaf h1 h2 h3 h4 _ ih=>exact fun _=>ih (hw.ls _ h2)
  exact a0 hk (uI hw h0 (hs p hp).2)
 have:=hw.lv k j a1 a2;exact⟨zo,by simp;omega⟩
theorem Pt.lt{g:Gr}(hw:WF g){a b:Nat}{w:List Int}(p:Pt g a w b):a<g.ks.length->b<g.ks.length:=by
 induction p with
 |nil=>exact fun h=>h
 |eps h1 h2 _ ih=>exact fun _=>ih (hw.fr _ _ h1 h2)
 |leaf h1 h2 h3 h4 _ ih=>exact fun _=>ih (hw.ls _ h2)
def dP(g:Gr)(s:List Int):Nat:=s.foldl (fun b p=>b ||| oG g p.toNat) 0
end Go.Proofs.YtjemhjcngaokpaaGreatDoor
section
namespace Go.Proofs
open Go.Shelf
def mI:MA:=⟨fun|189=>132|125=>157|257=>156|128=>176|129=>177|294=>167|295=>168|296=>169|297=>170|298=>171|299=>172|216=>173|300=>174|301=>175|328=>190|329=>191|330=>192|331=>193|332=>194|215=>195|343=>201|n=>n,fun|28=>22|3=>3|46=>113|0=>0|51=>267|53=>28|4=>4|183=>262|182=>261|131=>83|5=>5|9=>9|218=>278|222=>281|228=>285|229=>232|n=>n,fun|n=>n⟩
theorem mw:N2 Jp mI:={
 mixed:=by kernel_rfl
 f125:=func157.trans (congrArg some (by kernel_rfl))
 f128:=func176.trans (congrArg some (by kernel_rfl))
 f129:=func177.trans (congrArg some (by kernel_rfl))
 f189:=func132.trans (congrArg some (by kernel_rfl))
 f215:=func195.trans (congrArg some (by kernel_rfl))
 f216:=func173.trans (congrArg some (by kernel_rfl))
 f257:=func156.trans (congrArg some (by kernel_rfl))
 f294:=func167.trans (congrArg some (by kernel_rfl))
 f295:=func168.trans (congrArg some (by kernel_rfl))
 f296:=func169.trans (congrArg some (by kernel_rfl))
 f297:=func170.trans (congrArg some (by kernel_rfl))
 f298:=func171.trans (congrArg some (by kernel_rfl))
 f299:=func172.trans (congrArg some (by kernel_rfl))
 f300:=func174.trans (congrArg some (by kernel_rfl))
 f301:=func175.trans (congrArg some (by kernel_rfl))
 f328:=func190.trans (congrArg some (by kernel_rfl))
 f329:=func191.trans (congrArg some (by kernel_rfl))
 f330:=func192.trans (congrArg some (by kernel_rfl))
 f331:=func193.trans (congrArg some (by kernel_rfl))
 f332:=func194.trans (congrArg some (by kernel_rfl))
 f343:=func201.trans (congrArg some (by kernel_rfl))
 t0:=NH
 a0:=isAgg0
 z0:=sizeOf0
 v0:=NM
 t3:=KC
 a3:=isAgg3
 z3:=Lb
 v3:=NL
 t4:=KS
 a4:=isAgg4
 z4:=sizeOf4
 v4:=NK
 t5:=NG
 a5:=isAgg5
 z5:=sizeOf5
 v5:=zeroValue5
 t9:=J1
 a9:=isAgg9
 z9:=sizeOf9
 v9:=zeroValue9
 t28:=KO
 a28:=MV
 z28:=MC
 v28:=NF
 t46:=underlying113
 a46:=isAgg113
 z46:=sizeOf113
 v46:=zeroValue113
 t51:=underlying267
 a51:=isAgg267
 z51:=sizeOf267
 v51:=zeroValue267
 t53:=underlying28
 a53:=isAgg28
 z53:=sizeOf28
 v53:=zeroValue28
 t131:=underlying83
 a131:=isAgg83
 z131:=sizeOf83
 v131:=zeroValue83
 t182:=underlying261
 a182:=isAgg261
 z182:=sizeOf261
 v182:=zeroValue261
 t183:=underlying262
 a183:=isAgg262
 z183:=sizeOf262
 v183:=zeroValue262
 t218:=underlying278
 a218:=isAgg278
 z218:=sizeOf278
 v218:=zeroValue278
 t222:=underlying281
 a222:=isAgg281
 z222:=sizeOf281
 v222:=zeroValue281
 t228:=underlying285
 a228:=isAgg285
 z228:=sizeOf285
 v228:=zeroValue285
 t229:=underlying232
 a229:=isAgg232
 z229:=sizeOf232
 v229:=zeroValue232 }
open Go.Sort Go.RowKit in
theorem Tryz.slices_Sort_int(blk off a1:Nat)(zs:List Int)(w:ix)(hH:Holds (KM .i64) w blk off zs.toArray)(a0:blk<w.heap.size)(a2:zs.length<4611686018427387904):
 NJ Jp 132 #[.slice (some ⟨blk,off,none⟩) zs.length a1] w fun e w'=>
  e=.returned (.tuple #[])/\∃n os,w'=grow (putRow (KM .i64) (Mf w n) blk off (zs.mergeSort fun x y=>decide (x<=y)).toArray) os:=Any.slices_Sort_int mw blk off a1 zs w hH a0 a2
def kY:MA:=⟨fun|20=>133|n=>n,fun|22=>22|3=>3|4=>4|0=>0|n=>n,fun|n=>n⟩
theorem ju:MU Jp kY:={
 mixed:=by kernel_rfl
 f20:=func133.trans (congrArg some (by kernel_rfl))
 t0:=NH
 a0:=isAgg0
 z0:=sizeOf0
 v0:=NM
 t3:=KC
 a3:=isAgg3
 z3:=Lb
 v3:=NL
 t4:=KS
 a4:=isAgg4
 z4:=sizeOf4
 v4:=NK
 t22:=KO
 a22:=MV
 z22:=MC
 v22:=NF
 i3:=by kernel_rfl }
open Go.RowKit Go.Lib Go.Sort in
theorem Tryz.slices_Compact_int(blk off a0:Nat)(zs:List Int)(w:ix)(hH:Holds (KM .i64) w blk off zs.toArray)(a2:zs.length<=9223372036854775807)(a1:zs.length<=a0):
 NJ Jp 133 #[.slice (some ⟨blk,off,none⟩) zs.length a0] w fun e w'=>e=.returned (.slice (some ⟨blk,off,none⟩) (JL zs).length a0)/\∃q,w'=putRow (KM .i64) (Mf w q) blk off (JL zs++JR (zs.length-(JL zs).length) 0).toArray:=Any.slices_Compact_int ju blk off a0 zs w hH a2 a1
open Go.RowKit Go.Lib Go.Sort in
theorem Tryz.slices_Compact_int_empty(a:Option MM)(a0:Nat)(w:ix):
 NJ Jp 133 #[.slice a 0 a0] w fun e w'=>e=.returned (.slice a 0 a0)/\w'=w:=Any.slices_Compact_int_empty ju a a0 w
open Go.RowKit Go.Sort in
theorem Tryz.slices_Sort_int_none(p:Option MM)(a0:Nat)(w:ix):
 NJ Jp 132 #[.slice p 0 a0] w fun e w'=>e=.returned (.tuple #[])/\w'=w:=Any.slices_Sort_int_none mw p a0 w
end Go.Proofs
end
namespace Go.Proofs.YtjemhjcngaokpaaGreatDoor
section
open Go.VL Go.Proofs Go.Sort
def gJ(l:List Int):List Int:=l.mergeSort fun x y=>decide (x<=y)
theorem dS(l:List Int):(gJ l).length=l.length:=List.length_mergeSort ..
theorem kG(l:List Int):(l.flatMap encI)=l.map (KM .i64):=by induction l<;>simp_all[encI]
theorem zi{O:Nat->Nat}{w:ix}{i g n:Nat}{os:Array Obj}(d:Array Int)(hi:i≠0)(ho:O g=i):Ju (fun k=>k=i) O w O (grow (putRow (KM .i64) (Mf w n) g 0 d) os):=by
 obtain⟨h1,h2,h3,h4,h5⟩:=grownBy_sortedI (w:=w) (g:=g) (n:=n) (os:=os) d;exact⟨h1,h2,h3,h4,fun k hk hn=>h5 k hk (fun e=>hn (by rw[<-ho];congr 1;exact Ku e)),fun _ _=>rfl,fun _ h=>.inl h,fun e=>hi e.symm⟩
theorem jT{B:Nat}{O:Nat->Nat}{i:Nat}{v:ka}{l:List Int}{w:ix}(hR:KV B O w)(hr:JZ encI 3 1 O w i v l)(hi:i≠0)(hl:l.length<=1000000):KD Jp 132 [v] w fun _ w'=>JZ encI 3 1 O w' i v (gJ l)/\Ju (fun k=>k=i) O w O w'/\KV B O w':=by
 rcases hr.1.row.2 with⟨rfl,h0⟩|⟨g,a6,a8,rfl,a7,hg,a2,a5,a4,ht⟩
 ·obtain rfl:l=[]:=Jk h0;refine Lh (Tryz.slices_Sort_int_none none 0 w) fun e w' ⟨he,hw⟩=>?_
  subst he;subst hw;exact⟨by rw[Jk (dS [])];exact hr,K6 (fun e=>hi e.symm) _ _,hR⟩
 have a0:=hr.1.tag g rfl;rw[kG]at ht;have hH:=holds_of_blockI (ss:=l) hg (by simpa using ht);have a3:=bq hg;refine Lh (Tryz.slices_Sort_int g 0 a6 l w hH a3 zo) fun e w' ⟨he,n,os,hw⟩=>?_
 subst he;subst hw;have hU:=zi (w:=w) (n:=n) (os:=os) (gJ l).toArray hi a0;refine⟨⟨⟨?_,fun g' a1=>by simp[MF]at a1;subst a1;exact a0⟩,fun _ _=>rfl⟩,hU,hR.upd hU⟩;have:=ownsRow_sortedI (w:=w) (n:=n) (os:=os) (base:=0) (ss:=l) (ts:=gJ l) (dS l) (Js _) hg a2 a5 a4;rw[kG,dS];exact this
theorem yF(l:List Int):(JL l).length<=l.length:=by
 unfold JL Kh;rw[KG];exact LD (LH _ _) (by simp)
theorem eK{B:Nat}{O:Nat->Nat}{i:Nat}{v:ka}{l:List Int}{w:ix}(hR:KV B O w)(hr:JZ encI 3 1 O w i v l)(hi:i≠0)(hl:l.length<=1000000):KD Jp 133 [v] w fun u w'=>JZ encI 3 1 O w' i u (JL l)/\Ju (fun k=>k=i) O w O w'/\KV B O w':=by
 rcases hr.1.row.2 with⟨rfl,h0⟩|⟨g,a4,a7,rfl,b0,hg,a5,a6,a',ht⟩
 ·obtain rfl:l=[]:=Jk h0;refine Lh (Tryz.slices_Compact_int_empty none 0 w) fun e w' ⟨he,hw⟩=>?_
  subst he;subst hw;exact⟨hr,K6 (fun e=>hi e.symm) _ _,hR⟩
 have a0:=hr.1.tag g rfl;rw[kG]at ht;have hH:=holds_of_blockI (ss:=l) hg (by simpa using ht);have a9:=yF l;refine Lh (Tryz.slices_Compact_int g 0 a4 l w hH zo a5) fun e w' ⟨he,n,hw⟩=>?_
 subst he;obtain⟨ts,a1⟩:∃ts,ts=JL l++JR (l.length-(JL l).length) 0:=⟨_,rfl⟩
 rw[<-a1]at hw;have a8:ts.length=l.length:=by rw[a1];simp;omega
 have hU:=zi (w:=w) (n:=n) (os:=#[]) ts.toArray hi a0;have a2:=heap_sortedI (n:=n) (os:=#[]) ts.toArray hg;rw[grow_empty,<-hw]at hU a2;refine⟨⟨⟨⟨by rw[kG];simp,.inr ⟨g,a4,_,rfl,Js _,a2,zo,a6,by simp[putCells];omega,?_⟩⟩,fun g' a3=>by simp[MF]at a3;subst a3;exact a0⟩,fun _ _=>rfl⟩,hU,hR.upd hU⟩;have h1:=take_putCellsI a7 ts zo;have h2:=congrArg (Mv (JL l).length) h1;rw[Ko,KI zo]at h2;rw[kG,Nh,h2,a1,Kf,L5 (by simp),Lx (by simp)]
end
def qf(l:List Int):List Int:=JL (gJ l)
structure Cmp(d:Array Int)(m:Nat)(r:List Int):Prop where
 mem:∀x,x∈r↔∃j,j<m/\d[j]! = x
 pw:r.Pairwise (· < ·)
theorem xz(d:Array Int)(hs:∀i j,i<=j->j<d.size->d[i]!<=d[j]!):∀m,m<=d.size->Cmp d m (Kh d m)
 |0,_=>⟨fun x=>by simp[Kh],by simp[Kh]⟩
 |m+1,hm=>by
  have ih:=xz d hs m zo;rw[Lib.compactUpTo_succ]
  by_cases hk:MJ d m=true
  ·rw[if_pos hk];refine⟨fun x=>?_,?_⟩
   ·rw[JN,ih.mem,J5]
    constructor
    ·rintro(⟨j,hj,e⟩|e)
     ·exact⟨j,zo,e⟩
     exact⟨m,zo,e.symm⟩
    rintro⟨j,hj,e⟩
    by_cases a0:j=m
    ·subst a0;exact .inr e.symm
    exact .inl ⟨j,zo,e⟩
   refine List.pairwise_append.2 ⟨ih.pw,by simp,fun a ha b hb=>?_⟩;rw[J5]at hb;subst hb;obtain⟨j,hj,rfl⟩:=(ih.mem a).1 ha;simp only[MJ,decide_eq_true_eq]at hk;have h1:=hs j (m-1) zo zo;have h2:=hs (m-1) m zo zo
   rcases hk with hk|hk
   ·omega
   omega
  rw[if_neg hk,K0];refine⟨fun x=>?_,ih.pw⟩;rw[ih.mem]
  constructor
  ·rintro⟨j,hj,e⟩;exact⟨j,zo,e⟩
  rintro⟨j,hj,e⟩
  by_cases a0:j=m
  ·subst a0;simp only[MJ,decide_eq_true_eq,not_or]at hk;obtain⟨h1,h2⟩:=hk;exact⟨j-1,zo,by rw[<-e];exact(Ki fun a1=>h2 fun e2=>a1 e2.symm)⟩
  exact⟨j,zo,e⟩
theorem sn(l:List Int):(gJ l).Pairwise (·<=·):=by
 have:=List.pairwise_mergeSort (le:=fun x y:Int=>decide (x<=y)) (fun a b c h1 h2=>by simp at h1 h2 ⊢;omega) (fun a b=>by simp;omega) l;exact this.imp fun h=>by simpa using h
theorem zK(l:List Int)(x:Int):x∈gJ l↔x∈l:=List.mem_mergeSort ..
theorem tQ(l:List Int):(∀x,x∈qf l↔x∈l)/\(qf l).Pairwise (· < ·):=by
 have hp:=sn l;have a0:∀j,j<(gJ l).length->(gJ l).toArray[j]! = nth (gJ l) j:=fun j hj=>by
  rw[aB hj,getElem!_pos _ j (by simpa using hj)];simp
 have h:=xz (gJ l).toArray (fun i j a1 hj=>by
  have hj:j<(gJ l).length:=by simpa using hj
  rw[a0 i zo,a0 j hj]
  by_cases e:i=j
  ·subst e;exact Kz _
  have:=Lm.1 hp i j zo hj zo
  rw[aB zo,aB hj];exact this) (gJ l).length (by simp)
 refine⟨fun x=>?_,h.pw⟩;show x∈Kh _ _↔_;rw[h.mem,<-zK l x]
 constructor
 ·rintro⟨j,hj,rfl⟩;rw[a0 j hj];exact aI hj
 intro hx;obtain⟨j,hj,rfl⟩:=cG hx;exact⟨j,hj,a0 j hj⟩
theorem tO(l:List Int)(x:Int):x∈qf l↔x∈l:=(tQ l).1 x
theorem xB(l:List Int):(qf l).Pairwise (· < ·):=(tQ l).2
theorem Cj{a:List Int}(h:a.Pairwise (· < ·)){n:Nat}(hb:∀x∈a,0<=x/\x.toNat<n):a.length<=n:=by
 have hn:(a.map Int.toNat).Nodup:=by
  refine List.pairwise_map.2 (h.imp_of_mem fun {x y} hx hy a0=>?_);have:=hb x hx;have:=hb y hy;omega
 have:=eW hn (n:=n) fun x hx=>by
  obtain⟨y,hy,rfl⟩:=JT.1 hx;exact(hb y hy).2
 simpa using this
mutual
def cY:Nd->Nat
 |.mk k _ l=>if l.isEmpty=true/\k≠9 then 1 else aT l
def aT:List Nd->Nat
 |[]=>0
 |t::r=>cY t+aT r
end
mutual
/-- Parts stand where parts may stand. -/
def yo:Nd->Bool
 |.mk k _ l=>(if k=4\/k=5\/k=6\/k=7\/k=8 then !l.isEmpty else l.isEmpty)&&jH l
def jH:List Nd->Bool
 |[]=>true
 |t::r=>yo t&&jH r
end
mutual
theorem fJ:∀(t:Nd) (a b:Nat) (g:Gr),yo t=true->gK t=true->(fW t a b g).ls.length=g.ls.length+cY t
 |.mk k c l,a,b,g,hk,hs=>by
  unfold yo at hk
  unfold gK at hs
  simp only[J6]at hk hs
  obtain⟨hk1,hk2⟩:=hk
  obtain⟨hs1,hs2⟩:=hs
  unfold fW cY
  by_cases h4:k=4
  ·rw[if_pos zo]at hk1
   rw[if_pos h4,nC l a b g hk2 hs2,if_neg (by rintro⟨e,_⟩;rw[e]at hk1;simp at hk1)]
  rw[if_neg h4]
  by_cases h5:k=5
  ·rw[if_pos zo]at hk1
   rw[if_pos h5,nF l a b g hk2 hs2,if_neg (by rintro⟨e,_⟩;rw[e]at hk1;simp at hk1)]
  rw[if_neg h5]
  by_cases h678:k=6\/k=7\/k=8
  ·rw[if_pos zo]at hk1
   rw[if_neg h4,if_pos h678]at hs1
   have hO:∀(k:Int) (g:Gr) (i:Nat),(layO k g i).ls=g.ls:=fun k g i=>by unfold layO;split<;>split<;>rfl
   rw[if_pos h678,hO,uZ l _ _ _ hk2 hs2 (of_decide_eq_true hs1),if_neg (by rintro⟨e,_⟩;rw[e]at hk1;simp at hk1)]
   rfl
  rw[if_neg h678]
  rw[if_neg zo]at hk1
  have hl:l=[]:=by simpa using hk1
  subst hl
  by_cases h9:k=9
  ·rw[if_pos h9,if_neg (by rintro⟨_,e⟩;exact e h9)]
   rfl
  rw[if_neg h9,if_pos ⟨rfl,h9⟩]
  simp[Gr.leaf]
theorem nC:∀(l:List Nd) (a b:Nat) (g:Gr),jH l=true->dV l=true->(oE l a b g).ls.length=g.ls.length+aT l
 |[],_,_,g,_,_=>by simp[oE,aT]
 |t::r,a,b,g,hk,hs=>by
  unfold jH at hk
  unfold dV at hs
  simp only[J6]at hk hs
  unfold oE aT
  split
  ·rename_i hr
   have hr:r=[]:=by simpa using hr
   subst hr
   rw[fJ t a b g hk.1 hs.1];simp[aT]
  rw[nC r _ _ _ hk.2 hs.2,fJ t _ _ _ hk.1 hs.1]
  show g.ls.length+_+_=_
  omega
theorem nF:∀(l:List Nd) (a b:Nat) (g:Gr),jH l=true->dV l=true->(oF l a b g).ls.length=g.ls.length+aT l
 |[],_,_,g,_,_=>by simp[oF,aT]
 |t::r,a,b,g,hk,hs=>by
  unfold jH at hk
  unfold dV at hs
  simp only[J6]at hk hs
  unfold oF aT
  rw[nF r _ _ _ hk.2 hs.2,fJ t _ _ _ hk.1 hs.1]
  omega
theorem uZ:∀(l:List Nd) (a b:Nat) (g:Gr),jH l=true->dV l=true->l.length=1->(pN l a b g).ls.length=g.ls.length+aT l
 |[],_,_,g,_,_,h=>by simp at h
 |t::r,a,b,g,hk,hs,h=>by
  have hr:r=[]:=by simpa using h
  subst hr
  unfold jH at hk
  unfold dV at hs
  simp only[J6]at hk hs
  unfold pN
  rw[fJ t _ _ _ hk.1 hs.1];simp[aT]
end
theorem mo:∀(xs:List Nd) (i:Nat) (g:Gr),jH xs=true->dV xs=true->(dE xs i g).ls.length=g.ls.length+aT xs
 |[],_,g,_,_=>by simp[dE,aT]
 |x::r,i,g,hk,hs=>by
  unfold jH at hk;unfold dV at hs;simp only[J6]at hk hs;unfold dE aT;rw[mo r _ _ hk.2 hs.2,sN,fJ x _ _ _ hk.1 hs.1];show g.ls.length+_+_=_;omega
def uq(g:Gr):Nat:=(g.ks.map fun k=>k.2.1.length).sum
theorem qs(f:Kt->Nat):∀(l:List Kt) (a:Nat) (x:Kt),a<l.length->((l.set a x).map f).sum+f (nth l a)=(l.map f).sum+f x
 |[],a,_,h=>absurd h (Jq a)
 |y::l,0,x,_=>by rw[ay];simp;omega
 |y::l,a+1,x,h=>by
  have:=qs f l a x (by simpa using h);rw[bA];simp only[Mi,Jt,Lr];omega
theorem CO(g:Gr):uq g.knot=uq g:=by simp[uq,Gr.knot]
theorem CU{g:Gr}{a b:Nat}(ha:a<g.ks.length):uq (g.free a b)=uq g:=by
 have:=qs (fun k=>k.2.1.length) g.ks a (g.fr a++[b],g.lv a,g.en a) ha;unfold uq Gr.free;simp only[Gr.lv]at this ⊢;omega
theorem CC{g:Gr}{a b:Nat}(ha:a<g.ks.length):uq (g.mark a b)=uq g:=by
 have:=qs (fun k=>k.2.1.length) g.ks a (g.fr a,g.lv a,b) ha;unfold uq Gr.mark;simp only[Gr.lv]at this ⊢;omega
theorem CG{g:Gr}{x c:Int}{a b:Nat}(ha:a<g.ks.length):uq (g.leaf x c a b)=uq g+1:=by
 have:=qs (fun k=>k.2.1.length) g.ks a (g.fr a,g.lv a++[g.ls.length+1],g.en a) ha;unfold uq Gr.leaf;simp only[Gr.lv,Jw,Jj,Kg]at this ⊢;omega
def Tot(g:Gr):Prop:=uq g=g.ls.length
theorem Tot.knot{g:Gr}(h:Tot g):Tot g.knot:=(CO g).trans h
theorem Tot.free{g:Gr}(h:Tot g){a b:Nat}(ha:a<g.ks.length):Tot (g.free a b):=(CU ha).trans h
theorem Tot.mark{g:Gr}(h:Tot g){a b:Nat}(ha:a<g.ks.length):Tot (g.mark a b):=(CC ha).trans h
theorem Tot.leaf{g:Gr}(h:Tot g){x c:Int}{a b:Nat}(ha:a<g.ks.length):Tot (g.leaf x c a b):=by
 unfold Tot;rw[CG ha,nw];simp;exact h
theorem Tot.layO{g:Gr}(h:Tot g){k:Int}{i:Nat}(hi:i+1<g.ks.length):Tot (layO k g i):=by
 unfold Go.Proofs.YtjemhjcngaokpaaGreatDoor.layO;split<;>split
 ·exact h
 ·exact h.free zo
 ·exact h.free hi
 exact(h.free zo).free (by rw[bd];exact hi)
mutual
theorem kA:∀(t:Nd) (a b:Nat) (g:Gr),WF g->a<g.ks.length->b<g.ks.length->Tot g->Tot (fW t a b g)
 |.mk k c l,a,b,g,h,ha,hb,hM=>by
  unfold fW
  split
  ·exact xf l a b g h ha hb hM
  split
  ·exact xg l a b g h ha hb hM
  split
  ·have hl:=ey g a b
   have hwf:=fF h ha hb
   obtain⟨h1,h2⟩:=nD l g.ks.length (g.ks.length+1) (bV g a b) hwf zo zo
   have:=h2.len
   have hk2:g.knot.knot.ks.length=g.ks.length+2:=by rw[aL,aL]
   have h3:=CM l g.ks.length (g.ks.length+1) (bV g a b) hwf zo zo ((hM.knot.knot.free zo).free (by rw[bd];omega))
   exact h3.layO (by show _<(pN l g.ks.length (g.ks.length+1) (bV g a b)).ks.length;omega)
  split
  ·exact hM.free ha
  exact hM.leaf ha
theorem xf:∀(l:List Nd) (a b:Nat) (g:Gr),WF g->a<g.ks.length->b<g.ks.length->Tot g->Tot (oE l a b g)
 |[],_,_,g,_,_,_,hM=>hM
 |t::r,a,b,g,h,ha,hb,hM=>by
  unfold oE
  split
  ·exact kA t a b g h ha hb hM
  have hl:=aL g
  obtain⟨h1,h2⟩:=cL t a g.ks.length g.knot h.knot zo zo
  have:=h2.len
  exact xf r _ _ _ h1 zo zo (kA t _ _ _ h.knot zo zo hM.knot)
theorem xg:∀(l:List Nd) (a b:Nat) (g:Gr),WF g->a<g.ks.length->b<g.ks.length->Tot g->Tot (oF l a b g)
 |[],_,_,g,_,_,_,hM=>hM
 |t::r,a,b,g,h,ha,hb,hM=>by
  unfold oF
  obtain⟨h1,h2⟩:=cL t a b g h ha hb
  have:=h2.len
  exact xg r _ _ _ h1 zo zo (kA t a b g h ha hb hM)
theorem CM:∀(l:List Nd) (a b:Nat) (g:Gr),WF g->a<g.ks.length->b<g.ks.length->Tot g->Tot (pN l a b g)
 |[],_,_,g,_,_,_,hM=>hM
 |t::_,a,b,g,h,ha,hb,hM=>by
  unfold pN
  exact kA t a b g h ha hb hM
end
theorem Cs{g:Gr}(h:WF g)(h0:0<g.ks.length)(x:Nd)(i:Nat)(ht:Tot g):Tot (sN x i g):=by
 have e1:=aL g;have e2:=dr g.knot g.ks.length (i+1);have e3:=aL (g.knot.mark g.ks.length (i+1));have hl:=fq g i;exact kA x _ _ _ (gI h h0 i).1 zo zo (((ht.knot.mark zo).knot).free zo)
theorem tS:∀(xs:List Nd) (i:Nat) (g:Gr),WF g->0<g.ks.length->Tot g->Tot (dE xs i g)
 |[],_,_,_,_,ht=>ht
 |x::r,i,g,h,h0,ht=>by
  obtain⟨h1,h2,h3⟩:=qH h h0 x i;exact tS r (i+1) _ h1 zo (Cs h h0 x i ht)
theorem qt(f:Kt->Nat)(l:List Kt):(l.map f).sum=((JJ l.length).map fun i=>f (nth l i)).sum:=by
 congr 1;apply List.ext_getElem
 ·simp
 intro i h1 h2;simp only[Ka,Kp];rw[aB (by simpa using h1)]
theorem zG(f:Nat->Nat)(n:Nat):∀(l:List Nat),l.Nodup->(l.map f).sum<=((l.filter fun x=>x != n).map f).sum+f n
 |[],_=>by simp
 |a::l,h=>by
  have h':=MH.1 h
  by_cases e:a=n
  ·subst e;have hf:(l.filter fun x=>x != a)=l:=KR.2 fun x hx=>by
    simp only[bne_iff_ne,ne_eq];intro e;exact h'.1 (by rw[<-e];exact hx)
   rw[Lv (by simp),hf];simp;omega
  have:=zG f n l h'.2;rw[List.filter_cons_of_pos (by simpa using e)];simp only[Jt,Lr];omega
theorem sj(f:Nat->Nat):∀(n:Nat) (l:List Nat),l.Nodup->(∀x∈l,x<n)->(l.map f).sum<=((JJ n).map f).sum
 |0,l,_,h=>by
  have:l=[]:=by cases l with
   |nil=>rfl
   |cons a r=>exact absurd (h a (by simp)) (Jq _)
  subst this;simp
 |n+1,l,hn,h=>by
  have h1:=zG f n l hn;have h2:=sj f n (l.filter fun x=>x != n) (hn.filter _) fun x hx=>by
   have hx:=L8.1 hx;have:=h x hx.1;have:x≠n:=by simpa using hx.2
   omega
  rw[List.range_succ,Kf,List.sum_append];simp only[Jt,Kk,Lr,List.sum_nil];omega
theorem uF{g:Gr}(hw:WF g){k:Nat}(hk:k<g.ks.length):(eT g k).Nodup/\∀x∈eT g k,x<g.ks.length:=by
 have a0:∀(n i:Nat) (l:List Nat),Rc g k i l->(gO g n i l).Nodup/\∀x∈gO g n i l,x<g.ks.length:=fun n=>by
  induction n with
  |zero=>exact fun i l h=>⟨h.nd,h.lt⟩
  |succ n ih=>
   intro i l h;unfold gO
   split
   ·rename_i hi;exact ih _ _ (h.step hw hi)
   exact⟨h.nd,h.lt⟩
 exact a0 _ _ _ (rK hk)
theorem tt(f:Nat->List Nat):∀(l:List Nat),(l.flatMap f).length=(l.map fun k=>(f k).length).sum
 |[]=>rfl
 |a::l=>by simp
theorem vZ{g:Gr}(hw:WF g)(ht:Tot g){p:Nat}(hp:g.pl p<g.ks.length):(cK g p).length<=g.ls.length:=by
 obtain⟨h1,h2⟩:=uF hw hp;unfold cK;rw[tt];have:=sj (fun k=>(g.lv k).length) g.ks.length _ h1 h2;have e:((JJ g.ks.length).map fun k=>(g.lv k).length).sum=uq g:=(qt (fun k=>k.2.1.length) g.ks).symm;rw[e,ht]at this;exact this
def Gl(se:Bool)(g:Gr)(s:List Int)(m:Int):List Int:=
 (if se=true then [0]else [])++s.flatMap fun p=>((cK g p.toNat).filter fun j=>dc (nth g.ls (j-1)).1 (nth g.ls (j-1)).2.1 m).map fun(j:Nat)=>(j:Int)
def cS(se:Bool)(g:Gr)(s:List Int)(m:Int):List Int:=qf (Gl se g s m)
theorem sk(se:Bool)(g:Gr):Stp g se (cS se g):=⟨fun s m x=>by
 unfold cS Gl;rw[tO,JN,Mw]
 constructor
 ·rintro(h|⟨p,hp,h⟩)
  ·cases se with
   |true=>rw[if_pos rfl]at h;exact .inl ⟨rfl,J5.1 h⟩
   |false=>rw[if_neg zd]at h;simp at h
  obtain⟨j,hj,rfl⟩:=JT.1 h;obtain⟨h1,h2⟩:=L8.1 hj;exact .inr ⟨p,hp,j,h1,rfl,h2⟩
 rintro(⟨h,rfl⟩|⟨p,hp,j,h1,rfl,h2⟩)
 ·rw[if_pos h];exact .inl (by simp)
 exact .inr ⟨p,hp,JT.2 ⟨j,L8.2 ⟨h1,h2⟩,rfl⟩⟩⟩
theorem Cg{se:Bool}{g:Gr}(hw:WF g)(h0:0<g.ks.length){s:List Int}(hs:inP g s)(m:Int):(cS se g s m).length<=g.ls.length+1:=
 Cj (xB _) fun x hx=>by have:=zI hw h0 (sk se g) hs m x hx;exact⟨this.1,zo⟩
theorem D8{se:Bool}{g:Gr}(hw:WF g)(h0:0<g.ks.length)(ht:Tot g){m:Int}:∀ {s:List Int},inP g s->(Gl se g s m).length<=1+s.length*g.ls.length:=fun {s} hs=>by
 have a0:∀(s:List Int),inP g s->(s.flatMap fun p=>((cK g p.toNat).filter fun j=>dc (nth g.ls (j-1)).1 (nth g.ls (j-1)).2.1 m).map fun(j:Nat)=>(j:Int)).length<=s.length*g.ls.length:=fun s=>by
  induction s with
  |nil=>intro _;simp
  |cons p s ih=>
   intro h;have h1:=ih fun x hx=>h x (by simp[hx])
   have h2:=vZ hw ht (uI hw h0 (h p (by simp)).2);have h3:=LH (fun j=>dc (nth g.ls (j-1)).1 (nth g.ls (j-1)).2.1 m) (cK g p.toNat);simp only[Kw,Jw,KG,Jj,M8,Ng];omega
 have:=a0 s hs;unfold Gl;rw[Jw]
 split
 ·rw[JO];omega
 rw[Kg];omega
def B4(S:List (List Int))(s:List Int):Option Nat:=S.findIdx? (· == s)
def B2(S:List (List Int))(s:List Int):Nat:=(B4 S s).getD S.length
def qJ(S:List (List Int))(s:List Int):List (List Int):=if(B4 S s).isSome=true then S else S++[s]
theorem AV{S:List (List Int)}{s:List Int}{k:Nat}(h:B4 S s=some k):k<S.length/\nth S k=s:=by
 obtain⟨h1,h2,_⟩:=Jm.1 h;exact⟨h1,by rw[aB h1];simpa using h2⟩
theorem vX(S:List (List Int))(s:List Int):∃r,qJ S s=S++r:=by
 unfold qJ
 split
 ·exact⟨[],by simp⟩
 exact⟨_,rfl⟩
theorem Ff(S:List (List Int))(s:List Int):B2 S s<(qJ S s).length/\nth (qJ S s) (B2 S s)=s:=by
 unfold B2 qJ
 cases h:B4 S s with
 |some k=>exact AV h
 |none=>
  simp only[Option.getD_none,Option.isSome_none,Mk,if_false];exact⟨by simp,by rw[aA,if_neg zo,N5,ay]⟩
theorem Cv(S:List (List Int))(s:List Int):S.length<=(qJ S s).length/\(qJ S s).length<=S.length+1:=by
 unfold qJ
 split
 ·omega
 simp
theorem Cu{S:List (List Int)}{s:List Int}{k:Nat}(h:k<S.length):nth (qJ S s) k=nth S k:=by
 obtain⟨r,hr⟩:=vX S s;rw[hr,aA,if_pos h]
def dm(step:List Int->Int->List Int)(s:List Int)(S:List (List Int)):Nat->List (List Int)×List Nat
 |0=>(S,[])
 |m+1=>(qJ (dm step s S m).1 (step s (m:Nat)),(dm step s S m).2++[B2 (dm step s S m).1 (step s (m:Nat))])
structure RowI(step:List Int->Int->List Int)(s:List Int)(S S':List (List Int))(r:List Nat)(m:Nat):Prop where
 pre:∃q,S'=S++q
 top:S'.length<=S.length+m
 len:r.length=m
 lt:∀j,j<m->nth r j<S'.length/\nth S' (nth r j)=step s (j:Nat)
 mem:∀x∈S',x∈S\/∃j:Nat,j<m/\x=step s (j:Nat)
theorem ke(step:List Int->Int->List Int)(s:List Int)(S:List (List Int)):∀m,RowI step s S (dm step s S m).1 (dm step s S m).2 m
 |0=>⟨⟨[],by simp[dm]⟩,by simp[dm],rfl,fun j hj=>absurd hj (Jq j),fun x hx=>.inl hx⟩
 |m+1=>by
  have ih:=ke step s S m;unfold dm;generalize dm step s S m=R at *;obtain⟨S1,r⟩:=R;dsimp only at ih ⊢;obtain⟨q,hq⟩:=ih.pre;obtain⟨q2,a4⟩:=vX S1 (step s (m:Nat));have a5:=Ff S1 (step s (m:Nat));have hl:=Cv S1 (step s (m:Nat));have a0:=ih.top;have a3:=ih.len;refine⟨⟨q++q2,by rw[a4,hq,Kx]⟩,zo,by simp[a3],fun j hj=>?_,fun x hx=>?_⟩
  ·rw[aA]
   by_cases e:j<r.length
   ·rw[if_pos e];obtain⟨a1,a2⟩:=ih.lt j zo;exact⟨zo,by rw[Cu a1];exact a2⟩
   rw[if_neg e,show j-r.length=0 from by omega,ay];obtain rfl:j=m:=zo;exact a5
  unfold qJ at hx
  split at hx
  ·rcases ih.mem x hx with h|⟨j,hj,e⟩
   ·exact .inl h
   exact .inr ⟨j,zo,e⟩
  rcases JN.1 hx with hx|hx
  ·rcases ih.mem x hx with h|⟨j,hj,e⟩
   ·exact .inl h
   exact .inr ⟨j,zo,e⟩
  exact .inr ⟨m,zo,J5.1 hx⟩
def FD(step:List Int->Int->List Int)(tells:List Int->Nat):Nat->Nat->List (List Int)->List (List Nat)->List Nat->Option (List (List Nat)×List Nat)
 |0,_,_,_,_=>none
 |n+1,i,S,rows,tls=>
  if i<S.length then
   if 1000<(dm step (nth S i) S 37).1.length then none
   else FD step tells n (i+1) (dm step (nth S i) S 37).1 (rows++[(dm step (nth S i) S 37).2]) (tls++[tells (nth S i)])
  else some (rows,tls)
def Dv(step:List Int->Int->List Int)(a0:List Int->Nat):Option (List (List Nat)×List Nat):=FD step a0 1002 0 [[0]] [] []
structure DI(step:List Int->Int->List Int)(tells:List Int->Nat)(i:Nat)(S:List (List Int))(rows:List (List Nat))(tls:List Nat):Prop where
 le:i<=S.length
 rl:rows.length=i
 tl:tls.length=i
 p0:0<S.length
 fst:nth S 0=[0]
 len:S.length<=1000
 row:∀j,j<i->(nth rows j).length=37/\∀m:Nat,m<37->nth (nth rows j) m<S.length/\nth S (nth (nth rows j) m)=step (nth S j) (m:Nat)
 tel:∀j,j<i->nth tls j=tells (nth S j)
theorem xN(step:List Int->Int->List Int)(a0:List Int->Nat):DI step a0 0 [[0]] [] []:=⟨zd,rfl,rfl,zd,ay _ _,zd,fun j hj=>absurd hj (Jq j),fun j hj=>absurd hj (Jq j)⟩
theorem DI.next{step:List Int->Int->List Int}{a3:List Int->Nat}{i:Nat}{S:List (List Int)}{rows:List (List Nat)}{a4:List Nat}(h:DI step a3 i S rows a4)(hi:i<S.length)(hl:(dm step (nth S i) S 37).1.length<=1000):
  DI step a3 (i+1) (dm step (nth S i) S 37).1 (rows++[(dm step (nth S i) S 37).2]) (a4++[a3 (nth S i)]):=by
 have hr:=ke step (nth S i) S 37;generalize dm step (nth S i) S 37=R at *;obtain⟨S1,r⟩:=R;dsimp only at hr hl ⊢;obtain⟨q,hq⟩:=hr.pre;have a0:∀k,k<S.length->nth S1 k=nth S k:=fun k hk=>by rw[hq,aA,if_pos hk]
 have a5:S.length<=S1.length:=by rw[hq];simp
 have h1:=h.rl;have h2:=h.tl;have h3:=h.p0;refine⟨zo,by simp[h1],by simp[h2],zo,by rw[a0 0 h3];exact h.fst,hl,fun j hj=>?_,fun j hj=>?_⟩
 ·rw[aA]
  by_cases e:j<rows.length
  ·rw[if_pos e];obtain⟨a1,a2⟩:=h.row j zo;refine⟨a1,fun m hm=>?_⟩;obtain⟨b1,b2⟩:=a2 m hm;exact⟨zo,by rw[a0 _ b1,a0 j zo];exact b2⟩
  rw[if_neg e,show j-rows.length=0 from by omega,ay];obtain rfl:j=i:=zo;refine⟨hr.len,fun m hm=>?_⟩;obtain⟨b1,b2⟩:=hr.lt m hm;exact⟨b1,by rw[a0 j hi];exact b2⟩
 rw[aA]
 by_cases e:j<a4.length
 ·rw[if_pos e,a0 j zo];exact h.tel j zo
 rw[if_neg e,show j-a4.length=0 from by omega,ay];obtain rfl:j=i:=zo;rw[a0 j hi]
theorem tL{step:List Int->Int->List Int}{a0:List Int->Nat}:∀(n i:Nat) (S:List (List Int)) (rows:List (List Nat)) (a1:List Nat) (d:List (List Nat)×List Nat),DI step a0 i S rows a1->FD step a0 n i S rows a1=some d->∃S',DI step a0 S'.length S' d.1 d.2
 |0,_,_,_,_,_,_,h=>by cases h
 |n+1,i,S,rows,a1,d,hd,h=>by
  unfold FD at h
  split at h
  ·rename_i hi
   split at h
   ·cases h
   exact tL n _ _ _ _ d (hd.next hi zo) h
  rename_i hi
  cases h
  have:=hd.le;obtain rfl:i=S.length:=zo;exact⟨S,hd⟩
theorem tK{step:List Int->Int->List Int}{a0:List Int->Nat}{d:List (List Nat)×List Nat}(h:Dv step a0=some d):∃S,DI step a0 S.length S d.1 d.2:=tL _ _ _ _ _ d (xN _ _) h
def uh(s:List Int):List UInt8:=s.flatMap fun p=>[JF (p.toNat / 256),JF (p.toNat % 256)]
def okS(s:List Int):Prop:=∀x∈s,0<=x/\x.toNat<=999
theorem xi:∀ {s t:List Int},okS s->okS t->uh s=uh t->s=t
 |[],[],_,_,_=>rfl
 |[],b::t,_,_,h=>by simp[uh]at h
 |a::s,[],_,_,h=>by simp[uh]at h
 |a::s,b::t,hs,ht,h=>by
  have h1:=hs a (by simp);have h2:=ht b (by simp);unfold uh at h;simp only[Kw,L4,MI,JU]at h;obtain⟨e1,e2,e3⟩:=h;have e1:=congrArg N0 e1;have e2:=congrArg N0 e2;simp only[UInt8.toNat_ofNat']at e1 e2;have:a=b:=zo;subst this;rw[xi (fun x hx=>hs x (by simp[hx])) (fun x hx=>ht x (by simp[hx])) e3]
end Go.Proofs.YtjemhjcngaokpaaGreatDoor
namespace Go.VL
section
open Go.ChangeMaps (setBlock)
section
variable{κ ν:Type}[DecidableEq κ]{kv:κ→ka}{vv:ν→ka}
def pc:List (κ×ν)->κ->List (κ×ν)
 |[],_=>[]
 |(a,y)::r,k=>if a=k then r else(a,y)::pc r k
theorem iV:∀(l:List (κ×ν)) (k:κ),pc l k=match iU l k with
  |some i=>l.eraseIdx i
  |none=>l
 |[],k=>rfl
 |(a,y)::r,k=>by
  simp only[pc,iU]
  by_cases h:a=k
  ·simp[h]
  simp only[if_neg h];rw[iV r k]
  cases iU r k<;>simp
theorem map_eraseIdx{α β:Type}(f:α->β)(l:List α)(j:Nat):(l.eraseIdx j).map f=(l.map f).eraseIdx j:=by
 simp[K7,Ls,MT]
theorem eS{O:Nat->Nat}{w:ix}{i r:Nat}(o:Obj)(ht:O r=i)(a0:i≠0):Ju (fun j=>j=i) O w O (setBlock w r o):=by
 refine⟨rfl,rfl,rfl,by simp[setBlock],fun b _ hn=>?_,fun _ _=>rfl,fun _ h=>.inl h,fun h=>a0 h.symm⟩;simp only[setBlock,L6]
 rw[if_neg (fun e=>hn (by rw[<-e];exact ht))]
theorem eC{w:ix}{r:Nat}{o o':Obj}(h:w.heap[r]? = some o):(setBlock w r o').heap[r]? = some o':=by
 have:=bq h;simp[setBlock,this]
theorem oI{P:JH}{T K E ty U:J7}(hT:P.underlying T=some (.map K E))(hK:NU P K kv){O:Nat->Nat}{w:ix}{i r:Nat}{l:List (κ×ν)}(h:Ll kv vv O w i r l)(a8:i≠0)(k:κ):
  ∃w',(KY #[T,U] ty #[.map (some r),kv k]).run P w=.ok (.tuple #[]) w'/\Ll kv vv O w' i r (pc l k)/\Ju (fun j=>j=i) O w O w':=by
 obtain⟨es,c,h1,h2⟩:=h.blk;have a3:=h.born es c h1;have a6:es.toList.map (·.key)=(l.map (·.1)).map kv:=by
  have:=congrArg (Ns Nr) h2;simpa[LL]using this
 have hf:=hK.find k es.toList (l.map (·.1)) w a6;rw[ec]at hf;have hc:=hK.check es.isEmpty 9997 k w;have hr:=bq h1;have a5:∀(a1:Array JC) (c':Nat),((a1.toList.map (·.born)).Nodup/\∀e∈a1.toList,e.born<c')->a1.toList.map (fun e=>(e.key,e.val))=(pc l k).map (fun p=>(kv p.1,vv p.2))->
   Ll kv vv O (setBlock w r (.map a1 c')) i r (pc l k)/\Ju (fun j=>j=i) O w O (setBlock w r (.map a1 c')):=fun a1 c' hb he=>
  ⟨⟨⟨a1,c',eC h1,he⟩,h.tag,fun a9 c2 h2=>by rw[eC h1]at h2;cases h2;exact hb⟩,eS _ h.tag a8⟩
 have a2:(KY #[T,U] ty #[.map (some r),kv k]).run P w=((match ((iU l k).bind fun i=>(es.toList[i]?).map fun e=>(i,e.val))with
   |some (i,_)=>do setObj r (.map (es.eraseIdxIfInBounds i) c);pure (.tuple #[])
   |none=>do setObj r (.map es c);pure (.tuple #[]):Sem ka)).run P w:=by
  simp only[KY,List.getElem?_toArray,List.getElem?_cons_zero,List.getElem?_cons_succ,J2,run_underlying hT,ln];simp only[getObj,Kl,h1,J2,ln,hc,hf];generalize ((iU l k).bind fun i=>LY (fun e=>(i,e.val)) es.toList[i]?)=q
  cases q with
  |none=>rfl
  |some p=>rfl
 rw[a2,iV];have a0:∀a1,(do setObj r (.map a1 c);pure (.tuple #[]):Sem ka).run P w=.ok (.tuple #[]) (setBlock w r (.map a1 c)):=fun a1=>by
  simp[setObj,Kl,h1,setBlock]
 cases hi:iU l k with
 |none=>
  refine⟨_,by simp only[Mh];exact a0 es,?_⟩;have:=a5 es c a3 (by rw[iV,hi];exact h2);rw[iV,hi]at this;exact this
 |some j=>
  obtain⟨y,hy⟩:=iq hi;have a4:j<es.toList.length:=by
   have hl:=congrArg N6 h2;simp only[KG]at hl;have:=(JX.1 hy).1;omega
  refine⟨_,by simp only[Mg,Ji a4,L1];exact a0 _,?_⟩
  have a7:j<es.size:=by simpa using a4
  have e1:(es.eraseIdxIfInBounds j).toList=es.toList.eraseIdx j:=by
   simp[Array.eraseIdxIfInBounds,a7]
  have:=a5 (es.eraseIdxIfInBounds j) c ⟨by
    rw[e1,K7,Kf,Ls,MT];have hs:(Mv j (es.toList.map (·.born))++List.drop (j+1) (es.toList.map (·.born))).Sublist (es.toList.map (·.born)):=by
     rw[<-K7];exact LJ _ _
    exact hs.nodup a3.1,fun e he=>a3.2 e (by rw[e1]at he;exact(LJ _ _).mem he)⟩ (by
   rw[iV,hi,e1];have h3:=congrArg (fun l=>l.eraseIdx j) h2
   rw[map_eraseIdx,map_eraseIdx];exact h3)
  rw[iV,hi]at this;exact this
structure RangeO(kv:κ->ka)(vv:ν->ka)(O:Nat->Nat)(w:ix)(i j r q:Nat)(left:List (κ×ν))(cur:Option (κ×ν)):Prop where
 ex:∃es clock seen c0,w.heap[r]? = some (.map es clock)/\w.heap[q]? = some (.mapIter (some r) clock seen c0)/\clock<=c0/\(es.toList.map (·.born)).Nodup/\(∀e∈es.toList,e.born<clock)/\
  (leftOf es seen).toList.map (fun e=>(e.key,e.val))=left.map (fun p=>(kv p.1,vv p.2))/\∀p,cur=some p->∃(e:JC) (s0:Array Nat),e∈es.toList/\seen=s0.push e.born/\c0=clock/\e.key=kv p.1/\e.val=vv p.2
 tag:O r=i
 tagq:O q=j
end
section
variable{κ ν:Type}{kv:κ→ka}{vv:ν→ka}
theorem RangeO.upd{S:Nat->Prop}{O O':Nat->Nat}{w w':ix}{i j r q:Nat}{a0:List (κ×ν)}{a2:Option (κ×ν)}(h:RangeO kv vv O w i j r q a0 a2)(u:Ju S O w O' w')(hi:i≠0)(hj:j≠0)(hS:¬S i)(a3:¬S j):RangeO kv vv O' w' i j r q a0 a2:=by
 obtain⟨es,c,a1,c0,h1,h2,h3⟩:=h.ex;have e1:=u.blk r (bq h1) (by rw[h.tag];exact hS);have e2:=u.blk q (bq h2) (by rw[h.tagq];exact a3);exact⟨⟨es,c,a1,c0,by rw[e1];exact h1,by rw[e2];exact h2,h3⟩,by rw[u.tag r (by rw[h.tag];exact hi),h.tag],by rw[u.tag q (by rw[h.tagq];exact hj),h.tagq]⟩
end
section
variable{κ ν:Type}[DecidableEq κ]{kv:κ→ka}{vv:ν→ka}
theorem vj{es:List JC}{e:JC}{a1 a0:List JC}(hn:(es.map (·.born)).Nodup)(p:JC->Bool)(h:es.filter p=a1++e::a0):es.filter (fun x=>p x && !(x.born==e.born))=a1++a0:=by
 have h1:es.filter (fun x=>p x && !(x.born==e.born))=(es.filter p).filter (fun x=>!(x.born==e.born)):=by
  rw[List.filter_filter];congr 1;funext x;exact Bool.and_comm _ _
 have a2:((a1++e::a0).map (·.born)).Nodup:=by rw[<-h];exact((List.filter_sublist (p:=p) (l:=es)).map _).nodup hn
 rw[h1,h,List.filter_append,Lv (by simp)];simp only[Kf,Jt]at a2;have hd:=KU.1 a2;congr 1
 ·refine KR.2 fun x hx=>?_
  have:=hd.2.2 x.born (JT.2 ⟨x,hx,rfl⟩) e.born (by simp);simpa using this
 refine KR.2 fun x hx=>?_
 have:=(MH.1 hd.2.1).1;simp only[Bool.not_eq_true',beq_eq_false_iff_ne,ne_eq];intro hc;exact this (by rw[<-hc];exact JT.2 ⟨x,hx,rfl⟩)
theorem AB{α β γ:Type}{f:α->γ}{g:β->γ}:∀ {l:List α} {m:List β} {a0 a1:List α} {e:α},l.map f=m.map g->l=a0++e::a1->∃pre' x suf',m=pre'++x::suf'/\f e=g x/\(a0++a1).map f=(pre'++suf').map g:=by
 intro l m a0
 induction a0 generalizing l m with
 |nil=>
  intro a1 e h hl;subst hl
  cases m with
  |nil=>simp at h
  |cons x m=>
   simp only[MI,Jt,JU]at h;exact⟨[],x,m,rfl,h.1,h.2⟩
 |cons a a0 ih=>
  intro a1 e h hl;subst hl
  cases m with
  |nil=>simp at h
  |cons x m=>
   simp only[L4,Jt,JU]at h;obtain⟨p,y,s,rfl,h1,h2⟩:=ih h.2 rfl;exact⟨x::p,y,s,rfl,h1,by simp only[L4,Jt,h.1,h2]⟩
end
section
variable{κ ν:Type}[DecidableEq κ]{kv:κ→ka}{vv:ν→ka}
variable{P:JH}{N:Nat}{ops:Array KF}{Q:LN→N8→ix→Prop}{rest:List KF}{st:St}{w:ix}
variable{t:J7}{p:String}{e:Array Ma}{d:Nat}{x y z:Kj}
theorem WL.delete{T K E U:J7}{O:Nat->Nat}{i r:Nat}{l:List (κ×ν)}(hm:Ll kv vv O w i r l)(hT:P.underlying T=some (.map K E))(hK:NU P K kv)(a1:i≠0) 
  (k:κ) {kx:ka} (hx:ev st x=some (.map (some r))) (hy:ev st y=some kx) (hk:kx=kv k)
  (h:∀w',Ll kv vv O w' i r (pc l k)->Ju (fun j=>j=i) O w O w'->WL P N ops Q rest st w'):WL P N ops Q (⟨none,.call ⟨.builtin .delete,#[x,y],#[T,U]⟩,t,p,e,none⟩::rest) st w:=by
 subst hk;obtain⟨w',h1,h2,h3⟩:=oI (ty:=t) (U:=U) hT hK hm a1 k;refine NR rfl fun a ha=>?_
 unfold ND;have a0:(execOp a.eval ⟨none,.call ⟨.builtin .delete,#[x,y],#[T,U]⟩,t,p,e,none⟩).run P w=.ok (.value (.tuple #[])) w':=by
  simp only[execOp,resolve,invoke,builtin,J2,Jr,ln,KB,Jt,Kk,ha.ev hx,ha.ev hy,h1]
 rw[a0];exact h w' h2 h3 _ ha
end
section
variable{κ ν:Type}{kv:κ→ka}{vv:ν→ka}
variable{P:JH}{N:Nat}{ops:Array KF}{Q:LN→N8→ix→Prop}{rest:List KF}{st:St}{w:ix}
variable{t:J7}{p:String}{e:Array Ma}{d:Nat}{x y z:Kj}
theorem oj{T K E:J7}{B:Nat}{O:Nat->Nat}{i r:Nat}{l:List (κ×ν)}(hm:Ll kv vv O w i r l)(hT:P.underlying T=some (.map K E))(hR:KV B O w)(j:Nat)(hj:j≠0)(_:i≠0)(hx:ev st x=some (.map (some r)))(hd:Kd d N=true) 
  (h:∀q w' O',RangeO kv vv O' w' i j r q l none->Ll kv vv O' w' i r l->Ju (fun k=>k=j) O w O' w'->KV B O' w'->WL P N ops Q rest ((d,nP q)::st) w'):WL P N ops Q (⟨some d,.range T x,t,p,e,none⟩::rest) st w:=by
 obtain⟨es,c,h1,h2⟩:=hm.blk;have a1:=hm.born es c h1;have a0:=bq h1;have hU:=MG (S:=fun k=>k=j) (fun e=>hj e.symm) hR (.mapIter (some r) c #[] c) j;refine KQ hd (fun a ha=>by simp only[execOp,ha.ev hx,J2,run_range_map w _ _ _ _ _ _ hT h1,ln,Jr]) (h w.heap.size _ (lB O w.heap.size j) ⟨⟨es,c,#[],c,?_,heap_alloc_new w _,J4 _,a1.1,a1.2,?_,fun p hp=>by cases hp⟩,?_,ed _ _ _⟩ ⟨⟨es,c,?_,h2⟩,?_,fun a2 c' h'=>hm.born a2 c' (by rw[heap_alloc_old w _ a0]at h';exact h')⟩ hU (hR.upd hU))
 ·rw[heap_alloc_old w _ a0];exact h1
 ·unfold leftOf;have e1:es.filter (fun e=>!(#[]:Array Nat).contains e.born)=es:=Array.filter_eq_self.2 (by simp);rw[e1];exact h2
 ·unfold lB;rw[if_neg zo];exact hm.tag
 ·rw[heap_alloc_old w _ a0];exact h1
 unfold lB;rw[if_neg zo];exact hm.tag
theorem qk{O:Nat->Nat}{i j r q:Nat}{a2:List (κ×ν)}{b5:Option (κ×ν)}(hm:RangeO kv vv O w i j r q a2 b5)(b3:j≠0)(b4:i≠j)(hx:ev st x=some (nP q))(hd:Kd d N=true) 
  (h0:a2=[]->WL P N ops Q rest ((d,.tuple #[.bool false])::st) w)
  (h1:∀b0 a b a9 w',a2=b0++(a,b)::a9->RangeO kv vv O w' i j r q (b0++a9) (some (a,b))->Ju (fun k=>k=j) O w O w'->WL P N ops Q rest ((d,.tuple #[.bool true,kv a,vv b])::st) w'):WL P N ops Q (⟨some d,.next x false,t,p,e,none⟩::rest) st w:=by
 obtain⟨es,c,a0,c0,g1,g2,g3,g4,g5,g6,g7⟩:=hm.ex
 rcases Go.run_next_at (P:=P) w t q r c c0 a0 es c g2 g1 g5 g3 with⟨hs,a3⟩|⟨en,b1,w1,a6,a3⟩
 ·refine KQ hd (fun a ha=>by simp only[execOp,ha.ev hx,J2,a3,ln,Jr]) (h0 ?_);have h3:=congrArg N6 g6;simp only[KG,M4,hs]at h3;exact Jk h3.symm
 obtain⟨b0,a9,a7⟩:=List.append_of_mem b1;obtain⟨a',⟨a,b⟩,a8,rfl,a5,a4⟩:=AB g6 a7;simp only[NS]at a5;have a1:∀(a:N8),NV N a st->(execOp a.eval ⟨some d,.next x false,t,p,e,none⟩).run P w=.ok (.value (.tuple #[.bool true,en.key,en.val])) (setBlock w1 q (.mapIter (some r) c (a0.push en.born) c)):=fun a ha=>by
  simp only[execOp,ha.ev hx,J2,a3,ln,Jr]
 rw[a5.1,a5.2]at a1;have hw:w1.heap=w.heap:=by rcases a6 with rfl|rfl<;>rfl
 have b2:en∈es.toList:=by
  have:en∈(leftOf es a0):=by simpa using b1
  unfold leftOf at this;rw[Array.mem_filter]at this;simpa using this.1
 refine KQ hd a1 (h1 a' a b a8 _ rfl ⟨⟨es,c,a0.push en.born,c,?_,eC (by rw[hw];exact g2),J4 _,g4,g5,?_,fun p hp=>?_⟩,hm.tag,hm.tagq⟩ ?_)
 ·simp only[setBlock,L6];rw[if_neg (fun e=>b4 (by rw[<-hm.tag,<-hm.tagq,e])),hw];exact g1
 ·rw[<-a4];unfold leftOf at a7 ⊢;rw[Array.toList_filter]at a7 ⊢;rw[<-vj g4 _ a7];congr 2;funext x;simp;rfl
 ·cases hp
  exact⟨en,a0,b2,rfl,rfl,a5.1,a5.2⟩
 have hU:=eS (w:=w1) (.mapIter (some r) c (a0.push en.born) c) hm.tagq b3;exact⟨by rw[hU.os];rcases a6 with rfl|rfl<;>rfl,by rw[hU.tape];rcases a6 with rfl|rfl<;>rfl,by rw[hU.output];rcases a6 with rfl|rfl<;>rfl,by have:=hU.size;rw[hw]at this;exact this,fun b hb hn=>by have:=hU.blk b (by rw[hw];exact hb) hn;rw[hw]at this;exact this,hU.tag,fun b hb=>.inl hb,hU.z⟩
theorem RV.entry{O:Nat->Nat}{i j r q:Nat}{a0:List (κ×ν)}{a:κ}{b:ν}(hm:RangeO kv vv O w i j r q a0 (some (a,b)))(hx:ev st x=some (nP q)):RV P N (.entry x) t st w (.tuple #[kv a,vv b]):=
 fun ac ha a2 p e g=>by
  obtain⟨es,c,a1,c0,g1,g2,g3,g4,g5,g6,g7⟩:=hm.ex;obtain⟨en,s0,e1,rfl,rfl,e2,e3⟩:=g7 _ rfl;simp only[execOp,ha.ev hx,J2,run_entry_at w q r c0 s0 es c0 en g2 g1 e1 g4,ln,Jr,e2,e3]
end
abbrev dX(p:Int×Int):ka:=.agg #[nI p.1,nI p.2]
theorem BW{P:JH}{K I:J7}(hK:P.underlying K=some (.array 2 I))(hI:P.underlying I=some (.int .i64))(a3:(P.info? I).isSome=true)(hc:P.cellsOf I=1):NU P K dX:=by
 obtain⟨i,hi⟩:=Option.isSome_iff_exists.1 a3;have hA:∀w,(isAgg I).run P w=.ok false w:=fun w=>by simp[isAgg,run_underlying hI]
 have a0:∀(a b:Int) (w:ix),(part I #[nI a,nI b] 0).run P w=.ok (nI a) w/\(part I #[nI a,nI b] 1).run P w=.ok (nI b) w:=fun a b w=>by
  constructor<;>simp[part,hA]
 have a5:∀b n k (w:ix),(Le b (n+1) I (nI k)).run P w=.ok () w:=fun b n k w=>by simp[Le,run_underlying hI]
 have a4:∀(a b:Int×Int) (w:ix),(NI K (dX a) (dX b)).run P w=.ok (decide (a=b)) w:=fun a b w=>by
  have h1:∀d (x y:Int) (w:ix),(Mu (d+1) I (nI x) (nI y)).run P w=.ok (x==y) w:=fun d x y w=>by simp[Mu,run_underlying hI]
  obtain⟨a1,a2⟩:=a;obtain⟨b1,b2⟩:=b;have h2:∀(x y:Int) (w:ix),(Mu 9999 I (nI x) (nI y)).run P w=.ok (x==y) w:=fun x y w=>h1 9998 x y w
  unfold NI Op.maxDepth;rw[run_equalIn_array w 9999 _ _ hK hi,hc];simp only[show JJ 2=[0,1]from rfl,Op.eqItems,J2,LB,Ng,(a0 a1 a2 w).1,(a0 b1 b2 w).1,h2,ln]
  by_cases e1:a1=b1
  ·by_cases e2:a2=b2
   ·subst e1;subst e2;simp[a0,h2]
   subst e1;simp[e2,a0,h2]
  simp[e1]
 refine⟨fun b n k w=>?_,fun k es ks w h=>?_,fun k=>?_⟩
 ·obtain⟨k1,k2⟩:=k;unfold Le;simp only[J2,run_underlying hK,ln];simp only[MP,MO,N4,Nat.add_one_sub_one,Nat.div_one];simp[List.range',run_sizeOf w hi,hc,a0,a5]
 ·have key:∀(es:List JC) (ks:List (Int×Int)) (j:Nat) (w:ix),es.map (·.key)=ks.map dX->
    (KX K (dX k) es j).run P w=.ok ((ks.findIdx? (· = k)).bind fun i=>(es[i]?).map fun e=>(j+i,e.val)) w:=by
   intro es
   induction es with
   |nil=>intro ks j w h;cases ks with
    |nil=>simp[KX]
    |cons a r=>simp at h
   |cons e es ih=>
    intro ks j w h
    cases ks with
    |nil=>simp at h
    |cons a r=>
     simp only[Jt,JU]at h;simp only[KX,J2,h.1,a4,ln]
     by_cases hk:k=a
     ·subst hk;simp[Mj]
     rw[decide_eq_false hk];simp only[Mk,if_false];rw[ih r (j+1) w h.2];simp only[Mj,decide_eq_true_eq];rw[if_neg (fun e=>hk e.symm)]
     cases hf:List.findIdx? (fun x=>decide (x=k)) r with
     |none=>simp
     |some i=>simp[Nat.add_assoc,LF 1]
  have:=key es ks 0 w h;simp only[LC]at this;unfold Instr.findKey;simp only[J2,run_underlying hK,ln]
  cases es with
  |nil=>
   cases ks with
   |nil=>simp[MS]
   |cons a r=>simp at h
  |cons e es=>simpa[MS,Instr.sameNow]using this
 simp[Instr.sameBits]
section
variable{κ ν:Type}[DecidableEq κ]{kv:κ→ka}{vv:ν→ka}
theorem sR(es:Array JC)(i:Nat)(f g h:JC->JC)(hf:∀x,g (f x)=h x):(es.modify i f).modify i g=es.modify i h:=by
 apply Mb;intro j;simp only[K8]
 by_cases hj:i=j
 ·simp only[if_pos hj];cases es[j]?<;>simp[hf]
 simp only[if_neg hj]
theorem uH(es:Array JC)(a:JC)(f:JC->JC):(es.push a).modify es.size f=es.push (f a):=by
 apply Mb;intro j;simp only[K8,Array.getElem?_push]
 by_cases hj:j=es.size
 ·subst hj;simp
 rw[if_neg (fun e=>hj e.symm),if_neg hj,if_neg hj]
theorem mj{es:List JC}{j:Nat}{e:JC}(hn:(es.map (·.born)).Nodup)(he:es[j]? = some e):es.findIdx? (fun x=>(x.born:Int)==(e.born:Int))=some j:=by
 obtain⟨hj,rfl⟩:=JX.1 he;rw[Jm];refine⟨hj,by simp,fun i hi=>?_⟩;have:=(Lm.1 hn) i j (by simp;omega) (by simpa using hj) hi;simp only[Ka]at this;simp;omega
theorem xW{P:JH}{T K E:J7}(hT:P.underlying T=some (.map K E))(hK:NU P K kv){O:Nat->Nat}{w:ix}{i r:Nat}{l:List (κ×ν)}(h:Ll kv vv O w i r l)(a7:i≠0){z:ka}(hz:(Mc E).run P w=.ok z w)(k:κ)(x:ν):
  ∃(w1 w':ix) (v:ka) (b:Int),(Ld T (.map (some r)) (kv k)).run P w=.ok (.tuple #[v,nI b]) w1/\(KA T (.map (some r)) (nI b) (vv x)).run P w1=.ok () w'/\Ll kv vv O w' i r (cE l k x)/\Ju (fun j=>j=i) O w O w'/\Ju (fun j=>j=i) O w O w1:=by
 obtain⟨es,c,h1,h2⟩:=h.blk;have a9:=h.born es c h1;have hr:=bq h1;have b4:es.toList.map (·.key)=(l.map (·.1)).map kv:=by
  have:=congrArg (Ns Nr) h2;simpa[LL]using this
 have hf:=hK.find k es.toList (l.map (·.1)) w b4;rw[ec]at hf;have hc:=hK.check false 9997 k w;obtain⟨wm,a3,hm,hu⟩:=dH hT hK h a7 k x
 have a1:(Mz T (.map (some r)) (kv k) (vv x)).run P w=((match ((iU l k).bind fun i=>(es.toList[i]?).map fun e=>(i,e.val))with
   |some (i,_)=>do
    let key <-Km (((es[i]?).map (·.key)).getD (kv k)) (kv k)
    setObj r (.map (es.modify i fun e=>{ e with key,val:=vv x }) c)
   |none=>setObj r (.map (es.push { key:=kv k,val:=vv x,born:=c }) (c+1)):Sem Unit)).run P w:=by
  simp only[Mz,J2,run_underlying hT,ln];simp only[getObj,Kl,h1,J2,ln,hc,hf];generalize ((iU l k).bind fun i=>LY (fun e=>(i,e.val)) es.toList[i]?)=q
  cases q with
  |none=>rfl
  |some p=>rfl
 have a0:(Ld T (.map (some r)) (kv k)).run P w=((match ((iU l k).bind fun i=>(es.toList[i]?).map fun e=>(i,e.val))with
   |some (i,v)=>do
    let key <-Km (((es[i]?).map (·.key)).getD (kv k)) (kv k)
    setObj r (.map (es.modify i fun e=>{ e with key }) c)
    pure (.tuple #[v,goInt (((es[i]?).map (·.born)).getD 0)])
   |none=>do
    let zero <-Mc E
    setObj r (.map (es.push { key:=kv k,val:=zero,born:=c }) (c+1))
    pure (.tuple #[zero,goInt c]):Sem ka)).run P w:=by
  simp only[Ld,J2,run_underlying hT,ln];simp only[getObj,Kl,h1,J2,ln,hc,hf];generalize ((iU l k).bind fun i=>LY (fun e=>(i,e.val)) es.toList[i]?)=q
  cases q with
  |none=>rfl
  |some p=>rfl
 have a2:∀(a':Array JC) (c':Nat) (w0:ix),(∃e0 k0,w0.heap[r]? = some (.map e0 k0))->(setObj r (.map a' c')).run P w0=.ok () (setBlock w0 r (.map a' c')):=fun a' c' w0 h0=>by
  obtain⟨e0,k0,hq⟩:=h0;simp[setObj,Kl,hq,setBlock]
 have a6:∃e0 k0,w.heap[r]? = some (.map e0 k0):=⟨es,c,h1⟩
 have b0:∀(a:Array JC) (q:JC->Bool),a.findIdx? q=a.toList.findIdx? q:=fun a q=>by cases a;simp
 have a4:∀o o',setBlock (setBlock w r o) r o'=setBlock w r o':=fun o o'=>by simp[setBlock]
 cases hi:iU l k with
 |none=>
  rw[hi]at a1 a0;simp only[Mh]at a1 a0;rw[a2 _ _ _ a6]at a1;simp only[J2,hz,ln,a2 _ _ _ a6,Jr]at a0;have he:wm=setBlock w r (.map (es.push { key:=kv k,val:=vv x,born:=c }) (c+1)):=by rw[a1]at a3;cases a3;rfl
  refine⟨_,wm,z,c,a0,?_,hm,hu,eS _ h.tag a7⟩;have a5:(setBlock w r (.map (es.push { key:=kv k,val:=z,born:=c }) (c+1))).heap[r]? = some (.map (es.push { key:=kv k,val:=z,born:=c }) (c+1)):=eC h1;have a8:(es.push { key:=kv k,val:=z,born:=c }).findIdx? (fun e=>(e.born:Int)==(c:Int))=some es.size:=by
   have b5:((es.push { key:=kv k,val:=z,born:=c }).toList.map (·.born)).Nodup:=by
    simp only[Array.toList_push,Kf,Jt,Kk];refine KU.2 ⟨a9.1,by simp,fun a ha b hb=>?_⟩;obtain⟨e,he,rfl⟩:=JT.1 ha;have:=a9.2 e he;simp at hb;omega
   have:=mj (j:=es.size) (e:={ key:=kv k,val:=z,born:=c }) b5 (by simp);rw[b0,<-this]
  simp only[KA,getObj,Kl,J2,a5,ln,asInt,asIntOf,Jr,a8];rw[uH,he];have:=a2 (es.push { key:=kv k,val:=vv x,born:=c }) (c+1) (setBlock w r (.map (es.push { key:=kv k,val:=z,born:=c }) (c+1))) ⟨_,_,a5⟩;rw[a4]at this;exact this
 |some j=>
  obtain⟨y,hy⟩:=iq hi;have hj:es.toList[j]?.map (fun e=>(e.key,e.val))=some (kv k,vv y):=by
   have:=congrArg (fun l=>l[j]?) h2;simpa[hy]using this
  cases he:es.toList[j]? with
  |none=>rw[he]at hj;simp at hj
  |some e'=>
   rw[he]at hj;simp at hj;have b1:es[j]? = some e':=by simpa using he
   have b2:(Km (kv k) (kv k))=pure (kv k):=by simp[Km,hK.same k]
   rw[hi]at a1 a0;simp only[Mg,he,L1,b1,hj.1,Option.getD_some,b2,J2,Jr,ln,a2 _ _ _ a6]at a1 a0;have hw:wm=setBlock w r (.map (es.modify j fun e=>{ e with key:=kv k,val:=vv x }) c):=by rw[a1]at a3;cases a3;rfl
   refine⟨_,wm,e'.val,e'.born,a0,?_,hm,hu,eS _ h.tag a7⟩;have a5:(setBlock w r (.map (es.modify j fun e=>{ e with key:=kv k }) c)).heap[r]? = some (.map (es.modify j fun e=>{ e with key:=kv k }) c):=eC h1;have b3:((es.modify j fun e=>{ e with key:=kv k }).toList.map (·.born))=es.toList.map (·.born):=by
    simp only[Array.toList_modify];apply List.ext_getElem?;intro m;simp only[List.getElem?_map,List.getElem?_modify]
    split
    ·cases es.toList[m]?<;>simp
    cases es.toList[m]?<;>simp
   have a8:(es.modify j fun e=>{ e with key:=kv k }).findIdx? (fun e=>(e.born:Int)==(e'.born:Int))=some j:=by
    have:=mj (es:=(es.modify j fun e=>{ e with key:=kv k }).toList) (j:=j) (e:={ e' with key:=kv k }) (by rw[b3];exact a9.1) (by
     have:(es.modify j fun e=>{ e with key:=kv k })[j]? = some { e' with key:=kv k }:=by
      rw[K8,if_pos rfl,b1];rfl
     rw[Array.getElem?_toList];exact this)
    rw[b0,<-this]
   simp only[KA,getObj,Kl,J2,a5,ln,asInt,asIntOf,Jr,a8];rw[sR es j _ _ (fun e=>{ e with key:=kv k,val:=vv x }) (fun _=>rfl),hw];have:=a2 (es.modify j fun e=>{ e with key:=kv k,val:=vv x }) c (setBlock w r (.map (es.modify j fun e=>{ e with key:=kv k }) c)) ⟨_,_,a5⟩;rw[a4]at this;exact this
variable{P:JH}{N:Nat}{ops:Array KF}{Q:LN→N8→ix→Prop}{rest:List KF}{st:St}{w:ix}
variable{t t' t2:J7}{p p' p2:String}{e e' e2:Array Ma}{d d':Nat}{x y z:Kj}
end
def I1{κ ν:Type}[DecidableEq κ](P:JH)(kv:κ->ka)(vv:ν->ka)(T:J7)(O:Nat->Nat)(w w1:ix)(i r:Nat)(l:List (κ×ν))(k:κ)(u:ν)(b:Int):Prop:=
 ∃w',(KA T (.map (some r)) (nI b) (vv u)).run P w1=.ok () w'/\Ll kv vv O w' i r (cE l k u)/\Ju (fun j=>j=i) O w O w'
section
variable{κ ν:Type}[DecidableEq κ]{kv:κ→ka}{vv:ν→ka}
variable{P:JH}{N:Nat}{ops:Array KF}{Q:LN→N8→ix→Prop}{rest:List KF}{st:St}{w:ix}
variable{t:J7}{p:String}{e:Array Ma}{d:Nat}{x y z:Kj}
theorem mu{T K E:J7}{O:Nat->Nat}{i r:Nat}{l:List (κ×ν)}(hm:Ll kv vv O w i r l)(hT:P.underlying T=some (.map K E))(hK:NU P K kv)(a0:i≠0){zv:ka}(hz:(Mc E).run P w=.ok zv w) 
  (k:κ) (u:ν) {kx:ka} (hx:ev st x=some (.map (some r))) (hy:ev st y=some kx) (hk:kx=kv k) (hd:Kd d N=true)
  (h:∀w1 c b,I1 P kv vv T O w w1 i r l k u b->Ju (fun j=>j=i) O w O w1->WL P N ops Q rest ((d,.tuple #[c,nI b])::st) w1):WL P N ops Q (⟨some d,.mapEntry T x y,t,p,e,none⟩::rest) st w:=by
 subst hk;obtain⟨w1,w',v,b,h1,h2,h3,h4,h5⟩:=xW hT hK hm a0 hz k u;exact KQ hd (fun a ha=>by simp only[execOp,ha.ev hx,ha.ev hy,J2,h1,ln,Jr]) (h w1 v b ⟨w',h2,h3,h4⟩ h5)
theorem js{T:J7}{O:Nat->Nat}{i r:Nat}{l:List (κ×ν)}{w0:ix}{k:κ}{u:ν}{b:Int}(hE:I1 P kv vv T O w0 w i r l k u b){ux:ka}(hx:ev st x=some (.map (some r)))(hy:ev st y=some (nI b))(hz:ev st z=some ux)(hu:ux=vv u) 
  (h:∀w',Ll kv vv O w' i r (cE l k u)->Ju (fun j=>j=i) O w0 O w'->WL P N ops Q rest st w'):WL P N ops Q (⟨none,.entryStore T x y z,t,p,e,none⟩::rest) st w:=by
 subst hu;obtain⟨w',h2,h3,h4⟩:=hE;exact ir (fun a ha=>by simp only[execOp,ha.ev hx,ha.ev hy,ha.ev hz,J2,h2,ln,Jr]) (h w' h3 h4)
end
theorem ri{α:Type}{enc:α->List ka}{sz:Nat}:∀(l:List α),(∀x∈l,(enc x).length=sz)->∀(n:Nat) (hn:n<l.length) (j:Nat),j<sz->∀(x':α) (u:ka),enc x'=(enc l[n]).set j u->(l.flatMap enc).set (n*sz+j) u=(l.set n x').flatMap enc
 |a::l,hz,0,_,j,hj,x',u,hx=>by
  have ha:=hz a (by simp);simp only[Kw,List.set_cons_zero,LB,LC];rw[List.set_append_left _ _ zo,hx];rfl
 |a::l,hz,n+1,hn,j,hj,x',u,hx=>by
  have ha:=hz a (by simp);simp only[Kw,Mi];rw[List.set_append_right _ _ (by rw[ha,M8];omega),show(n+1)*sz+j-(enc a).length=n*sz+j from by rw[ha,M8];omega];rw[ri l (fun y hy=>hz y (by simp[hy])) n (by simpa using hn) j hj x' u (by simpa using hx)]
theorem RowT.putJ{α:Type}[Inhabited α]{enc:α->List ka}{sz:Nat}{O:Nat->Nat}{w:ix}{i:Nat}{E:J7}{v:ka}{l:List α}(h:JZ enc E sz O w i v l){n:Nat}(hn:n<l.length){j:Nat}(hj:j<sz)(x':α)(u:ka)(hx:enc x'=(enc (nth l n)).set j u):
  ∃g c,(adr v sz n).add j=⟨g,n*sz+j,none⟩/\w.cell? ⟨g,n*sz+j,none⟩=some c/\w.frozen? ⟨g,n*sz+j,none⟩=false/\JZ enc E sz O (w.setCell ⟨g,n*sz+j,none⟩ u) i v (l.set n x')/\O g=i:=by
 rw[aB hn]at hx;have a2:=h.2 l[n] (L3 hn);have a5:(enc x').length=sz:=by rw[hx,Jv,a2]
 have hs:=h.sl;have a3:∃c,(enc l[n])[j]? = some c:=⟨_,Ji zo⟩
 obtain⟨c,a3⟩:=a3;have a0:=hs.cells n hn j c a3;obtain⟨⟨⟨hl,hr⟩,a1⟩,hz⟩:=h
 rcases hr with⟨rfl,h0⟩|⟨g,a4,a',rfl,a9,hg,a6,a8,a7,ht⟩
 ·omega
 have ha:(adr (.slice (some ⟨g,0,none⟩) l.length a4) sz n).add j=⟨g,n*sz+j,none⟩:=by simp only[adr,K5];split<;>simp_all
 rw[ha]at a0;refine⟨g,c,ha,a0,by simp[MN,hg],⟨⟨⟨?_,.inr ⟨g,a4,a'.setIfInBounds (n*sz+j) u,by simp,a9,?_,by simpa using a6,a8,by simpa using a7,?_⟩⟩,by simpa using a1⟩,?_⟩,a1 g rfl⟩
 ·rw[<-ri l hz n hn j hj x' u hx];simp[hl]
 ·simp only[KP,K8,if_pos];rw[hg];simp
 ·simp only[Jv,Array.toList_setIfInBounds];rw[List.take_set,ht,ri l hz n hn j hj x' u hx]
 intro y hy
 rcases List.mem_or_eq_of_mem_set hy with hy|rfl
 ·exact hz y hy
 exact a5
theorem oi{P:JH}{N:Nat}{ops:Array KF}{Q:LN->N8->ix->Prop}{a0:List KF}{st:St}{w:ix}{t:J7}{p:String}{e:Array Ma}{x y:Kj} 
  {T:J7} {α:Type} [Inhabited α] {enc:α->List ka} {sz:Nat} {O:Nat->Nat} {i:Nat} {E:J7} {v:ka} {l:List α} (hr:JZ enc E sz O w i v l) (n:Nat) (hn:n<l.length) (j:Nat) (hj:j<sz) (x':α) (hT:(Ni T).run P w=.ok 1 w) {u:ka} (h1:u.oneCell'=true) (a4:i≠0)
  {q:MM} (hx:ev st x=some (.pointer (some q))) (hq:q=(adr v sz n).add j) (hy:ev st y=some u) (a2:enc x'=(enc (nth l n)).set j u)
  (h:∀w',JZ enc E sz O w' i v (l.set n x')->Ju (fun k=>k=i) O w O w'->WL P N ops Q a0 st w'):WL P N ops Q (⟨none,.store T x y,t,p,e,none⟩::a0) st w:=by
 obtain⟨g,c,ha,hc,hf,a3,ht⟩:=hr.putJ hn hj x' u a2;rw[ha]at hq;subst hq;refine ir (w':=w.setCell ⟨g,n*sz+j,none⟩ u) (fun a a1=>?_) (h _ a3 ⟨rfl,rfl,rfl,by simp[KP],fun k _ hk=>Na _ _ _ _ (fun e=>hk (by rw[e];exact ht)),fun _ _=>rfl,fun _ h=>.inl h,fun h=>a4 h.symm⟩);simp only[execOp,a1.ev hx,a1.ev hy]
 cases u<;>simp[JQ]at h1<;>simp[Ln,MK,storeVar,hT,LA,storeCells,store,Kl,hc,hf,K5]
theorem Fits.fresh{N:Nat}{a:N8}{d:Nat}{v:ka}{st:St}(hn:(cA st d).isNone=true)(h:NV N a ((d,v)::st)):NV N a st:=by
 refine⟨h.size,h.defers,fun t u hu=>h.get t u ?_⟩;simp only[cA]
 cases hb:Li d t with
 |true=>have:=KL hb;subst this;rw[hu]at hn;cases hn
 |false=>exact hu
theorem Fits.swap{N:Nat}{a:N8}{d d':Nat}{v v':ka}{st:St}(a0:Li d d'=false)(h:NV N a ((d,v)::(d',v')::st)):NV N a ((d',v')::(d,v)::st):=by
 refine⟨h.size,h.defers,fun t u hu=>h.get t u ?_⟩;simp only[cA]at hu ⊢
 cases h1:Li d t with
 |true=>
  have:=KL h1;subst this;have h2:Li d' d=false:=by
   cases h3:Li d' d with
   |false=>rfl
   |true=>have:=KL h3;subst this;rw[a0]at h1;cases h1
  rw[h1,h2]at hu;exact hu
 |false=>
  rw[h1]at hu;exact hu
theorem bQ{P:JH}{N:Nat}{ops:Array KF}{S:ix->Prop}{Q:LN->N8->ix->Prop}{a1:Nat}{a0:Array Bool}{st:St}{w:ix} 
  {T E T1:J7} {sz a2:Nat} {α:Type} {enc:α->List ka} {x y:Kj} {t t':J7} {p p':String} {e e':Array Ma} {d d':Nat} {v xv:ka}
  (i j:Nat) (he:Np P T E sz a2) (u:α) (hi:ops[i]? = some ⟨some d,.load T1 x,t,p,e,none⟩) (hj:ops[j]? = some ⟨some d',.buildSlice T 1 #[(0,y)],t',p',e',none⟩)
  (hr:Lq .any ops a0=[i,j]) (a':Lq .any ops (a0.setIfInBounds i true)=[j]) (a9:Lq .any ops (a0.setIfInBounds j true)=[i])
  (a4:(a0.setIfInBounds j true).setIfInBounds i true=(a0.setIfInBounds i true).setIfInBounds j true)
  (hv:∀w',Kb w w'->RV P N (.load T1 x) t st w' v) (hS:∀w',Kb w w'->S w')
  (hy:ev st y=some xv) (a5:xv.cells.toList=enc u) (a6:(enc u).length=sz) (hs:sz<=16777216) (hd:Kd d N=true) (a7:Kd d' N=true) (b0:Li d d'=false) (hf:(cA st d').isNone=true) (a8:ev ((d,v)::st) y=some xv)
  (h:∀sv w',Sl enc sz w' sv [u]->Kb w w'->WH P N ops S Q a1 ((a0.setIfInBounds i true).setIfInBounds j true) ((d',sv)::(d,v)::st) w'):WH P N ops S Q (a1+2) a0 st w:=by
 refine bL i j hr hi hj ?_ ?_
 ·refine mr (hv w (Jl w)) hd (MZ (ae (hS w (Jl w)) (Jn j a' hj ?_)));refine da he u a8 a5 a6 hs a7 fun sv w' a3 hE=>MZ (ae (hS w' hE) (h sv w' a3 hE))
 refine da he u hy a5 a6 hs a7 fun sv w' a3 hE=>MZ (ae (hS w' hE) (Jn i a9 hi ?_))
 refine mr (fun a ha=>hv w' hE a (ha.fresh hf)) hd (MZ (ae (hS w' hE) ?_));rw[a4];exact fun a ha=>h sv w' a3 hE a (ha.swap b0)
theorem bh{P:JH}{N:Nat}{st:St}{w:ix}{t:J7}{x:Kj}{T E:J7}{m:Nat}{v:ka}(hs:Shape v m)(hu:P.underlying T=some (.slice E))(hx:ev st x=some v):RV P N (.call ⟨.builtin .len,#[x],#[T]⟩) t st w (nI (m:Int)):=
 fun a ha a0 p e g=>by
  obtain⟨ad,c,hv,_⟩:=hs;simp only[execOp,resolve,KB,Jt,Kk,ha.ev hx];subst hv;simp[invoke,Go.builtin,NW,run_underlying hu,goInt]
theorem nf{P:JH}{w:ix}{T ty E:J7}{sz a0:Nat}(he:Np P T E sz a0){O:Nat->Nat}{i n:Nat}{v:ka}{xs:List ka}(a1:RowO O w i E sz v n xs)(a:Option MM)(c:Nat):
  (KZ #[T,T] ty #[v,.slice a 0 c]).run P w=.ok v w:=by
 obtain⟨a4,z,hi,hz,a6,a9,a5⟩:=he.parts;have ht:=he.ht
 rcases a1.row.2 with⟨rfl,rfl⟩|⟨g,b0,a',rfl,hbg,hg,a3,a8,a7,a2⟩
 ·cases a<;>simp[KZ,run_underlying ht,Ni,typeInfo,hi,MB,LO,loadCells,loadCellsFrom]
 cases a<;>simp[KZ,run_underlying ht,Ni,typeInfo,hi,MB,LO,loadCells,loadCellsFrom,a3,storeCells]
theorem de{P:JH}{N:Nat}{ops:Array KF}{Q:LN->N8->ix->Prop}{a1:List KF}{st:St}{w:ix}{t:J7}{p:String}{e:Array Ma}{d:Nat}{x y:Kj} 
  {T E:J7} {sz a0:Nat} (he:Np P T E sz a0) {α:Type} {enc:α->List ka} {B:Nat} {O:Nat->Nat} {i:Nat} {v sv:ka} {l us:List α} (hr:JZ enc E sz O w i v l) (r:KV B O w) (hs:Sl enc sz w sv us)
  (hx:ev st x=some v) (hy:ev st y=some sv) (a4:∀u∈us,(enc u).length=sz) (a5:∀u∈us,∀c∈enc u,c.oneCell'=true)
  (hb:(l.length+us.length)*a0<=140737488355328) (a6:l.length+us.length<=9223372036854775807) (a3:i≠0) (hd:Kd d N=true)
  (h:∀v' w' O',JZ enc E sz O' w' i v' (l++us)->Ju (fun k=>k=i) O w O' w'->KV B O' w'->WL P N ops Q a1 ((d,v')::st) w') :
  WL P N ops Q (⟨some d,.call ⟨.builtin .append,#[x,y],#[T,T]⟩,t,p,e,none⟩::a1) st w:=by
 by_cases a2:us.length=0
 ·obtain rfl:=Jk a2;obtain⟨a,c,rfl,_⟩:=hs.shape;refine KQ (v:=v) (w':=w) hd (fun ac ha=>?_) (h v w O (by rw[K0];exact hr) (K6 (fun e=>a3 e.symm) _ _) r);simp only[execOp,resolve,invoke,builtin,J2,Jr,ln,KB,Jt,Kk,ha.ev hx,ha.ev hy,Kg,nf he hr.1]
 exact aC he hr r hs a2 hx hy a4 a5 hb a6 a3 hd h
theorem MapO.fgt{κ ν:Type}{kv:κ->ka}{vv:ν->ka}{O O2:Nat->Nat}{w:ix}{i i' r:Nat}{l:List (κ×ν)}(h:Ll kv vv O2 w i r l)(ho:O r=i'):Ll kv vv O w i' r l:=⟨h.blk,ho,h.born⟩
theorem aS{κ ν:Type}(kv:κ->ka)(vv:ν->ka){P:JH}{N:Nat}{ops:Array KF}{Q:LN->N8->ix->Prop}{a0:List KF}{st:St}{w:ix}{t:J7}{p:String}{e:Array Ma}{d:Nat}{T:J7} 
  {B:Nat} {O:Nat->Nat} (r:KV B O w) (i:Nat) (a1:i≠0) (hd:Kd d N=true)
  (h:∀q w' O',Ll kv vv O' w' i q []->Ju (fun k=>k=i) O w O' w'->KV B O' w'->WL P N ops Q a0 ((d,.map (some q))::st) w'):WL P N ops Q (⟨some d,.makeMap T none,t,p,e,none⟩::a0) st w:=by
 have hU:=MG (S:=fun k=>k=i) (fun e=>a1 e.symm) r (.map #[] 0) i;exact WL.makeMap hd (h w.heap.size _ (lB O w.heap.size i) (MapO.new O w i) hU (r.upd hU))
theorem xJ{α:Type}{val:α->ka}{O:Nat->Nat}{i g a1:Nat}{E:J7}(z:α)(a0:i≠0):∀(k n:Nat) (l:List α) (w:ix) (m:Nat),JZ (fun x=>[val x]) E 1 O w i (.slice (some ⟨g,0,none⟩) m a1) l->n+k=l.length->
  JZ (fun x=>[val x]) E 1 O (w.setCells g n (JR k (val z))) i (.slice (some ⟨g,0,none⟩) m a1) (l.take n++JR k z)/\Ju (fun j=>j=i) O w O (w.setCells g n (JR k (val z)))
 |0,n,l,w,m,h,hn=>by
  simp only[List.replicate_zero,K0,MD];rw[Lx zo];exact⟨h,K6 (fun e=>a0 e.symm) _ _⟩
 |k+1,n,l,w,m,h,hn=>by
  have ha:adr (.slice (some ⟨g,0,none⟩) m a1) 1 n=⟨g,n,none⟩:=by simp[adr]
  obtain⟨hc,hf,hr,ht⟩:=h.put (n:=n) zo z;rw[ha]at hr ht;simp only[List.replicate_succ,MD];obtain⟨h1,h2⟩:=xJ z a0 k (n+1) (l.set n z) (w.setCell ⟨g,n,none⟩ (val z)) m hr (by simp;omega);have e:(l.set n z).take (n+1)++JR k z=l.take n++z::JR k z:=by
   have hl:n<(l.set n z).length:=by simp;omega
   rw[List.take_succ_eq_append_getElem hl,List.getElem_set_self,List.take_set_of_le (J4 n)];simp
  rw[e]at h1;have u1:Ju (fun j=>j=i) O w O (w.setCell ⟨g,n,none⟩ (val z)):=JM (fun e=>a0 e.symm) ht rfl;exact⟨h1,u1.trans h2⟩
theorem RowT.short{α:Type}{val:α->ka}{O:Nat->Nat}{w:ix}{i:Nat}{E:J7}{v:ka}{l:List α}(h:JZ (fun x=>[val x]) E 1 O w i v l){n:Nat}(hn:n<=l.length):JZ (fun x=>[val x]) E 1 O w i (dU v 1 0 n) (l.take n):=by
 have a3:∀l:List α,(l.flatMap fun x=>[val x])=l.map val:=fun l=>by induction l<;>simp_all
 obtain⟨⟨⟨hl,hr⟩,a1⟩,hz⟩:=h
 rcases hr with⟨rfl,h0⟩|⟨g,a2,a8,rfl,a7,hg,a9,a6,a5,ht⟩
 ·obtain rfl:l=[]:=Jk h0;obtain rfl:n=0:=by simpa using hn
  exact LV _ _ _ _ _ _
 have e:dU (.slice (some ⟨g,0,none⟩) l.length a2) 1 0 n=.slice (some ⟨g,0,none⟩) n a2:=by
  simp only[dU,LB,N4]
  split<;>simp[K5]
 have a0:(l.take n).length=n:=by simp;omega
 rw[e];refine⟨⟨⟨?_,.inr ⟨g,a2,a8,by rw[a0],a7,hg,by rw[a0];omega,a6,a5,?_⟩⟩,fun g' a4=>a1 g' a4⟩,fun x _=>rfl⟩
 ·rw[a3];simp
 rw[a3]at ht ⊢;rw[a0];have:=congrArg (Mv n) ht;rw[Ko,<-Ls]at this;simpa[KI hn]using this
theorem tZ{P:JH}{N:Nat}{ops:Array KF}{Q:LN->N8->ix->Prop}{a5:List KF}{st:St}{w:ix}{t:J7}{p:String}{e:Array Ma}{x:Kj} 
  {T E:J7} {α:Type} {val:α->ka} {O:Nat->Nat} {i:Nat} {v:ka} {l:List α} (hr:JZ (fun x=>[val x]) E 1 O w i v l) (n:Nat) (hn:n<=l.length) (z:α) (a8:i≠0) (hT:P.underlying T=some (.slice E)) (hz:∀w,(Mc E).run P w=.ok (val z) w) (a9:(val z).cells = #[val z]) (h1:(val z).oneCell'=true)
  {sv:ka} (hx:ev st x=some sv) (b0:sv=dU v 1 n l.length)
  (h:∀w' l',JZ (fun x=>[val x]) E 1 O w' i v l'->l'.take n=l.take n->l'.length=l.length->Ju (fun j=>j=i) O w O w'->WL P N ops Q a5 st w'):WL P N ops Q (⟨none,.call ⟨.builtin .clear,#[x],#[T]⟩,t,p,e,none⟩::a5) st w:=by
 subst b0;have a7:=hr;have a0:∃w' l',(Ms #[T] t #[dU v 1 n l.length]).run P w=.ok (.tuple #[]) w'/\JZ (fun x=>[val x]) E 1 O w' i v l'/\l'.take n=l.take n/\l'.length=l.length/\Ju (fun j=>j=i) O w O w':=by
  by_cases he:n=l.length
  ·subst he;obtain⟨a,c,rfl,_⟩:=hr.sl.shape;refine⟨w,l,?_,hr,rfl,rfl,K6 (fun e=>a8 e.symm) _ _⟩;simp only[dU,N5];generalize (if c=l.length then a else a.map fun x=>x.add (l.length*1))=q
   cases q<;>simp[Ms,run_underlying hT]
  obtain⟨⟨⟨hl,b1⟩,a'⟩,b3⟩:=hr
  rcases b1 with⟨rfl,h0⟩|⟨g,a6,b8,rfl,b7,hg,b4,b6,b5,ht⟩
  ·omega
  obtain⟨k,hk⟩:∃k,n+k=l.length:=⟨l.length-n,zo⟩
  obtain⟨c1,c2⟩:=xJ z a8 k n l w l.length a7 hk;refine⟨_,_,?_,c1,?_,by simp;omega,c2⟩
  ·have es:dU (.slice (some ⟨g,0,none⟩) l.length a6) 1 n l.length=.slice (some ⟨g,n,none⟩) k (a6-n):=by
    simp only[dU];rw[if_neg zo,show l.length-n=k from by omega];simp only[L1,K5,Nh]
    split
    ·rename_i h;simp[h]
    simp
   rw[es];refine Lib.run_clear_slice w T E t (val z) hT hz a9 h1 g n k (a6-n) zo (fun j hj=>?_) (fun j hj=>by simp[MN,hg]);have:=a7.sl.cells (n+j) zo 0 (val l[n+j]) rfl;rw[ax]at this;have ha:adr (.slice (some ⟨g,0,none⟩) l.length a6) 1 (n+j)=⟨g,n+j,none⟩:=by simp[adr]
   rw[ha]at this;rw[this];rfl
  rw[L5 (by simp;omega),Ko,Nat.min_self]
 obtain⟨w',l',a0,a1,a2,a3,a4⟩:=a0;refine NR rfl fun a ha=>?_
 unfold ND;have b2:(execOp a.eval ⟨none,.call ⟨.builtin .clear,#[x],#[T]⟩,t,p,e,none⟩).run P w=.ok (.value (.tuple #[])) w':=by
  simp only[execOp,resolve,invoke,builtin,J2,Jr,ln,KB,Jt,Kk,ha.ev hx,a0]
 rw[b2];exact h w' l' a1 a2 a3 a4 _ ha
end
end Go.VL
namespace Go.Proofs.YtjemhjcngaokpaaGreatDoor
structure Cell0(O:Nat->Nat)(w:ix)(a:MM)(v:ka):Prop where
 z:O a.block=0
 c:w.cell? a=some v
theorem Cell0.upd{S:Nat->Prop}{O O':Nat->Nat}{w w':ix}{a:MM}{v:ka}(h:Cell0 O w a v)(u:Ju S O w O' w'):Cell0 O' w' a v:=by
 have a1:=Lp w a h.c;refine⟨Ki fun a0=>?_,ij (u.blk _ a1 (by rw[h.z];exact u.z)) h.c⟩
 rcases u.new _ a0 with h1|h1
 ·exact h1 h.z
 omega
theorem Cell0.ext{O:Nat->Nat}{w w':ix}{a:MM}{v:ka}(h:Cell0 O w a v)(e:Kb w w'):Cell0 O w' a v:=⟨h.z,e.cell h.c⟩
theorem FR{T xb:Nat}{O O1 O2:Nat->Nat}{w w1 w2:ix}{us:Array ka}{E:J7}(_:0<T)(hT:∀b,O b<T)(u1:Ju (fun q=>q=T) O w O1 w1)(u2:Ju (fun q=>q=T) O1 w1 O2 w2)(hx:JI O2 w2 T xb us E):
  Kb w w2/\∀j u,us.toList[j]? = some u->Cell0 O w2 (nA xb j) u:=by
 have hO:O xb=0:=Ki fun a0=>by
  have h1:=u1.tag xb a0;have h2:=u2.tag xb (by rw[h1];exact a0);have:=hT xb;have:=hx.tag;omega
 refine⟨aD (u1.trans u2) fun b e=>?_,fun j u hu=>⟨?_,hx.cellsAdd j u hu⟩⟩
 ·have:=hT b;omega
 show O (nA xb j).block=0;have:(nA xb j).block=xb:=by simp only[K5];split<;>rfl
 rw[this];exact hO
abbrev rj(x:Lf):List ka:=[nI x.1,nI x.2.1,nI (x.2.2:Nat)]
abbrev K3:=ka×ka×Nat
abbrev GF(x:K3):List ka:=[x.1,x.2.1,nI (x.2.2:Nat)]
theorem IX:Np Jp 157 165 3 24:=⟨Nq,by kernel_rfl,zd⟩
theorem Jd:Np Jp 158 162 3 56:=⟨KE,by kernel_rfl,zd⟩
theorem kL:Np Jp 22 3 1 8:=⟨KO,by kernel_rfl,zd⟩
theorem Il:ck Jp 160 #[(0,1),(1,1),(2,1),(3,1),(4,1)]:=⟨_,underlying160,fun w=>by kernel_rfl⟩
theorem Ik:ck Jp 162 #[(0,1),(1,1),(2,1)]:=⟨_,underlying162,fun w=>by kernel_rfl⟩
theorem Ij:ck Jp 165 #[(0,1),(1,1),(2,1)]:=⟨_,underlying165,fun w=>by kernel_rfl⟩
structure Ks(O:Nat->Nat)(w:ix)(i:Nat)(kv:ka)(g:Gr)(xs:List K3):Prop where
 row:JZ GF 162 3 O w (i+2) kv xs
 len:xs.length=g.ks.length
 fr:∀k,k<xs.length->JZ aO 3 1 O w (i+6+2*k) (nth xs k).1 (g.fr k)
 lv:∀k,k<xs.length->JZ aO 3 1 O w (i+7+2*k) (nth xs k).2.1 (g.lv k)
 en:∀k,k<xs.length->(nth xs k).2.2=g.en k
theorem Ks.upd{S:Nat->Prop}{O O':Nat->Nat}{w w':ix}{i:Nat}{kv:ka}{g:Gr}{xs:List K3}(h:Ks O w i kv g xs)(u:Ju S O w O' w')(hS:∀q,i<=q->q<i+8+2*g.ks.length->¬S q):Ks O' w' i kv g xs:=
 have hl:=h.len
 ⟨h.row.upd u zo (hS _ zo zo),h.len,fun k hk=>(h.fr k hk).upd u zo (hS _ zo zo),fun k hk=>(h.lv k hk).upd u zo (hS _ zo zo),h.en⟩
abbrev nfC(se:Bool)(lv kv nv tv:ka):Array ka:=#[.bool se,lv,kv,nv,tv]
structure NfO(O:Nat->Nat)(w:ix)(i nb:Nat)(se:Bool)(g:Gr)(nv tv lv kv:ka)(xs:List K3):Prop where
 blk:JI O w i nb (nfC se lv kv nv tv) 160
 ls:JZ rj 165 3 O w (i+1) lv g.ls
 ks:Ks O w i kv g xs
theorem NfO.updT{S:Nat->Prop}{O O':Nat->Nat}{w w':ix}{i nb:Nat}{se:Bool}{g:Gr}{nv tv lv kv:ka}{xs:List K3}(h:NfO O w i nb se g nv tv lv kv xs)(u:Ju S O w O' w')(hi:i≠0)(hS:∀q,i<=q->q<i+8+2*g.ks.length->¬S q):NfO O' w' i nb se g nv tv lv kv xs:=
 ⟨h.blk.upd u hi (hS _ (J4 _) zo),h.ls.upd u zo (hS _ zo zo),h.ks.upd u hS⟩
theorem NfO.upd{S:Nat->Prop}{O O':Nat->Nat}{w w':ix}{i nb:Nat}{se:Bool}{g:Gr}{nv tv lv kv:ka}{xs:List K3}(h:NfO O w i nb se g nv tv lv kv xs)(u:Ju S O w O' w')(hi:i≠0)(hS:∀q,i<=q->¬S q):NfO O' w' i nb se g nv tv lv kv xs:=h.updT u hi fun q h _=>hS q h
theorem NfO.ext{O:Nat->Nat}{w w':ix}{i nb:Nat}{se:Bool}{g:Gr}{nv tv lv kv:ka}{xs:List K3}(h:NfO O w i nb se g nv tv lv kv xs)(e:Kb w w')(hi:i≠0):NfO O w' i nb se g nv tv lv kv xs:=
 h.upd (aa (S:=fun _=>False) (fun h=>h) O e) hi fun _ _ h=>h
def NfP(B:Nat)(O:Nat->Nat)(w w':ix)(i nb:Nat)(se:Bool)(g:Gr)(nv tv:ka):Prop:=
 ∃O' lv kv xs,Ju (fun q=>i<=q) O w O' w'/\KV B O' w'/\NfO O' w' i nb se g nv tv lv kv xs
section
variable{O:Nat→Nat}{w:ix}{i nb:Nat}{se:Bool}{g:Gr}{nv tv lv kv:ka}{xs:List K3}
theorem NfO.c0(h:NfO O w i nb se g nv tv lv kv xs):w.cell? (nA nb 0)=some (.bool se):=h.blk.cell 0 rfl
theorem NfO.c1(h:NfO O w i nb se g nv tv lv kv xs):w.cell? (nA nb 1)=some lv:=h.blk.cell 1 rfl
theorem NfO.c2(h:NfO O w i nb se g nv tv lv kv xs):w.cell? (nA nb 2)=some kv:=h.blk.cell 2 rfl
theorem NfO.c3(h:NfO O w i nb se g nv tv lv kv xs):w.cell? (nA nb 3)=some nv:=h.blk.cell 3 rfl
theorem NfO.c4(h:NfO O w i nb se g nv tv lv kv xs):w.cell? (nA nb 4)=some tv:=h.blk.cell 4 rfl
theorem Ks.f0(h:Ks O w i kv g xs){k:Nat}(hk:k<xs.length):w.cell? ((adr kv 3 k).add 0)=some (nth xs k).1:=h.row.sl.cell (j:=0) hk rfl
theorem Ks.f1(h:Ks O w i kv g xs){k:Nat}(hk:k<xs.length):w.cell? ((adr kv 3 k).add 1)=some (nth xs k).2.1:=h.row.sl.cell (j:=1) hk rfl
end
structure Bd(g:Gr)(M:Nat):Prop where
 ks:g.ks.length<=M
 ls:g.ls.length<=M
 fr:∀k,(g.fr k).length<=M
 lv:∀k,(g.lv k).length<=M
theorem Bd.mono{g:Gr}{M M':Nat}(h:Bd g M)(hm:M<=M'):Bd g M':=⟨by have:=h.ks;omega,by have:=h.ls;omega,fun k=>by have:=h.fr k;omega,fun k=>by have:=h.lv k;omega⟩
theorem Bd.knot{g:Gr}{M:Nat}(h:Bd g M):Bd g.knot (M+1):=⟨by rw[aL];have:=h.ks;omega,by have:=h.ls;show g.ls.length<=_;omega,fun k=>by
 rw[nJ];split
 ·have:=h.fr k;omega
 ·simp,fun k=>by
 rw[nH];split
 ·have:=h.lv k;omega
 simp⟩
theorem Bd.free{g:Gr}{M:Nat}(h:Bd g M){a b:Nat}(ha:a<g.ks.length):Bd (g.free a b) (M+1):=⟨by rw[bd];have:=h.ks;omega,by have:=h.ls;show g.ls.length<=_;omega,fun k=>by
 rw[nM ha];split
 ·have:=h.fr a;simp;omega
 ·have:=h.fr k;omega,fun k=>by
 rw[nL ha];have:=h.lv k;omega⟩
theorem Bd.leaf{g:Gr}{M:Nat}(h:Bd g M){x c:Int}{a b:Nat}(ha:a<g.ks.length):Bd (g.leaf x c a b) (M+1):=⟨by rw[iP];have:=h.ks;omega,by have:=h.ls;rw[nw];simp;omega,fun k=>by
 rw[nz ha];have:=h.fr k;omega,fun k=>by
 rw[nu ha];split
 ·have:=h.lv a;simp;omega
 have:=h.lv k;omega⟩
theorem Bd.layO{g:Gr}{M:Nat}(h:Bd g M){k:Int}{i:Nat}(hi:i+1<g.ks.length):Bd (layO k g i) (M+2):=by
 unfold Go.Proofs.YtjemhjcngaokpaaGreatDoor.layO;split<;>split
 ·exact h.mono zo
 ·exact(h.free zo).mono zo
 ·exact(h.free hi).mono zo
 exact(h.free zo).free (by rw[bd];exact hi)
theorem Bd.often{g:Gr}{M:Nat}(h:Bd g M){a b:Nat}(ha:a<g.ks.length):Bd (bV g a b) (M+4):=by
 have h2:g.knot.knot.ks.length=g.ks.length+2:=by rw[aL,aL]
 unfold bV;exact(h.knot.knot.free zo).free (by rw[bd];omega)
mutual
theorem gi:∀(t:Nd) (a b:Nat) (g:Gr) (M:Nat),WF g->a<g.ks.length->b<g.ks.length->Bd g M->Bd (fW t a b g) (M+(9*nsz t-1))
 |.mk k c l,a,b,g,M,h,ha,hb,hM=>by
  unfold fW
  simp only[nsz]
  split
  ·exact(AN l a b g M h ha hb hM).mono zo
  split
  ·exact(AS l a b g M h ha hb hM).mono zo
  split
  ·have hl:=ey g a b
   have hwf:=fF h ha hb
   obtain⟨h1,h2⟩:=nD l g.ks.length (g.ks.length+1) (bV g a b) hwf zo zo
   have:=h2.len
   have h3:=Fs l g.ks.length (g.ks.length+1) (bV g a b) (M+4) hwf zo zo (hM.often ha)
   exact(h3.layO zo).mono zo
  split
  ·exact(hM.free ha).mono zo
  exact(hM.leaf ha).mono zo
theorem AN:∀(l:List Nd) (a b:Nat) (g:Gr) (M:Nat),WF g->a<g.ks.length->b<g.ks.length->Bd g M->Bd (oE l a b g) (M+9*dA l)
 |[],_,_,g,M,_,_,_,hM=>hM.mono zo
 |t::r,a,b,g,M,h,ha,hb,hM=>by
  unfold oE
  simp only[dA]
  have hp:=dJ t
  split
  ·exact(gi t a b g M h ha hb hM).mono zo
  have hl:=aL g
  obtain⟨h1,h2⟩:=cL t a g.ks.length g.knot h.knot zo zo
  have:=h2.len
  exact(AN r g.ks.length b _ _ h1 zo zo (gi t a g.ks.length g.knot (M+1) h.knot zo zo hM.knot)).mono zo
theorem AS:∀(l:List Nd) (a b:Nat) (g:Gr) (M:Nat),WF g->a<g.ks.length->b<g.ks.length->Bd g M->Bd (oF l a b g) (M+9*dA l)
 |[],_,_,g,M,_,_,_,hM=>hM.mono zo
 |t::r,a,b,g,M,h,ha,hb,hM=>by
  unfold oF
  simp only[dA]
  have hp:=dJ t
  obtain⟨h1,h2⟩:=cL t a b g h ha hb
  have:=h2.len
  exact(AS r a b _ _ h1 zo zo (gi t a b g M h ha hb hM)).mono zo
theorem Fs:∀(l:List Nd) (a b:Nat) (g:Gr) (M:Nat),WF g->a<g.ks.length->b<g.ks.length->Bd g M->Bd (pN l a b g) (M+9*dA l)
 |[],_,_,g,M,_,_,_,hM=>hM.mono zo
 |t::_,a,b,g,M,h,ha,hb,hM=>by
  unfold pN
  simp only[dA]
  exact(gi t a b g M h ha hb hM).mono zo
end
theorem Upd.hi{U i:Nat}{O O':Nat->Nat}{w w':ix}(h:Ju (fun q=>q=U) O w O' w')(hi:i≠0)(hU:i<=U):Ju (fun q=>i<=q) O w O' w':=h.mono (fun q e=>by rw[e];exact hU) zo
theorem iQ(B:Nat)(O:Nat->Nat)(w:ix)(i nb:Nat)(se:Bool)(g:Gr)(nv tv lv kv:ka)(xs:List K3)(hi:i≠0)(hR:KV B O w)(h:NfO O w i nb se g nv tv lv kv xs)(hM:g.ks.length<=100000000):
  KD Jp 66 [nP nb] w fun v w'=>v=nI ((g.ks.length:Nat):Int)/\NfP B O w w' i nb se g.knot nv tv:=by
 have a0:=h.ks.len;refine J3 func66 ntmps66 rfl rfl ?_;refine zh ?_;refine zv (RV.ld h.c2 rfl) ?_;refine zv (aF Ik (zeroValue162 _) rfl (by first|rfl|(simp only[JD,JK];rfl)) rfl rfl) ?_;refine N9 Jd h.ks.row hR (((nS,nS,0):K3)) (fun _=>rfl) rfl rfl rfl (by simp[JQ]) zo zo zo zd rfl rfl ?_;intro a3 w1 O1 a4 a5 a';have a6:=h.blk.upd a5 hi zo;refine zh ?_;refine aj (j:=2) a6 rfl (sizeOf158 _) a4.one rfl rfl rfl ?_;have a8:=a6.set 2 a3;have a2:Ju (fun q=>q=i) O1 w1 O1 (w1.setCell ⟨nb,2,none⟩ a3):=JM (fun e=>hi e.symm) a6.tag rfl;have a1:=a4.upd a2 zo zo;have a9:=a'.upd a2;generalize w1.setCell ⟨nb,2,none⟩ a3=w2 at *;have c2:w2.cell? (nA nb 2)=some a3:=a8.cell 2 rfl;have b0:=a1.sl;have b1:∀k,i+6<=k->¬(k=i+2):=fun k hk=>zo
 have a7:(xs++[((nS,nS,0):K3)]).length=g.ks.length+1:=by simp[a0]
 refine zh ?_;refine ah rfl rfl (⟨by rw[a7];congr 1;omega,O1,lv,a3,xs++[(nS,nS,0)],(Upd.hi a5 hi zo).trans (Upd.hi a2 hi (J4 _)),a9,⟨a8,(h.ls.upd a5 zo zo).upd a2 zo zo,⟨a1,by rw[a7,aL],fun k hk=>?_,fun k hk=>?_,fun k hk=>?_⟩⟩⟩)
 ·rw[aA,nJ,a0]
  by_cases e:k<g.ks.length
  ·rw[if_pos e,if_pos e];exact((h.ks.fr k zo).upd a5 zo zo).upd a2 zo zo
  rw[if_neg e,if_neg e,show k-g.ks.length=0 from by omega,ay];exact LV _ _ _ _ _ _
 ·rw[aA,nH,a0]
  by_cases e:k<g.ks.length
  ·rw[if_pos e,if_pos e];exact((h.ks.lv k zo).upd a5 zo zo).upd a2 zo zo
  rw[if_neg e,if_neg e,show k-g.ks.length=0 from by omega,ay];exact LV _ _ _ _ _ _
 rw[aA,qU,a0]
 by_cases e:k<g.ks.length
 ·rw[if_pos e,if_pos e];exact h.ks.en k zo
 rw[if_neg e,if_neg e,show k-g.ks.length=0 from by omega,ay]
theorem gj(B:Nat)(O:Nat->Nat)(w:ix)(i nb:Nat)(se:Bool)(g:Gr)(nv tv lv kv:ka)(xs:List K3)(a b:Nat)(hi:i≠0)(hR:KV B O w)(h:NfO O w i nb se g nv tv lv kv xs)(ha:a<g.ks.length)(hM:(g.fr a).length<=100000000)(b8:g.ks.length<=100000000):
  KD Jp 67 [nP nb,nI (a:Nat),nI (b:Nat)] w fun _ w'=>NfP B O w w' i nb se (g.free a b) nv tv:=by
 have a8:=h.ks.len;have a2:a<xs.length:=zo;have hs:=h.ks.row.sl;have f0:=h.ks.f0 a2;refine J3 func67 ntmps67 rfl rfl ?_;have a0:w.drew.cell? (nA nb 2)=some kv:=h.c2;have b6:w.drew.cell? ((adr kv 3 a).add 0)=some (nth xs a).1:=f0;refine aG (fun W=>W.cell? (nA nb 2)=some kv) 19 rfl zk ?_;refine zrm 0 rfl a0 rfl ?_;refine zr 1 rfl a0 (fun _=>ao rfl) ?_;refine zrf 2 rfl a0 rfl ?_;refine zt 3 rfl a0 (fun w1 a7=>RV.ld a7 rfl) ?_;refine zrm 4 rfl a0 rfl ?_;refine zrm 5 rfl a0 rfl ?_;refine zr 6 rfl a0 (fun _=>ao rfl) ?_;refine zrf 7 rfl a0 rfl ?_;refine zt 8 rfl a0 (fun w1 a7=>RV.ld a7 rfl) ?_;refine zrm 9 rfl a0 rfl ?_;refine zr 10 rfl a0 (fun _=>ai hs.sh KE (Md _) rfl rfl a rfl a2) ?_;refine zrf 11 rfl a0 rfl ?_;refine zrm 13 rfl a0 rfl ?_;refine bQ 12 14 kL (enc:=aO) b rfl rfl zk zk zk zk (fun W hE=>LW (hE.cell b6) (MV _) rfl) (fun W hE=>hE.cell a0) rfl rfl rfl zd rfl rfl rfl rfl rfl ?_;intro sv w0 b1 b5;have b0:Ju (fun _=>False) O w O w0:=aa (fun h=>h) O ((Jl w).drew.trans b5);have h0:=h.upd b0 hi fun _ _ h=>h
 have b4:=hR.upd b0;refine Jn 15 zk rfl ?_;refine aC kL (h0.ks.fr a a2) b4 b1 (by simp) rfl rfl (by simp) (by simp[JQ]) (by simp;omega) (by simp;omega) zo rfl ?_;intro fv w1 O1 a6 a4 b3;have h1:=h0.blk.upd a4 hi zo;have a':=h0.ks.row.upd a4 zo zo;have d1:w1.cell? (nA nb 2)=some kv:=h1.cell 2 rfl;refine zh ?_;refine ae (d1) ?_;refine zr 16 rfl (d1) (fun _=>ai hs.sh KE (Md _) rfl rfl a rfl a2) ?_;refine zrf 17 rfl (d1) rfl ?_;refine Jn 18 zk rfl ?_;refine oi a' a a2 0 zd ((fv,(nth xs a).2.1,(nth xs a).2.2):K3) (MC _) a6.one zo rfl rfl rfl rfl ?_;intro w2 a9 a3;have h2:=h1.upd a3 hi zo;have d2:w2.cell? (nA nb 2)=some kv:=h2.cell 2 rfl;refine zh ?_;refine ae (d2) ?_;have b2:Ju (fun q=>i<=q) O w O1 w2:=((b0.mono (fun _ h=>h.elim) zo).trans (Upd.hi a4 hi zo)).trans (Upd.hi a3 hi zo);have a5:∀k,k<xs.length->k≠a->JZ aO 3 1 O1 w2 (i+6+2*k) (nth xs k).1 (g.fr k):=fun k hk b7=>((h0.ks.fr k hk).upd a4 zo zo).upd a3 zo zo
 have a1:∀k,k<xs.length->JZ aO 3 1 O1 w2 (i+7+2*k) (nth xs k).2.1 (g.lv k):=fun k hk=>((h0.ks.lv k hk).upd a4 zo zo).upd a3 zo zo
 refine JP zk ?_;refine aH rfl (⟨O1,lv,kv,xs.set a (fv,(nth xs a).2.1,(nth xs a).2.2),b2,b3.upd a3,⟨h2,(h0.ls.upd a4 zo zo).upd a3 zo zo,⟨a9,by rw[Jv,bd];exact a8,fun k hk=>?_,fun k hk=>?_,fun k hk=>?_⟩⟩⟩)
 ·rw[Jv]at hk;rw[aQ a2,nM ha]
  by_cases e:k=a
  ·subst e;rw[if_pos rfl,if_pos rfl];exact a6.upd a3 zo zo
  rw[if_neg e,if_neg e];exact a5 k hk e
 ·rw[Jv]at hk;rw[aQ a2,nL ha]
  by_cases e:k=a
  ·subst e;rw[if_pos rfl];exact a1 k hk
  rw[if_neg e];exact a1 k hk
 rw[Jv]at hk;rw[aQ a2,vf ha]
 by_cases e:k=a
 ·subst e;rw[if_pos rfl];exact h.ks.en k hk
 rw[if_neg e];exact h.ks.en k hk
theorem ft:∀(l:List Nd) (i:Nat),dV l=true->i<l.length->gK (nth l i)=true
 |[],i,_,h=>absurd h (Jq i)
 |t::r,i,hs,h=>by
  unfold dV at hs;simp only[J6]at hs
  cases i with
  |zero=>rw[ay];exact hs.1
  |succ i=>rw[bA];exact ft r i hs.2 (by simpa using h)
theorem AM{l:List Nd}{q a b:Nat}{g:Gr}(h:q<l.length):oE (l.drop q) a b g=if q+1<l.length then oE (l.drop (q+1)) g.ks.length b (fW (nth l q) a g.ks.length g.knot)else fW (nth l q) a b g:=by
 rw[lM h,oE]
 by_cases e:q+1<l.length
 ·rw[if_pos e,if_neg (by simp;omega)]
 rw[if_neg e,if_pos (by simp;omega)]
theorem AR{l:List Nd}{q a b:Nat}{g:Gr}(h:q<l.length):oF (l.drop q) a b g=oF (l.drop (q+1)) a b (fW (nth l q) a b g):=by
 rw[lM h];rfl
theorem CN{l:List Nd}{a b:Nat}{g:Gr}(h:l.length=1):pN l a b g=fW (nth l 0) a b g:=by
 obtain⟨t,rfl⟩:=List.length_eq_one_iff.1 h;rw[ay];rfl
def I0(t:Nd):Prop:=∀(B:Nat) (O:Nat->Nat) (w:ix) (i nb:Nat) (se:Bool) (g:Gr) (na ta lv kv:ka) (xs:List K3) (a b:Nat) (x:N3) (M:Nat),i≠0->KV B O w->NfO O w i nb se g na ta lv kv xs->WF g->a<g.ks.length->b<g.ks.length->Bd g M->M+9*nsz t<=100000000->gK t=true->Nt O w t x->
 KD Jp 68 [nP nb,nv x,nI (a:Nat),nI (b:Nat)] w fun _ w'=>NfP B O w w' i nb se (fW t a b g) na ta
theorem uO{k c:Int}{l:List Nd}(a':k=6\/k=7\/k=8)(ih:I0 (nth l 0))(B:Nat)(O:Nat->Nat)(w:ix)(i nb:Nat)(se:Bool)(g:Gr)(na ta lv kv:ka)(xs:List K3)(a b:Nat)(x:N3)(M:Nat)(hi:i≠0)(hR:KV B O w)(h:NfO O w i nb se g na ta lv kv xs)(hw:WF g)(ha:a<g.ks.length)(hb:b<g.ks.length)(hM:Bd g M)(e8:M+9*nsz (.mk k c l)<=100000000)(hs:gK (.mk k c l)=true)(hn:Nt O w (.mk k c l) x):
  KD Jp 109 [nP nb,nv x,nI (a:Nat),nI (b:Nat)] w fun _ w'=>NfP B O w w' i nb se (fW (.mk k c l) a b g) na ta:=by
 obtain⟨T,d9,hT⟩:=hR.bound;have g1:=hn.kind;obtain⟨ys,d4,a5,b4,a3⟩:=hn.kids;have hx:x=(k,c,x.2.2):=hn.ones;generalize x.2.2=kidv at *;subst hx;unfold gK at hs;simp only[J6]at hs;obtain⟨b9,d5⟩:=hs;rw[if_neg zo,if_pos a']at b9;have b':l.length=1:=of_decide_eq_true b9;have g0:ys.length=1:=by rw[<-b4];exact b'
 have b5:fW (.mk k c l) a b g=layO k (fW (nth l 0) g.ks.length (g.ks.length+1) (bV g a b)) g.ks.length:=by
  rw[fW,if_neg zo,if_neg zo,if_pos a',CN b'];rfl
 have g4:=cu l 0 zo;simp only[nsz]at e8;rw[b5];refine J3 func109 ntmps109 rfl rfl ?_;refine zh ?_;refine aE hR T zo rfl rfl ?_;intro xb w1 O1 c8 b1 b6 b7;obtain⟨b8,c5⟩:=FR d9 hT b1 (K6 zo _ _) c8;clear c8 b1 b6 b7;have h1:=h.ext b8 hi;have b6:=hR.ext b8;have k1:Cell0 O w1 (nA xb 0) (nI k):=c5 0 _ rfl;have v1:Cell0 O w1 (nA xb 2) kidv:=c5 2 _ rfl;have b1:Ju (fun q=>i<=q) O w O w1:=aa zo O b8;refine zh ?_;refine zc NN (iQ B O w1 i nb se g na ta _ _ _ hi b6 h1 (by have:=hM.ks;omega)) ?_;rintro _ w2 ⟨rfl,O2,f7,f',f4,d2,e6,h2⟩;refine zh ?_;have e1:=aL g;refine zc NN (iQ B O2 w2 i nb se g.knot na ta _ _ _ hi e6 h2 (by have:=hM.ks;omega)) ?_;rintro _ w3 ⟨rfl,O3,f6,f9,f3,d1,e5,h3⟩;rw[e1];have e2:=aL g.knot;refine zh ?_;refine zc Mn (gj B O3 w3 i nb se g.knot.knot na ta _ _ _ a g.ks.length hi e5 h3 zo (by have:=Bd.fr (hM.knot.knot) a;omega) (by have:=Bd.ks (hM.knot.knot);omega)) ?_;rintro _ w4 ⟨O4,_,_,_,d0,e4,h4⟩;have e3:=bd g.knot.knot a g.ks.length;refine zh ?_;refine zc Mn (gj B O4 w4 i nb se (g.knot.knot.free a g.ks.length) na ta _ _ _ (g.ks.length+1) b hi e4 h4 zo (by have:=Bd.fr (hM.knot.knot.free (a:=a) (b:=g.ks.length) zo) (g.ks.length+1);omega) (by have:=Bd.ks (hM.knot.knot.free (a:=a) (b:=g.ks.length) zo);omega)) ?_;rintro _ w5 ⟨O5,_,_,_,c',e0,h5⟩;have a0:=(((b1.trans d2).trans d1).trans d0).trans c';have a7:=((d2.trans d1).trans d0).trans c'
 have e9:NfO O5 w5 i nb se (bV g a b) na ta _ _ _:=h5;have b3:=fF hw ha hb;have g3:=ey g a b;have c6:=hM.often (b:=b) ha;have k5:=k1.upd a7;have v5:=v1.upd a7;have a1:=d4.upd a5 a0;have a4:=(a3 0 zo).upd a0;refine zh ?_;refine zv (RV.ld v5.c rfl) ?_;refine zv (LX a1 Nu (J0 _) rfl rfl 0 rfl zo) ?_;refine zvH (af (us:=aV (nth ys 0)) (fun j u hu=>a1.cell zo hu) (J8 _) (J0 _) rfl) ?_;refine zc Nj (ih B O5 w5 i nb se (bV g a b) na ta _ _ _ g.ks.length (g.ks.length+1) (nth ys 0) (M+4) hi e0 e9 b3 zo zo c6 zo (ft l 0 d5 zo) a4) ?_;rintro _ w6 ⟨O6,f5,f8,e',c9,d3,h6⟩;obtain⟨g2,a2⟩:=cL (nth l 0) g.ks.length (g.ks.length+1) (bV g a b) b3 zo zo;have a6:=gi (nth l 0) g.ks.length (g.ks.length+1) (bV g a b) (M+4) b3 zo zo c6;have d7:=a2.len;generalize fW (nth l 0) g.ks.length (g.ks.length+1) (bV g a b)=g6 at *;have a9:=a0.trans c9;have k6:=k5.upd c9;refine zh ?_;refine zvH (RV.ld k6.c rfl) ?_
 by_cases h7:k=7
 ·subst h7;refine zFH rfl rfl ?_;refine zvH (RV.ld k6.c rfl) ?_;refine zTH rfl rfl ?_;refine zc Mn (gj B O6 w6 i nb se g6 na ta _ _ _ (g.ks.length+1) g.ks.length hi d3 h6 zo (by have:=Bd.fr a6 (g.ks.length+1);omega) (by have:=Bd.ks a6;omega)) ?_;rintro _ w7 ⟨O7,_,_,_,b0,b2,h7⟩;refine zh ?_;refine aH rfl (⟨O7,_,_,_,a9.trans b0,b2,h7⟩)
 refine zTH rfl ((by simpa using h7)) ?_;refine zc Mn (gj B O6 w6 i nb se g6 na ta _ _ _ g.ks.length (g.ks.length+1) hi d3 h6 zo (by have:=Bd.fr a6 g.ks.length;omega) (by have:=Bd.ks a6;omega)) ?_
 rintro _ w7 ⟨O7,_,_,_,b0,b2,h7n⟩;have a8:=a9.trans b0;have k7:=k6.upd b0;refine zh ?_;refine zvH (RV.ld k7.c rfl) ?_
 by_cases h8:k=8
 ·subst h8;refine zFH rfl rfl ?_;refine aH rfl (⟨O7,_,_,_,a8,b2,h7n⟩)
 refine aR rfl ((by simpa using h8)) ?_;have d6:layO k g6 g.ks.length=(g6.free g.ks.length (g.ks.length+1)).free (g.ks.length+1) g.ks.length:=by unfold layO;rw[if_neg h8,if_neg h7]
 rw[d6];have c7:=a6.free (a:=g.ks.length) (b:=g.ks.length+1) zo;have e7:=bd g6 g.ks.length (g.ks.length+1);refine zh ?_;refine zc Mn (gj B O7 w7 i nb se (g6.free g.ks.length (g.ks.length+1)) na ta _ _ _ (g.ks.length+1) g.ks.length hi b2 h7n zo (by have:=Bd.fr c7 (g.ks.length+1);omega) (by have:=Bd.ks c7;omega)) ?_;rintro _ w8 ⟨O8,_,_,_,d8,d',h8n⟩;refine zh ?_;refine aH rfl (⟨O8,_,_,_,a8.trans d8,d',h8n⟩)
theorem CJ{k c:Int}{l:List Nd}(h4:k≠4)(h5:k≠5)(a0:¬(k=6\/k=7\/k=8))(h9:k≠9)(a b:Nat)(g:Gr):fW (.mk k c l) a b g=g.leaf k c a b:=by
 rw[fW,if_neg h4,if_neg h5,if_neg a0,if_neg h9]
theorem AK:∀(n:Nat) (t:Nd),nsz t<=n->I0 t
 |0,t,ht=>by have:=dJ t;omega
 |n+1,.mk k c l,ht=>by
  intro B O w i nb se g na ta lv kv xs a b x M hi hR h hw ha hb hM l2 hs hn;have ih:=fun(t:Nd) (e:nsz t<=n)=>AK n t e
  have j':=hs;have k6:=hn;obtain⟨T,l1,hT⟩:=hR.bound;obtain⟨ys,j0,f',i0,d'⟩:=hn.kids;have hx:x=(k,c,x.2.2):=hn.ones;generalize x.2.2=kidv at *;subst hx;unfold gK at hs;simp only[J6]at hs;obtain⟨g5,g'⟩:=hs;simp only[nsz]at l2 ht
  change l.length=ys.length at i0
  change ∀i,i<ys.length->Nt O w (nth l i) (nth ys i)at d'
  have m4:=eV l;refine J3 func68 ntmps68 rfl rfl ?_;refine zh ?_;refine aE hR T zo rfl rfl ?_;intro xb w1 O1 j2 b8 e4 i';obtain⟨e',e8⟩:=FR l1 hT b8 (K6 zo _ _) j2;clear j2 b8 e4 i';have h1:=h.ext e' hi;have e4:=hR.ext e';have k1:Cell0 O w1 (nA xb 0) (nI k):=e8 0 _ rfl;have j4:Cell0 O w1 (nA xb 1) (nI c):=e8 1 _ rfl;have v1:Cell0 O w1 (nA xb 2) kidv:=e8 2 _ rfl;have b8:Ju (fun q=>i<=q) O w O w1:=aa zo O e';have f4:=j0.ext e';have b7:=f'.upd b8;have k5:Nt O w1 (.mk k c l) (k,c,kidv):=k6.ext e';have b6:=fun q hq=>(d' q hq).ext e'
  refine zh ?_;refine zvH (RV.ld k1.c rfl) ?_
  by_cases h4:k=4
  ·subst h4;rw[if_pos rfl]at g5;have b4:fW (.mk 4 c l) a b g=oE l a b g:=by rw[fW,if_pos rfl]
   rw[b4];refine zTH rfl rfl ?_;refine zvH (RV.ld v1.c rfl) ?_;refine zlp (fun z:Nat×Nat×(Nat->Nat)×World×Gr×ka×ka×List K3=>[(0,nP nb),(2,nI z.2.1),(3,nI b),(5,nP xb),(55,kidv),(56,nI ys.length),(57,nI z.1)]) (fun z=>z.2.2.2.1) (fun z=>z.1<=l.length/\Ju (fun q=>i<=q) O w1 z.2.2.1 z.2.2.2.1/\KV B z.2.2.1 z.2.2.2.1/\NfO z.2.2.1 z.2.2.2.1 i nb se z.2.2.2.2.1 na ta z.2.2.2.2.2.1 z.2.2.2.2.2.2.1 z.2.2.2.2.2.2.2/\WF z.2.2.2.2.1/\z.2.1<z.2.2.2.2.1.ks.length/\b<z.2.2.2.2.1.ks.length/\Bd z.2.2.2.2.1 (M+9*dA (l.take z.1))/\oE l a b g=(if z.1<l.length then oE (l.drop z.1) z.2.1 b z.2.2.2.2.1 else z.2.2.2.2.1)) (fun z=>l.length-z.1) (0,a,O,w1,g,lv,kv,xs) (⟨Js _,K6 zo _ _,e4,h1,hw,ha,hb,by simpa[dA]using hM,by dsimp only;rw[if_pos (by cases l;simp at g5;simp),List.drop_zero]⟩) ?_;rintro⟨q,fr,O2,w2,g2,j6,j7,j5⟩ ⟨hq,b0,b1,h2,b2,d0,d2,c5,a7⟩;dsimp only at hq b0 b1 h2 b2 d0 d2 c5 a7 ⊢;have c6:=f4.upd b7 b0;have v2:=v1.upd b0;have k0:=cB l q;refine zh ?_;refine zC ?_ ?_
   ·intro a1;replace a1:q<l.length:=dT a1;rw[if_pos a1,AM a1]at a7;have a3:=(b6 q zo).upd b0;have k2:=cu l q a1;have e1:=dY l q a1;have h0:=cB l (q+1);have a5:=a3.one;obtain⟨T2,e3,i8⟩:=b1.bound;refine zh ?_;refine zv (af (us:=aV (nth ys q)) (fun j u hu=>c6.cell zo hu) (J8 _) (J0 _) rfl) ?_;refine aw b1 T2 zo (Jo _) rfl ?_;intro yb w3 O3 a8 a' g4 e6;refine zh ?_;refine zsb (us:=#[nI (nth ys q).1,nI (nth ys q).2.1,(nth ys q).2.2]) a8 (J0 _) (bZ a5) ?_;have g3:Ju (fun j=>j=T2) O3 w3 O3 (w3.setRow yb #[nI (nth ys q).1,nI (nth ys q).2.1,(nth ys q).2.2]):=J9 zo a8.tag rfl;obtain⟨b9,g6⟩:=FR e3 i8 a' g3 (a8.setRow (us:=#[nI (nth ys q).1,nI (nth ys q).2.1,(nth ys q).2.2]));generalize w3.setRow yb #[nI (nth ys q).1,nI (nth ys q).2.1,(nth ys q).2.2]=w4 at *;clear a8 a' g4 e6 g3;have a9:Ju (fun q=>i<=q) O2 w2 O2 w4:=aa zo O2 b9;have h4n:=h2.ext b9 hi;have e9:=b1.ext b9;have v4:=v2.ext b9;have a6:=a3.ext b9;refine zh ?_;refine zv (RV.ld v4.c rfl) ?_;refine zvH (RV.len (by first|exact c6.ext b9) Nu rfl) ?_;refine zC ?_ ?_
    ·intro c8;replace c8:q+1<l.length:=dT c8;rw[if_pos c8]at a7;refine zh ?_;refine zc NN (iQ B O2 w4 i nb se g2 na ta _ _ _ hi e9 h4n (by have:=c5.ks;omega)) ?_;rintro _ w5 ⟨rfl,O5,m0,m1,l9,i5,i9,h5⟩;have i6:=a9.trans i5;have e5:=aL g2;refine zh ?_;refine zvH (af (us:=aV (nth ys q)) (fun j u hu=>((g6 j u hu).upd i5).c) (J8 _) (J0 _) rfl) ?_;refine zc Nj (ih (nth l q) zo B O5 w5 i nb se g2.knot na ta _ _ _ fr g2.ks.length (nth ys q) _ hi i9 h5 b2.knot zo zo c5.knot zo (ft l q g' a1) (a6.upd i5)) ?_;rintro _ w6 ⟨O6,d4,d5,d3,a0,a4,h6⟩;obtain⟨f5,a2⟩:=cL (nth l q) fr g2.ks.length g2.knot b2.knot zo zo;have d1:=gi (nth l q) fr g2.ks.length g2.knot _ b2.knot zo zo c5.knot;have f8:=a2.len;have m3:=dJ (nth l q);refine zh ?_;refine zxd (q+1,g2.ks.length,O6,w6,fW (nth l q) fr g2.ks.length g2.knot,d4,d5,d3) (⟨a1,(b0.trans i6).trans a0,a4,h6,f5,by dsimp only;omega,by dsimp only;omega,d1.mono (by dsimp only;omega),by dsimp only;rw[if_pos c8];exact a7⟩)
    intro c';replace c':¬q+1<l.length:=by have:=of_decide_eq_false c';omega
    rw[if_neg c']at a7;refine zh ?_;refine zvH (af (us:=aV (nth ys q)) (fun j u hu=>(g6 j u hu).c) (J8 _) (J0 _) rfl) ?_;refine zc Nj (ih (nth l q) zo B O2 w4 i nb se g2 na ta _ _ _ fr b (nth ys q) _ hi e9 h4n b2 d0 d2 c5 zo (ft l q g' a1) a6) ?_;rintro _ w6 ⟨O6,d4,d5,d3,a0,a4,h6⟩;obtain⟨f5,a2⟩:=cL (nth l q) fr b g2 b2 d0 d2;have d1:=gi (nth l q) fr b g2 _ b2 d0 d2 c5;have f8:=a2.len;refine zh ?_;refine zxd (q+1,b,O6,w6,fW (nth l q) fr b g2,d4,d5,d3) (⟨a1,(b0.trans a9).trans a0,a4,h6,f5,by dsimp only;omega,by dsimp only;omega,d1.mono (by dsimp only;omega),by dsimp only;rw[if_neg c'];exact a7⟩)
   intro e7;replace e7:¬q<l.length:=dF e7;rw[if_neg e7]at a7;rw[a7];refine zh ?_;refine aH rfl (⟨O2,_,_,_,b8.trans b0,b1,h2⟩)
  refine zFH rfl ((by simpa using h4)) ?_
  by_cases h5:k=5
  ·subst h5;have b4:fW (.mk 5 c l) a b g=oF l a b g:=by rw[fW,if_neg h4,if_pos rfl]
   rw[b4];refine zTH rfl rfl ?_;refine zvH (RV.ld v1.c rfl) ?_;refine zlp (fun z:Nat×(Nat->Nat)×World×Gr×ka×ka×List K3=>[(0,nP nb),(2,nI a),(3,nI b),(81,kidv),(82,nI ys.length),(83,nI z.1)]) (fun z=>z.2.2.1) (fun z=>z.1<=l.length/\Ju (fun q=>i<=q) O w1 z.2.1 z.2.2.1/\KV B z.2.1 z.2.2.1/\NfO z.2.1 z.2.2.1 i nb se z.2.2.2.1 na ta z.2.2.2.2.1 z.2.2.2.2.2.1 z.2.2.2.2.2.2/\WF z.2.2.2.1/\a<z.2.2.2.1.ks.length/\b<z.2.2.2.1.ks.length/\Bd z.2.2.2.1 (M+9*dA (l.take z.1))/\oF l a b g=oF (l.drop z.1) a b z.2.2.2.1) (fun z=>l.length-z.1) (0,O,w1,g,lv,kv,xs) (⟨Js _,K6 zo _ _,e4,h1,hw,ha,hb,by simpa[dA]using hM,rfl⟩) ?_;rintro⟨q,O2,w2,g2,j6,j7,j5⟩ ⟨hq,b0,b1,h2,b2,g7,d2,c5,a7⟩;dsimp only at hq b0 b1 h2 b2 g7 d2 c5 a7 ⊢;have c6:=f4.upd b7 b0;have k0:=cB l q;refine zh ?_;refine zC ?_ ?_
   ·intro a1;replace a1:q<l.length:=dT a1;rw[AR a1]at a7;have a3:=(b6 q zo).upd b0;have k2:=cu l q a1;have e1:=dY l q a1;have h0:=cB l (q+1);have a5:=a3.one;obtain⟨T2,e3,i8⟩:=b1.bound;refine zh ?_;refine zv (af (us:=aV (nth ys q)) (fun j u hu=>c6.cell zo hu) (J8 _) (J0 _) rfl) ?_;refine aw b1 T2 zo (Jo _) rfl ?_;intro yb w3 O3 a8 a' g4 e6;refine zsb (us:=#[nI (nth ys q).1,nI (nth ys q).2.1,(nth ys q).2.2]) a8 (J0 _) (bZ a5) ?_;have g3:Ju (fun j=>j=T2) O3 w3 O3 (w3.setRow yb #[nI (nth ys q).1,nI (nth ys q).2.1,(nth ys q).2.2]):=J9 zo a8.tag rfl;obtain⟨b9,g6⟩:=FR e3 i8 a' g3 (a8.setRow (us:=#[nI (nth ys q).1,nI (nth ys q).2.1,(nth ys q).2.2]));generalize w3.setRow yb #[nI (nth ys q).1,nI (nth ys q).2.1,(nth ys q).2.2]=w4 at *;clear a8 a' g4 e6 g3;have a9:Ju (fun q=>i<=q) O2 w2 O2 w4:=aa zo O2 b9;have h4n:=h2.ext b9 hi;have e9:=b1.ext b9;have a6:=a3.ext b9;refine zh ?_;refine zvH (af (us:=aV (nth ys q)) (fun j u hu=>(g6 j u hu).c) (J8 _) (J0 _) rfl) ?_;refine zc Nj (ih (nth l q) zo B O2 w4 i nb se g2 na ta _ _ _ a b (nth ys q) _ hi e9 h4n b2 g7 d2 c5 zo (ft l q g' a1) a6) ?_;rintro _ w6 ⟨O6,d4,d5,d3,a0,a4,h6⟩;obtain⟨f5,a2⟩:=cL (nth l q) a b g2 b2 g7 d2;have d1:=gi (nth l q) a b g2 _ b2 g7 d2 c5;have f8:=a2.len;refine zh ?_
    refine zxd (q+1,O6,w6,fW (nth l q) a b g2,d4,d5,d3) (⟨a1,(b0.trans a9).trans a0,a4,h6,f5,by dsimp only;omega,by dsimp only;omega,d1.mono (by dsimp only;omega),a7⟩)
   intro e7;replace e7:¬q<l.length:=dF e7;rw[K4 zo]at a7;rw[a7,oF];refine zh ?_;refine aH rfl (⟨O2,_,_,_,b8.trans b0,b1,h2⟩)
  refine zFH rfl ((by simpa using h5)) ?_
  by_cases b':k=6\/k=7\/k=8
  ·rw[if_neg h4,if_pos b']at g5;have m6:l.length=1:=of_decide_eq_true g5;have m2:=cu l 0 zo;have a5:kidv.oneCell'=true:=j0.one;have g8:∀(w':ix),Kb w1 w'->KD Jp 109 [nP nb,nv (k,c,kidv),nI (a:Nat),nI (b:Nat)] w' fun _ w''=>NfP B O w' w'' i nb se (fW (.mk k c l) a b g) na ta:=fun w' hE=>uO b' (ih (nth l 0) zo) B O w' i nb se g na ta _ _ _ a b (k,c,kidv) M hi (e4.ext hE) (h1.ext hE hi) hw ha hb hM (by simp only[nsz];omega) j' (k5.ext hE)
   rcases b' with h6|h7|h8
   ·subst h6;refine zTH rfl rfl ?_;refine zTH rfl rfl ?_;refine zvH (af (us:=aV (6,c,kidv)) (fun j u hu=>(e8 j u hu).c) (J8 _) (J0 _) rfl) ?_;refine zc NC (g8 w1 (Jl w1)) ?_;rintro _ w6 ⟨O6,d4,d5,d3,a0,a4,h6n⟩;refine zh ?_;refine aH rfl (⟨O6,_,_,_,b8.trans a0,a4,h6n⟩)
   ·subst h7;refine zFH rfl rfl ?_;refine zTH rfl rfl ?_;refine zTH rfl rfl ?_;refine zvH (af (us:=aV (7,c,kidv)) (fun j u hu=>(e8 j u hu).c) (J8 _) (J0 _) rfl) ?_;refine zc NC (g8 w1 (Jl w1)) ?_;rintro _ w6 ⟨O6,d4,d5,d3,a0,a4,h6n⟩;refine zh ?_;refine aH rfl (⟨O6,_,_,_,b8.trans a0,a4,h6n⟩)
   subst h8;refine zFH rfl rfl ?_;refine zFH rfl rfl ?_;refine zTH rfl rfl ?_;refine zvH (af (us:=aV (8,c,kidv)) (fun j u hu=>(e8 j u hu).c) (J8 _) (J0 _) rfl) ?_;refine zc NC (g8 w1 (Jl w1)) ?_;rintro _ w6 ⟨O6,d4,d5,d3,a0,a4,h6n⟩;refine zh ?_;refine aH rfl (⟨O6,_,_,_,b8.trans a0,a4,h6n⟩)
  refine zFH rfl ((by simp;omega)) ?_;refine zFH rfl ((by simp;omega)) ?_
  refine zFH rfl ((by simp;omega)) ?_
  by_cases h9:k=9
  ·subst h9;have b4:fW (.mk 9 c l) a b g=g.free a b:=by rw[fW,if_neg h4,if_neg h5,if_neg b',if_pos rfl]
   rw[b4];refine zTH rfl rfl ?_;refine zc Mn (gj B O w1 i nb se g na ta _ _ _ a b hi e4 h1 zo (by have:=Bd.fr hM a;omega) (by have:=Bd.ks hM;omega)) ?_;rintro _ w6 ⟨O6,_,_,_,a0,a4,h6n⟩;refine zh ?_;refine aH rfl (⟨O6,_,_,_,b8.trans a0,a4,h6n⟩)
  refine aN rfl ((by simpa using h9)) ?_;rw[CJ h4 h5 b' h9];have e0:a<xs.length:=by have:=h.ks.len;omega
  have k':=hM.ls;have k9:=hM.lv a;have j1:=h1.ks.row.sl.sh;have k8:w1.drew.cell? (nA nb 1)=some lv:=h1.c1;have s0:∀W,Kb w1.drew W->W.cell? (nA xb 0)=some (nI k)/\W.cell? (nA xb 1)=some (nI c):=fun W hE=>⟨hE.cell k1.c,hE.cell j4.c⟩
  refine zh ?_;refine aG (fun W=>W.cell? (nA xb 0)=some (nI k)/\W.cell? (nA xb 1)=some (nI c)) 16 rfl zk ?_
  refine zin (s0 _ (Jl _)) fun zS=>?_
  refine zrm 0 rfl zS rfl ?_;refine zrm 1 rfl zS rfl ?_
  refine zr 2 rfl zS (fun _=>ao rfl) ?_;refine zrf 3 rfl zS rfl ?_
  refine zrf 5 rfl zS rfl ?_;refine zt 6 rfl zS (fun w1 c7=>RV.ld c7.1 rfl) ?_
  refine zrf 7 rfl zS rfl ?_;refine zt 8 rfl zS (fun w1 c7=>RV.ld c7.2 rfl) ?_
  refine zrm 9 rfl zS rfl ?_;refine zr 10 rfl zS (fun _=>aF Ij (zeroValue165 _) rfl (by first|rfl|(simp only[JD,JK];rfl)) rfl rfl) ?_
  refine bQ 4 11 IX (enc:=rj) ((k,c,b):Lf) rfl rfl zk zk zk zk (fun W hE=>LW (hE.cell k8) (isAgg157 _) rfl) s0 rfl rfl rfl zd rfl rfl rfl rfl rfl ?_;intro sv w2 j9 l4;have g1:Ju (fun _=>False) O w1 O w2:=aa (fun h=>h) O ((Jl w1).drew.trans l4);have h2:=h1.upd g1 hi fun _ _ h=>h
  have b1:=e4.upd g1;refine Jn 12 zk rfl ?_;refine aC IX h2.ls b1 j9 (by simp) rfl rfl (by simp) (by simp[JQ]) (by simp;omega) (by simp;omega) zo rfl ?_;intro b3 w3 O3 d9 a' g4;have k3:=(k1.upd g1).upd a';have j3:=(j4.upd g1).upd a';have a8:=h2.blk.upd a' hi zo;have b5:Ks O3 w3 i kv g xs:=⟨h2.ks.row.upd a' zo zo,h2.ks.len,fun q hq=>(h2.ks.fr q hq).upd a' zo zo,fun q hq=>(h2.ks.lv q hq).upd a' zo zo,h2.ks.en⟩
  refine zh ?_;refine zaf (⟨k3.c,j3.c⟩) fun zS=>?_
  refine zr 13 rfl zS (fun _=>ao rfl) ?_;refine zrf 14 rfl zS rfl ?_
  refine Jn 15 zk rfl ?_;refine aj (j:=1) a8 rfl (sizeOf157 _) d9.one rfl rfl rfl ?_
  have a9:Ju (fun q=>q=i) O3 w3 O3 (w3.setCell ⟨nb,1,none⟩ b3):=JM (fun e=>hi e.symm) a8.tag rfl;have i4:JI O3 (w3.setCell ⟨nb,1,none⟩ b3) i nb (nfC se b3 kv na ta) 160:=a8.set 1 b3;have k4:=k3.upd a9;have l6:=j3.upd a9;have d8:=d9.upd a9 zo zo;have f9:Ks O3 (w3.setCell ⟨nb,1,none⟩ b3) i kv g xs:=⟨b5.row.upd a9 zo zo,b5.len,fun q hq=>(b5.fr q hq).upd a9 zo zo,fun q hq=>(b5.lv q hq).upd a9 zo zo,b5.en⟩
  have e9:=g4.upd a9;have i7:Ju (fun q=>i<=q) O w1 O3 (w3.setCell ⟨nb,1,none⟩ b3):=((g1.mono (fun _ h=>h.elim) zo).trans (Upd.hi a' hi zo)).trans (Upd.hi a9 hi (J4 _));refine zh ?_;refine ae (⟨k4.c,l6.c⟩) ?_;generalize w3.setCell ⟨nb,1,none⟩ b3=w4 at *;have l8:w4.drew.cell? (nA nb 1)=some b3:=i4.cell 1 rfl;have l7:w4.drew.cell? (nA nb 2)=some kv:=i4.cell 2 rfl;have l5:w4.drew.cell? ((adr kv 3 a).add 1)=some (nth xs a).2.1:=f9.f1 e0;have k7:(g.ls++[((k,c,b):Lf)]).length=g.ls.length+1:=by simp
  have s4:∀W,Kb w4.drew W->W.cell? (nA nb 1)=some b3/\W.cell? (nA nb 2)=some kv:=fun W hE=>⟨hE.cell l8,hE.cell l7⟩
  refine JP zk ?_;refine zh ?_
  refine aG (fun W=>W.cell? (nA nb 1)=some b3/\W.cell? (nA nb 2)=some kv) 23 rfl zk ?_;refine zin (s4 _ (Jl _)) fun zS=>?_
  refine zrm 0 rfl zS rfl ?_;refine zr 1 rfl zS (fun _=>ao rfl) ?_
  refine zrf 2 rfl zS rfl ?_;refine zt 3 rfl zS (fun w1 c7=>RV.ld c7.2 rfl) ?_
  refine zrm 4 rfl zS rfl ?_;refine zrm 5 rfl zS rfl ?_
  refine zr 6 rfl zS (fun _=>ao rfl) ?_;refine zrf 7 rfl zS rfl ?_
  refine zt 8 rfl zS (fun w1 c7=>RV.ld c7.2 rfl) ?_;refine zrm 9 rfl zS rfl ?_
  refine zr 10 rfl zS (fun _=>ai j1 KE (Md _) rfl rfl a rfl e0) ?_;refine zrf 11 rfl zS rfl ?_
  refine zrm 13 rfl zS rfl ?_;refine zr 14 rfl zS (fun _=>ao rfl) ?_
  refine zrf 15 rfl zS rfl ?_;refine zt 16 rfl zS (fun w1 c7=>RV.ld c7.1 rfl) ?_
  refine zr 17 rfl zS (fun _=>bh d8.sl.sh Nq rfl) ?_;rw[k7];refine bQ 12 18 kL (enc:=aO) (g.ls.length+1) rfl rfl zk zk zk zk (fun W hE=>LW (hE.cell l5) (MV _) rfl) s4 rfl rfl rfl zd rfl rfl rfl rfl rfl ?_
  intro l' w5 g9 l3;have g0:Ju (fun _=>False) O3 w4 O3 w5:=aa (fun h=>h) O3 ((Jl w4).drew.trans l3);have c9:=f9.upd g0 fun _ _ _ h=>h
  have l0:=i4.upd g0 hi fun h=>h
  have f7:=d8.upd g0 zo fun h=>h
  have i9:=e9.upd g0;refine Jn 19 zk rfl ?_;refine aC kL (c9.lv a e0) i9 g9 (by simp) rfl rfl (by simp) (by simp[JQ]) (by simp;omega) (by simp;omega) zo rfl ?_;intro av w6 O6 d7 a0 a4;have d1:=l0.upd a0 hi zo;have i2:=c9.row.upd a0 zo zo;have h':=f7.upd a0 zo zo;refine zh ?_;refine zaf (⟨d1.cell 1 rfl,d1.cell 2 rfl⟩) fun zS=>?_
  refine zr 20 rfl zS (fun _=>ai j1 KE (Md _) rfl rfl a rfl e0) ?_;refine zrf 21 rfl zS rfl ?_
  refine Jn 22 zk rfl ?_;refine oi i2 a e0 1 zd (((nth xs a).1,av,(nth xs a).2.2):K3) (MC _) d7.one zo rfl rfl rfl rfl ?_
  intro w7 i1 e2;have i3:=d1.upd e2 hi zo;have h3:=h'.upd e2 zo zo;refine zh ?_;refine ae (⟨i3.cell 1 rfl,i3.cell 2 rfl⟩) ?_;have d6:∀q,q<xs.length->JZ aO 3 1 O6 w7 (i+6+2*q) (nth xs q).1 (g.fr q):=fun q hq=>((c9.fr q hq).upd a0 zo zo).upd e2 zo zo
  have f3:∀q,q<xs.length->q≠a->JZ aO 3 1 O6 w7 (i+7+2*q) (nth xs q).2.1 (g.lv q):=fun q hq m5=>((c9.lv q hq).upd a0 zo zo).upd e2 zo zo
  have f6:=d7.upd e2 zo zo;have j8:=h.ks.len;refine JP zk ?_;refine zh ?_;refine aH rfl (⟨O6,b3,kv,xs.set a ((nth xs a).1,av,(nth xs a).2.2),b8.trans (i7.trans (((g0.mono (fun _ h=>h.elim) zo).trans (Upd.hi a0 hi zo)).trans (Upd.hi e2 hi zo))),a4.upd e2,⟨i3,h3,⟨i1,by rw[Jv,iP];exact j8,fun q hq=>?_,fun q hq=>?_,fun q hq=>?_⟩⟩⟩)
  ·rw[Jv]at hq;rw[aQ e0,nz ha]
   by_cases e:q=a
   ·subst e;rw[if_pos rfl];exact d6 q hq
   rw[if_neg e];exact d6 q hq
  ·rw[Jv]at hq;rw[aQ e0,nu ha]
   by_cases e:q=a
   ·subst e;rw[if_pos rfl,if_pos rfl];exact f6
   rw[if_neg e,if_neg e];exact f3 q hq e
  rw[Jv]at hq;rw[aQ e0,AJ ha]
  by_cases e:q=a
  ·subst e;rw[if_pos rfl];exact h.ks.en q hq
  rw[if_neg e];exact h.ks.en q hq
end Go.Proofs.YtjemhjcngaokpaaGreatDoor
