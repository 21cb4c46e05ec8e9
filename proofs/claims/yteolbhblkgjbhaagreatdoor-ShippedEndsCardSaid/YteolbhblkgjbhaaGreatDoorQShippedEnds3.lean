/- Texts that the proof of this statement needs, merged and shortened. -/
import Derived.Test.YteolbhblkgjbhaaGreatDoorQShippedEnds2
open Go renaming Value->ix,World->ln,TypeId->Jr,Program->JW,Oper->Kz,Operand->KG,Exit->KW,FuncId->Lw,Edge->Lx,Act->Ly
open Nat renaming zero_le->I0,not_lt_zero->I4,le_refl->I8,eq_of_beq_eq_true->IY,beq->JD,blt->JJ,sub_self->JY,or_lt_two_pow->JZ,le_trans->K0,beq_refl->Ko,pow_lt_pow_right->KA,le_zero->KB
open List renaming mem_singleton->I1,length_set->I7,take_length->II,length_singleton->IJ,replicate->IM,append_nil->IN,mem_cons->IQ,length_append->IT,mem_range->IV,mem_append->IZ,mem_cons_of_mem->J0,map_cons->J2,length_cons->J4,all_cons->J8,getElem?_eq_some_iff->Jc,mem_filter->Jh,range->Ji,filter_append->Jj,append_assoc->Jk,all_nil->Jl,map_append->Jq,flatMap_append->Js,filter_sublist->Jt,foldl_append->JB,flatMap_cons->JC,filter_cons->JE,length_filter_le->JM,mem_append_left->JP,mem_cons_self->JS,findIdx?_eq_some_iff_getElem->JU,nodup_range->K5,range_succ->K7,nodup_cons->K8,length_nil->K9,findIdx?_eq_none_iff->Kf,mem_map->Kl,drop_of_length_le->Km,length_replicate->Kp,mem_of_mem_take->Ku,replicate_succ->KC,findIdx?_cons->KD,take_sublist->KH,nodup_append->KI,filter_congr->KJ,flatMap_nil->KL,foldl_cons->KQ,take_zero->KT,nodup_nil->KU
open Go.VL.WC renaming region->I2,seq->IG,block->JF,skip->JL,exit->KP,tail->L5,still->Ls
open Go.VL.WL renaming nil->I3,mapUpdate->J5,storeAt->JK,push->Kq,val->L0
open Go.Value renaming oneCell'->I5,bool->IX,string->Ki
open Go.Proofs.Tryz renaming underlying22->I6,sizeOf120->IL,underlying273->IP,underlying130->IR,sizeOf3->IS,isAgg120->J3,prog->J6,sizeOf170->Jf,zeroValue22->Jm,underlying276->Jv,zeroValue328->Jz,zeroValue170->JA,underlying328->JH,underlying324->JI,sizeOf328->JN,zeroValue3->JQ,zeroValue120->JR,sizeOf22->JT,sizeOf280->JV,underlying275->K2,underlying213->K4,isAgg170->Ka,call178->Kb,sizeOf283->Kc,underlying3->Kg,call177->Kk,underlying342->Kv,underlying293->Kw,underlying285->Kx,underlying118->Ky,call179->KE,underlying5->KM,sizeOf27->KN,isAgg328->KO,call184->KY,sizeOf130->L2,underlying274->Ld,zeroValue283->Lm,call230->Ln,zeroValue24->Lp,underlying9->Lq
open Go.VL.WH renaming one->I9,done->Jd
open Go.VL.Ret renaming enter->IE
open Go.VL.Ext renaming refl->IF,alloc->Lk
open Go.VL.RV renaming move->IH,assign->J9,lookup->Jo,indexAddr->Jy,load->Ke,add->Kr,lss->KK,extract->Le
open Go.VL renaming Upd->IK,RowT->J1,MapO->Jg,BlkO->Ju,Rng->JG,Ext->JX,Free->K6,Ret->Kd,Elem->Lb
open Go.VL.Upd renaming setRow->IU,set->Jn,refl->Jp
open Go.Region renaming ready->IW
open Go.Result renaming andThen_ok->J7
open Classical renaming byContradiction->Ja
open Bool renaming and_eq_true->Jb,and_true->KX
open Go.VL.RowT renaming nil->Je,freeT->L6,sl->Lo
open Go.Sem renaming run_bind->Jw,run_pure->L3
open UInt8 renaming ofNat->JO
open Go.VL.Fit renaming i64->K1
open Go.World renaming block_lt_of_cell?->Kh,cell?->KZ
open Prod.mk renaming inj->Kj
open Go.Proofs.YteolbhblkgjbhaaGreatDoor.Upd renaming hi->KF
open Go.Proofs.YteolbhblkgjbhaaGreatDoor.Bd renaming ks->KR,fr->KS
open Go.Instr renaming storeAt->KV
open Go.Proofs.YteolbhblkgjbhaaGreatDoor renaming Cell0->L1,NfO->Lh
open List.Pairwise renaming imp_of_mem->L4
open List.Sublist renaming append_left->L7
open Int renaming le_refl->L8
open Option.some renaming injEq->L9,inj->La
open Go.VL.BlkO renaming cell->Lc,upd->Ll
open Go.VL.MapO renaming upd->Li
open Go.VL.KeyL renaming int->Lj
open Go.VL.WS renaming go->Lr
open Go.VL.Rng renaming upd->Lt
open Go.IntKind renaming wrap_u8->Lu,u8->Lv
set_option maxRecDepth 10000
open Go.VL Go.Proofs Go.Proofs.Tryz
namespace Go.Proofs.YteolbhblkgjbhaaGreatDoor
theorem ff:∀(l:List Nd) (i:Nat),bI l=true->i<l.length->fe (nth l i)=true
 |[],i,_,h=>absurd h (I4 i)
 |t::r,i,hs,h=>by
  unfold bI at hs;simp only[Jb]at hs
  cases i with
  |zero=>rw[ao];exact hs.1
  |succ i=>rw[aI];exact ff r i hs.2 (by simpa using h)
theorem AC{l:List Nd}{q a b:Nat}{g:Gr}(h:q<l.length):mw (l.drop q) a b g=if q+1<l.length then mw (l.drop (q+1)) g.ks.length b (eU (nth l q) a g.ks.length g.knot)else eU (nth l q) a b g:=by
 rw[la h,mw]
 by_cases e:q+1<l.length
 ·rw[if_pos e,if_neg (by simp;omega)]
 rw[if_neg e,if_pos (by simp;omega)]
theorem AI{l:List Nd}{q a b:Nat}{g:Gr}(h:q<l.length):mz (l.drop q) a b g=mz (l.drop (q+1)) a b (eU (nth l q) a b g):=by
 rw[la h];rfl
theorem CA{l:List Nd}{a b:Nat}{g:Gr}(h:l.length=1):my l a b g=eU (nth l 0) a b g:=by
 obtain⟨t,rfl⟩:=List.length_eq_one_iff.1 h;rw[ao];rfl
def Im(t:Nd):Prop:=∀(B:Nat) (O:Nat->Nat) (w:ln) (i nb:Nat) (se:Bool) (g:Gr) (na ta lv kv:ix) (xs:List K3) (a b:Nat) (x:N3) (M:Nat),i≠0->JG B O w->Lh O w i nb se g na ta lv kv xs->WF g->a<g.ks.length->b<g.ks.length->Bd g M->M+9*nsz t<=100000000->fe t=true->Nt O w t x->
 Kd J6 179 [nP nb,nv x,nI (a:Nat),nI (b:Nat)] w fun _ w'=>NfP B O w w' i nb se (eU t a b g) na ta
theorem ui{k c:Int}{l:List Nd}(a':k=6\/k=7\/k=8)(ih:Im (nth l 0))(B:Nat)(O:Nat->Nat)(w:ln)(i nb:Nat)(se:Bool)(g:Gr)(na ta lv kv:ix)(xs:List K3)(a b:Nat)(x:N3)(M:Nat)(hi:i≠0)(hR:JG B O w)(h:Lh O w i nb se g na ta lv kv xs)(hw:WF g)(ha:a<g.ks.length)(hb:b<g.ks.length)(hM:Bd g M)(e8:M+9*nsz (.mk k c l)<=100000000)(hs:fe (.mk k c l)=true)(hn:Nt O w (.mk k c l) x):
  Kd J6 230 [nP nb,nv x,nI (a:Nat),nI (b:Nat)] w fun _ w'=>NfP B O w w' i nb se (eU (.mk k c l) a b g) na ta:=by
 obtain⟨T,d9,hT⟩:=hR.bound;have g1:=hn.kind;obtain⟨ys,d4,a5,b4,a3⟩:=hn.kids;have hx:x=(k,c,x.2.2):=hn.ones;generalize x.2.2=kidv at *;subst hx;unfold fe at hs;simp only[Jb]at hs;obtain⟨b9,d5⟩:=hs;rw[if_neg zo,if_pos a']at b9;have b':l.length=1:=of_decide_eq_true b9;have g0:ys.length=1:=by rw[<-b4];exact b'
 have b5:eU (.mk k c l) a b g=layO k (eU (nth l 0) g.ks.length (g.ks.length+1) (bu g a b)) g.ks.length:=by
  rw[eU,if_neg zo,if_neg zo,if_pos a',CA b'];rfl
 have g4:=cG l 0 zo;simp only[nsz]at e8;rw[b5];refine IE func230 ntmps230 rfl rfl ?_;refine zh ?_;refine aH hR T zo rfl rfl ?_;intro xb w1 O1 c8 b1 b6 b7;obtain⟨b8,c5⟩:=Fm d9 hT b1 (Jp zo _ _) c8;clear c8 b1 b6 b7;have h1:=h.ext b8 hi;have b6:=hR.ext b8;have k1:L1 O w1 (nA xb 0) (nI k):=c5 0 _ rfl;have v1:L1 O w1 (nA xb 2) kidv:=c5 2 _ rfl;have b1:IK (fun q=>i<=q) O w O w1:=aa zo O b8;refine zh ?_;refine zc Kk (iq B O w1 i nb se g na ta _ _ _ hi b6 h1 (by have:=hM.ks;omega)) ?_;rintro _ w2 ⟨rfl,O2,f7,f',f4,d2,e6,h2⟩;refine zh ?_;have e1:=aE g;refine zc Kk (iq B O2 w2 i nb se g.knot na ta _ _ _ hi e6 h2 (by have:=hM.ks;omega)) ?_;rintro _ w3 ⟨rfl,O3,f6,f9,f3,d1,e5,h3⟩;rw[e1];have e2:=aE g.knot;refine zh ?_;refine zc Kb (fW B O3 w3 i nb se g.knot.knot na ta _ _ _ a g.ks.length hi e5 h3 zo (by have:=KS (hM.knot.knot) a;omega) (by have:=KR (hM.knot.knot);omega)) ?_;rintro _ w4 ⟨O4,_,_,_,d0,e4,h4⟩;have e3:=aO g.knot.knot a g.ks.length;refine zh ?_;refine zc Kb (fW B O4 w4 i nb se (g.knot.knot.free a g.ks.length) na ta _ _ _ (g.ks.length+1) b hi e4 h4 zo (by have:=KS (hM.knot.knot.free (a:=a) (b:=g.ks.length) zo) (g.ks.length+1);omega) (by have:=KR (hM.knot.knot.free (a:=a) (b:=g.ks.length) zo);omega)) ?_;rintro _ w5 ⟨O5,_,_,_,c',e0,h5⟩;have a0:=(((b1.trans d2).trans d1).trans d0).trans c';have a7:=((d2.trans d1).trans d0).trans c'
 have e9:Lh O5 w5 i nb se (bu g a b) na ta _ _ _:=h5;have b3:=et hw ha hb;have g3:=dH g a b;have c6:=hM.often (b:=b) ha;have k5:=k1.upd a7;have v5:=v1.upd a7;have a1:=d4.upd a5 a0;have a4:=(a3 0 zo).upd a0;refine zh ?_;refine zv (RV.ld v5.c rfl) ?_;refine zv (Jy a1 Ky (IL _) rfl rfl 0 rfl zo) ?_;refine zvH (ah (us:=bt (nth ys 0)) (fun j u hu=>a1.cell zo hu) (J3 _) (IL _) rfl) ?_;refine zc KE (ih B O5 w5 i nb se (bu g a b) na ta _ _ _ g.ks.length (g.ks.length+1) (nth ys 0) (M+4) hi e0 e9 b3 zo zo c6 zo (ff l 0 d5 zo) a4) ?_;rintro _ w6 ⟨O6,f5,f8,e',c9,d3,h6⟩;obtain⟨g2,a2⟩:=bU (nth l 0) g.ks.length (g.ks.length+1) (bu g a b) b3 zo zo;have a6:=fV (nth l 0) g.ks.length (g.ks.length+1) (bu g a b) (M+4) b3 zo zo c6;have d7:=a2.len;generalize eU (nth l 0) g.ks.length (g.ks.length+1) (bu g a b)=g6 at *;have a9:=a0.trans c9;have k6:=k5.upd c9;refine zh ?_;refine zvH (RV.ld k6.c rfl) ?_
 by_cases h7:k=7
 ·subst h7;refine zFH rfl rfl ?_;refine zvH (RV.ld k6.c rfl) ?_;refine zTH rfl rfl ?_;refine zc Kb (fW B O6 w6 i nb se g6 na ta _ _ _ (g.ks.length+1) g.ks.length hi d3 h6 zo (by have:=KS a6 (g.ks.length+1);omega) (by have:=KR a6;omega)) ?_;rintro _ w7 ⟨O7,_,_,_,b0,b2,h7⟩;refine zh ?_;refine aD rfl (⟨O7,_,_,_,a9.trans b0,b2,h7⟩)
 refine zTH rfl ((by simpa using h7)) ?_;refine zc Kb (fW B O6 w6 i nb se g6 na ta _ _ _ g.ks.length (g.ks.length+1) hi d3 h6 zo (by have:=KS a6 g.ks.length;omega) (by have:=KR a6;omega)) ?_
 rintro _ w7 ⟨O7,_,_,_,b0,b2,h7n⟩;have a8:=a9.trans b0;have k7:=k6.upd b0;refine zh ?_;refine zvH (RV.ld k7.c rfl) ?_
 by_cases h8:k=8
 ·subst h8;refine zFH rfl rfl ?_;refine aD rfl (⟨O7,_,_,_,a8,b2,h7n⟩)
 refine aS rfl ((by simpa using h8)) ?_;have d6:layO k g6 g.ks.length=(g6.free g.ks.length (g.ks.length+1)).free (g.ks.length+1) g.ks.length:=by unfold layO;rw[if_neg h8,if_neg h7]
 rw[d6];have c7:=a6.free (a:=g.ks.length) (b:=g.ks.length+1) zo;have e7:=aO g6 g.ks.length (g.ks.length+1);refine zh ?_;refine zc Kb (fW B O7 w7 i nb se (g6.free g.ks.length (g.ks.length+1)) na ta _ _ _ (g.ks.length+1) g.ks.length hi b2 h7n zo (by have:=KS c7 (g.ks.length+1);omega) (by have:=KR c7;omega)) ?_;rintro _ w8 ⟨O8,_,_,_,d8,d',h8n⟩;refine zh ?_;refine aD rfl (⟨O8,_,_,_,a8.trans d8,d',h8n⟩)
theorem Cx{k c:Int}{l:List Nd}(h4:k≠4)(h5:k≠5)(a0:¬(k=6\/k=7\/k=8))(h9:k≠9)(a b:Nat)(g:Gr):eU (.mk k c l) a b g=g.leaf k c a b:=by
 rw[eU,if_neg h4,if_neg h5,if_neg a0,if_neg h9]
theorem AB:∀(n:Nat) (t:Nd),nsz t<=n->Im t
 |0,t,ht=>by have:=ew t;omega
 |n+1,.mk k c l,ht=>by
  intro B O w i nb se g na ta lv kv xs a b x M hi hR h hw ha hb hM l2 hs hn;have ih:=fun(t:Nd) (e:nsz t<=n)=>AB n t e
  have j':=hs;have k6:=hn;obtain⟨T,l1,hT⟩:=hR.bound;obtain⟨ys,j0,f',i0,d'⟩:=hn.kids;have hx:x=(k,c,x.2.2):=hn.ones;generalize x.2.2=kidv at *;subst hx;unfold fe at hs;simp only[Jb]at hs;obtain⟨g5,g'⟩:=hs;simp only[nsz]at l2 ht
  change l.length=ys.length at i0
  change ∀i,i<ys.length->Nt O w (nth l i) (nth ys i)at d'
  have m4:=ij l;refine IE func179 ntmps179 rfl rfl ?_;refine zh ?_;refine aH hR T zo rfl rfl ?_;intro xb w1 O1 j2 b8 e4 i';obtain⟨e',e8⟩:=Fm l1 hT b8 (Jp zo _ _) j2;clear j2 b8 e4 i';have h1:=h.ext e' hi;have e4:=hR.ext e';have k1:L1 O w1 (nA xb 0) (nI k):=e8 0 _ rfl;have j4:L1 O w1 (nA xb 1) (nI c):=e8 1 _ rfl;have v1:L1 O w1 (nA xb 2) kidv:=e8 2 _ rfl;have b8:IK (fun q=>i<=q) O w O w1:=aa zo O e';have f4:=j0.ext e';have b7:=f'.upd b8;have k5:Nt O w1 (.mk k c l) (k,c,kidv):=k6.ext e';have b6:=fun q hq=>(d' q hq).ext e'
  refine zh ?_;refine zvH (RV.ld k1.c rfl) ?_
  by_cases h4:k=4
  ·subst h4;rw[if_pos rfl]at g5;have b4:eU (.mk 4 c l) a b g=mw l a b g:=by rw[eU,if_pos rfl]
   rw[b4];refine zTH rfl rfl ?_;refine zvH (RV.ld v1.c rfl) ?_;refine zlp (fun z:Nat×Nat×(Nat->Nat)×World×Gr×ix×ix×List K3=>[(0,nP nb),(2,nI z.2.1),(3,nI b),(5,nP xb),(55,kidv),(56,nI ys.length),(57,nI z.1)]) (fun z=>z.2.2.2.1) (fun z=>z.1<=l.length/\IK (fun q=>i<=q) O w1 z.2.2.1 z.2.2.2.1/\JG B z.2.2.1 z.2.2.2.1/\Lh z.2.2.1 z.2.2.2.1 i nb se z.2.2.2.2.1 na ta z.2.2.2.2.2.1 z.2.2.2.2.2.2.1 z.2.2.2.2.2.2.2/\WF z.2.2.2.2.1/\z.2.1<z.2.2.2.2.1.ks.length/\b<z.2.2.2.2.1.ks.length/\Bd z.2.2.2.2.1 (M+9*ez (l.take z.1))/\mw l a b g=(if z.1<l.length then mw (l.drop z.1) z.2.1 b z.2.2.2.2.1 else z.2.2.2.2.1)) (fun z=>l.length-z.1) (0,a,O,w1,g,lv,kv,xs) (⟨I0 _,Jp zo _ _,e4,h1,hw,ha,hb,by simpa[ez]using hM,by dsimp only;rw[if_pos (by cases l;simp at g5;simp),List.drop_zero]⟩) ?_;rintro⟨q,fr,O2,w2,g2,j6,j7,j5⟩ ⟨hq,b0,b1,h2,b2,d0,d2,c5,a7⟩;dsimp only at hq b0 b1 h2 b2 d0 d2 c5 a7 ⊢;have c6:=f4.upd b7 b0;have v2:=v1.upd b0;have k0:=cJ l q;refine zh ?_;refine zC ?_ ?_
   ·intro a1;replace a1:q<l.length:=dT a1;rw[if_pos a1,AC a1]at a7;have a3:=(b6 q zo).upd b0;have k2:=cG l q a1;have e1:=ey l q a1;have h0:=cJ l (q+1);have a5:=a3.one;obtain⟨T2,e3,i8⟩:=b1.bound;refine zh ?_;refine zv (ah (us:=bt (nth ys q)) (fun j u hu=>c6.cell zo hu) (J3 _) (IL _) rfl) ?_;refine au b1 T2 zo (JR _) rfl ?_;intro yb w3 O3 a8 a' g4 e6;refine zh ?_;refine zsb (us:=#[nI (nth ys q).1,nI (nth ys q).2.1,(nth ys q).2.2]) a8 (IL _) (bX a5) ?_;have g3:IK (fun j=>j=T2) O3 w3 O3 (w3.setRow yb #[nI (nth ys q).1,nI (nth ys q).2.1,(nth ys q).2.2]):=IU zo a8.tag rfl;obtain⟨b9,g6⟩:=Fm e3 i8 a' g3 (a8.setRow (us:=#[nI (nth ys q).1,nI (nth ys q).2.1,(nth ys q).2.2]));generalize w3.setRow yb #[nI (nth ys q).1,nI (nth ys q).2.1,(nth ys q).2.2]=w4 at *;clear a8 a' g4 e6 g3;have a9:IK (fun q=>i<=q) O2 w2 O2 w4:=aa zo O2 b9;have h4n:=h2.ext b9 hi;have e9:=b1.ext b9;have v4:=v2.ext b9;have a6:=a3.ext b9;refine zh ?_;refine zv (RV.ld v4.c rfl) ?_;refine zvH (RV.len (by first|exact c6.ext b9) Ky rfl) ?_;refine zC ?_ ?_
    ·intro c8;replace c8:q+1<l.length:=dT c8;rw[if_pos c8]at a7;refine zh ?_;refine zc Kk (iq B O2 w4 i nb se g2 na ta _ _ _ hi e9 h4n (by have:=c5.ks;omega)) ?_;rintro _ w5 ⟨rfl,O5,m0,m1,l9,i5,i9,h5⟩;have i6:=a9.trans i5;have e5:=aE g2;refine zh ?_;refine zvH (ah (us:=bt (nth ys q)) (fun j u hu=>((g6 j u hu).upd i5).c) (J3 _) (IL _) rfl) ?_;refine zc KE (ih (nth l q) zo B O5 w5 i nb se g2.knot na ta _ _ _ fr g2.ks.length (nth ys q) _ hi i9 h5 b2.knot zo zo c5.knot zo (ff l q g' a1) (a6.upd i5)) ?_;rintro _ w6 ⟨O6,d4,d5,d3,a0,a4,h6⟩;obtain⟨f5,a2⟩:=bU (nth l q) fr g2.ks.length g2.knot b2.knot zo zo;have d1:=fV (nth l q) fr g2.ks.length g2.knot _ b2.knot zo zo c5.knot;have f8:=a2.len;have m3:=ew (nth l q);refine zh ?_;refine zxd (q+1,g2.ks.length,O6,w6,eU (nth l q) fr g2.ks.length g2.knot,d4,d5,d3) (⟨a1,(b0.trans i6).trans a0,a4,h6,f5,by dsimp only;omega,by dsimp only;omega,d1.mono (by dsimp only;omega),by dsimp only;rw[if_pos c8];exact a7⟩)
    intro c';replace c':¬q+1<l.length:=by have:=of_decide_eq_false c';omega
    rw[if_neg c']at a7;refine zh ?_;refine zvH (ah (us:=bt (nth ys q)) (fun j u hu=>(g6 j u hu).c) (J3 _) (IL _) rfl) ?_;refine zc KE (ih (nth l q) zo B O2 w4 i nb se g2 na ta _ _ _ fr b (nth ys q) _ hi e9 h4n b2 d0 d2 c5 zo (ff l q g' a1) a6) ?_;rintro _ w6 ⟨O6,d4,d5,d3,a0,a4,h6⟩;obtain⟨f5,a2⟩:=bU (nth l q) fr b g2 b2 d0 d2;have d1:=fV (nth l q) fr b g2 _ b2 d0 d2 c5;have f8:=a2.len;refine zh ?_;refine zxd (q+1,b,O6,w6,eU (nth l q) fr b g2,d4,d5,d3) (⟨a1,(b0.trans a9).trans a0,a4,h6,f5,by dsimp only;omega,by dsimp only;omega,d1.mono (by dsimp only;omega),by dsimp only;rw[if_neg c'];exact a7⟩)
   intro e7;replace e7:¬q<l.length:=dF e7;rw[if_neg e7]at a7;rw[a7];refine zh ?_;refine aD rfl (⟨O2,_,_,_,b8.trans b0,b1,h2⟩)
  refine zFH rfl ((by simpa using h4)) ?_
  by_cases h5:k=5
  ·subst h5;have b4:eU (.mk 5 c l) a b g=mz l a b g:=by rw[eU,if_neg h4,if_pos rfl]
   rw[b4];refine zTH rfl rfl ?_;refine zvH (RV.ld v1.c rfl) ?_;refine zlp (fun z:Nat×(Nat->Nat)×World×Gr×ix×ix×List K3=>[(0,nP nb),(2,nI a),(3,nI b),(81,kidv),(82,nI ys.length),(83,nI z.1)]) (fun z=>z.2.2.1) (fun z=>z.1<=l.length/\IK (fun q=>i<=q) O w1 z.2.1 z.2.2.1/\JG B z.2.1 z.2.2.1/\Lh z.2.1 z.2.2.1 i nb se z.2.2.2.1 na ta z.2.2.2.2.1 z.2.2.2.2.2.1 z.2.2.2.2.2.2/\WF z.2.2.2.1/\a<z.2.2.2.1.ks.length/\b<z.2.2.2.1.ks.length/\Bd z.2.2.2.1 (M+9*ez (l.take z.1))/\mz l a b g=mz (l.drop z.1) a b z.2.2.2.1) (fun z=>l.length-z.1) (0,O,w1,g,lv,kv,xs) (⟨I0 _,Jp zo _ _,e4,h1,hw,ha,hb,by simpa[ez]using hM,rfl⟩) ?_;rintro⟨q,O2,w2,g2,j6,j7,j5⟩ ⟨hq,b0,b1,h2,b2,g7,d2,c5,a7⟩;dsimp only at hq b0 b1 h2 b2 g7 d2 c5 a7 ⊢;have c6:=f4.upd b7 b0;have k0:=cJ l q;refine zh ?_;refine zC ?_ ?_
   ·intro a1;replace a1:q<l.length:=dT a1;rw[AI a1]at a7;have a3:=(b6 q zo).upd b0;have k2:=cG l q a1;have e1:=ey l q a1;have h0:=cJ l (q+1);have a5:=a3.one;obtain⟨T2,e3,i8⟩:=b1.bound;refine zh ?_;refine zv (ah (us:=bt (nth ys q)) (fun j u hu=>c6.cell zo hu) (J3 _) (IL _) rfl) ?_;refine au b1 T2 zo (JR _) rfl ?_;intro yb w3 O3 a8 a' g4 e6;refine zsb (us:=#[nI (nth ys q).1,nI (nth ys q).2.1,(nth ys q).2.2]) a8 (IL _) (bX a5) ?_;have g3:IK (fun j=>j=T2) O3 w3 O3 (w3.setRow yb #[nI (nth ys q).1,nI (nth ys q).2.1,(nth ys q).2.2]):=IU zo a8.tag rfl;obtain⟨b9,g6⟩:=Fm e3 i8 a' g3 (a8.setRow (us:=#[nI (nth ys q).1,nI (nth ys q).2.1,(nth ys q).2.2]));generalize w3.setRow yb #[nI (nth ys q).1,nI (nth ys q).2.1,(nth ys q).2.2]=w4 at *;clear a8 a' g4 e6 g3;have a9:IK (fun q=>i<=q) O2 w2 O2 w4:=aa zo O2 b9;have h4n:=h2.ext b9 hi;have e9:=b1.ext b9;have a6:=a3.ext b9;refine zh ?_;refine zvH (ah (us:=bt (nth ys q)) (fun j u hu=>(g6 j u hu).c) (J3 _) (IL _) rfl) ?_;refine zc KE (ih (nth l q) zo B O2 w4 i nb se g2 na ta _ _ _ a b (nth ys q) _ hi e9 h4n b2 g7 d2 c5 zo (ff l q g' a1) a6) ?_;rintro _ w6 ⟨O6,d4,d5,d3,a0,a4,h6⟩;obtain⟨f5,a2⟩:=bU (nth l q) a b g2 b2 g7 d2;have d1:=fV (nth l q) a b g2 _ b2 g7 d2 c5;have f8:=a2.len;refine zh ?_
    refine zxd (q+1,O6,w6,eU (nth l q) a b g2,d4,d5,d3) (⟨a1,(b0.trans a9).trans a0,a4,h6,f5,by dsimp only;omega,by dsimp only;omega,d1.mono (by dsimp only;omega),a7⟩)
   intro e7;replace e7:¬q<l.length:=dF e7;rw[Km zo]at a7;rw[a7,mz];refine zh ?_;refine aD rfl (⟨O2,_,_,_,b8.trans b0,b1,h2⟩)
  refine zFH rfl ((by simpa using h5)) ?_
  by_cases b':k=6\/k=7\/k=8
  ·rw[if_neg h4,if_pos b']at g5;have m6:l.length=1:=of_decide_eq_true g5;have m2:=cG l 0 zo;have a5:kidv.oneCell'=true:=j0.one;have g8:∀(w':ln),JX w1 w'->Kd J6 230 [nP nb,nv (k,c,kidv),nI (a:Nat),nI (b:Nat)] w' fun _ w''=>NfP B O w' w'' i nb se (eU (.mk k c l) a b g) na ta:=fun w' hE=>ui b' (ih (nth l 0) zo) B O w' i nb se g na ta _ _ _ a b (k,c,kidv) M hi (e4.ext hE) (h1.ext hE hi) hw ha hb hM (by simp only[nsz];omega) j' (k5.ext hE)
   rcases b' with h6|h7|h8
   ·subst h6;refine zTH rfl rfl ?_;refine zTH rfl rfl ?_;refine zvH (ah (us:=bt (6,c,kidv)) (fun j u hu=>(e8 j u hu).c) (J3 _) (IL _) rfl) ?_;refine zc Ln (g8 w1 (IF w1)) ?_;rintro _ w6 ⟨O6,d4,d5,d3,a0,a4,h6n⟩;refine zh ?_;refine aD rfl (⟨O6,_,_,_,b8.trans a0,a4,h6n⟩)
   ·subst h7;refine zFH rfl rfl ?_;refine zTH rfl rfl ?_;refine zTH rfl rfl ?_;refine zvH (ah (us:=bt (7,c,kidv)) (fun j u hu=>(e8 j u hu).c) (J3 _) (IL _) rfl) ?_;refine zc Ln (g8 w1 (IF w1)) ?_;rintro _ w6 ⟨O6,d4,d5,d3,a0,a4,h6n⟩;refine zh ?_;refine aD rfl (⟨O6,_,_,_,b8.trans a0,a4,h6n⟩)
   subst h8;refine zFH rfl rfl ?_;refine zFH rfl rfl ?_;refine zTH rfl rfl ?_;refine zvH (ah (us:=bt (8,c,kidv)) (fun j u hu=>(e8 j u hu).c) (J3 _) (IL _) rfl) ?_;refine zc Ln (g8 w1 (IF w1)) ?_;rintro _ w6 ⟨O6,d4,d5,d3,a0,a4,h6n⟩;refine zh ?_;refine aD rfl (⟨O6,_,_,_,b8.trans a0,a4,h6n⟩)
  refine zFH rfl ((by simp;omega)) ?_;refine zFH rfl ((by simp;omega)) ?_
  refine zFH rfl ((by simp;omega)) ?_
  by_cases h9:k=9
  ·subst h9;have b4:eU (.mk 9 c l) a b g=g.free a b:=by rw[eU,if_neg h4,if_neg h5,if_neg b',if_pos rfl]
   rw[b4];refine zTH rfl rfl ?_;refine zc Kb (fW B O w1 i nb se g na ta _ _ _ a b hi e4 h1 zo (by have:=KS hM a;omega) (by have:=KR hM;omega)) ?_;rintro _ w6 ⟨O6,_,_,_,a0,a4,h6n⟩;refine zh ?_;refine aD rfl (⟨O6,_,_,_,b8.trans a0,a4,h6n⟩)
  refine aT rfl ((by simpa using h9)) ?_;rw[Cx h4 h5 b' h9];have e0:a<xs.length:=by have:=h.ks.len;omega
  have k':=hM.ls;have k9:=hM.lv a;have j1:=h1.ks.row.sl.sh;have k8:w1.drew.cell? (nA nb 1)=some lv:=h1.c1;have s0:∀W,JX w1.drew W->W.cell? (nA xb 0)=some (nI k)/\W.cell? (nA xb 1)=some (nI c):=fun W hE=>⟨hE.cell k1.c,hE.cell j4.c⟩
  refine zh ?_;refine aK (fun W=>W.cell? (nA xb 0)=some (nI k)/\W.cell? (nA xb 1)=some (nI c)) 16 rfl zk ?_
  refine zin (s0 _ (IF _)) fun zS=>?_
  refine zrm 0 rfl zS rfl ?_;refine zrm 1 rfl zS rfl ?_
  refine zr 2 rfl zS (fun _=>ak rfl) ?_;refine zrf 3 rfl zS rfl ?_
  refine zrf 5 rfl zS rfl ?_;refine zt 6 rfl zS (fun w1 c7=>RV.ld c7.1 rfl) ?_
  refine zrf 7 rfl zS rfl ?_;refine zt 8 rfl zS (fun w1 c7=>RV.ld c7.2 rfl) ?_
  refine zrm 9 rfl zS rfl ?_;refine zr 10 rfl zS (fun _=>aF GG (Lm _) rfl (by first|rfl|(simp only[J8,Jl];rfl)) rfl rfl) ?_
  refine bN 4 11 Ij (enc:=qE) ((k,c,b):Lf) rfl rfl zk zk zk zk (fun W hE=>Ke (hE.cell k8) (isAgg275 _) rfl) s0 rfl rfl rfl zd rfl rfl rfl rfl rfl ?_;intro sv w2 j9 l4;have g1:IK (fun _=>False) O w1 O w2:=aa (fun h=>h) O ((IF w1).drew.trans l4);have h2:=h1.upd g1 hi fun _ _ h=>h
  have b1:=e4.upd g1;refine I9 12 zk rfl ?_;refine aB Ij h2.ls b1 j9 (by simp) rfl rfl (by simp) (by simp[I5]) (by simp;omega) (by simp;omega) zo rfl ?_;intro b3 w3 O3 d9 a' g4;have k3:=(k1.upd g1).upd a';have j3:=(j4.upd g1).upd a';have a8:=h2.blk.upd a' hi zo;have b5:Ks O3 w3 i kv g xs:=⟨h2.ks.row.upd a' zo zo,h2.ks.len,fun q hq=>(h2.ks.fr q hq).upd a' zo zo,fun q hq=>(h2.ks.lv q hq).upd a' zo zo,h2.ks.en⟩
  refine zh ?_;refine zaf (⟨k3.c,j3.c⟩) fun zS=>?_
  refine zr 13 rfl zS (fun _=>ak rfl) ?_;refine zrf 14 rfl zS rfl ?_
  refine I9 15 zk rfl ?_;refine aj (j:=1) a8 rfl (sizeOf275 _) d9.one rfl rfl rfl ?_
  have a9:IK (fun q=>q=i) O3 w3 O3 (w3.setCell ⟨nb,1,none⟩ b3):=Jn (fun e=>hi e.symm) a8.tag rfl;have i4:Ju O3 (w3.setCell ⟨nb,1,none⟩ b3) i nb (nfC se b3 kv na ta) 278:=a8.set 1 b3;have k4:=k3.upd a9;have l6:=j3.upd a9;have d8:=d9.upd a9 zo zo;have f9:Ks O3 (w3.setCell ⟨nb,1,none⟩ b3) i kv g xs:=⟨b5.row.upd a9 zo zo,b5.len,fun q hq=>(b5.fr q hq).upd a9 zo zo,fun q hq=>(b5.lv q hq).upd a9 zo zo,b5.en⟩
  have e9:=g4.upd a9;have i7:IK (fun q=>i<=q) O w1 O3 (w3.setCell ⟨nb,1,none⟩ b3):=((g1.mono (fun _ h=>h.elim) zo).trans (KF a' hi zo)).trans (KF a9 hi (I8 _));refine zh ?_;refine af (⟨k4.c,l6.c⟩) ?_;generalize w3.setCell ⟨nb,1,none⟩ b3=w4 at *;have l8:w4.drew.cell? (nA nb 1)=some b3:=i4.cell 1 rfl;have l7:w4.drew.cell? (nA nb 2)=some kv:=i4.cell 2 rfl;have l5:w4.drew.cell? ((adr kv 3 a).add 1)=some (nth xs a).2.1:=f9.f1 e0;have k7:(g.ls++[((k,c,b):Lf)]).length=g.ls.length+1:=by simp
  have s4:∀W,JX w4.drew W->W.cell? (nA nb 1)=some b3/\W.cell? (nA nb 2)=some kv:=fun W hE=>⟨hE.cell l8,hE.cell l7⟩
  refine Jd zk ?_;refine zh ?_
  refine aK (fun W=>W.cell? (nA nb 1)=some b3/\W.cell? (nA nb 2)=some kv) 23 rfl zk ?_;refine zin (s4 _ (IF _)) fun zS=>?_
  refine zrm 0 rfl zS rfl ?_;refine zr 1 rfl zS (fun _=>ak rfl) ?_
  refine zrf 2 rfl zS rfl ?_;refine zt 3 rfl zS (fun w1 c7=>RV.ld c7.2 rfl) ?_
  refine zrm 4 rfl zS rfl ?_;refine zrm 5 rfl zS rfl ?_
  refine zr 6 rfl zS (fun _=>ak rfl) ?_;refine zrf 7 rfl zS rfl ?_
  refine zt 8 rfl zS (fun w1 c7=>RV.ld c7.2 rfl) ?_;refine zrm 9 rfl zS rfl ?_
  refine zr 10 rfl zS (fun _=>az j1 Jv (JV _) rfl rfl a rfl e0) ?_;refine zrf 11 rfl zS rfl ?_
  refine zrm 13 rfl zS rfl ?_;refine zr 14 rfl zS (fun _=>ak rfl) ?_
  refine zrf 15 rfl zS rfl ?_;refine zt 16 rfl zS (fun w1 c7=>RV.ld c7.1 rfl) ?_
  refine zr 17 rfl zS (fun _=>bj d8.sl.sh K2 rfl) ?_;rw[k7];refine bN 12 18 ke (enc:=aR) (g.ls.length+1) rfl rfl zk zk zk zk (fun W hE=>Ke (hE.cell l5) (isAgg22 _) rfl) s4 rfl rfl rfl zd rfl rfl rfl rfl rfl ?_
  intro l' w5 g9 l3;have g0:IK (fun _=>False) O3 w4 O3 w5:=aa (fun h=>h) O3 ((IF w4).drew.trans l3);have c9:=f9.upd g0 fun _ _ _ h=>h
  have l0:=i4.upd g0 hi fun h=>h
  have f7:=d8.upd g0 zo fun h=>h
  have i9:=e9.upd g0;refine I9 19 zk rfl ?_;refine aB ke (c9.lv a e0) i9 g9 (by simp) rfl rfl (by simp) (by simp[I5]) (by simp;omega) (by simp;omega) zo rfl ?_;intro av w6 O6 d7 a0 a4;have d1:=l0.upd a0 hi zo;have i2:=c9.row.upd a0 zo zo;have h':=f7.upd a0 zo zo;refine zh ?_;refine zaf (⟨d1.cell 1 rfl,d1.cell 2 rfl⟩) fun zS=>?_
  refine zr 20 rfl zS (fun _=>az j1 Jv (JV _) rfl rfl a rfl e0) ?_;refine zrf 21 rfl zS rfl ?_
  refine I9 22 zk rfl ?_;refine nL i2 a e0 1 zd (((nth xs a).1,av,(nth xs a).2.2):K3) (JT _) d7.one zo rfl rfl rfl rfl ?_
  intro w7 i1 e2;have i3:=d1.upd e2 hi zo;have h3:=h'.upd e2 zo zo;refine zh ?_;refine af (⟨i3.cell 1 rfl,i3.cell 2 rfl⟩) ?_;have d6:∀q,q<xs.length->J1 aR 3 1 O6 w7 (i+6+2*q) (nth xs q).1 (g.fr q):=fun q hq=>((c9.fr q hq).upd a0 zo zo).upd e2 zo zo
  have f3:∀q,q<xs.length->q≠a->J1 aR 3 1 O6 w7 (i+7+2*q) (nth xs q).2.1 (g.lv q):=fun q hq m5=>((c9.lv q hq).upd a0 zo zo).upd e2 zo zo
  have f6:=d7.upd e2 zo zo;have j8:=h.ks.len;refine Jd zk ?_;refine zh ?_;refine aD rfl (⟨O6,b3,kv,xs.set a ((nth xs a).1,av,(nth xs a).2.2),b8.trans (i7.trans (((g0.mono (fun _ h=>h.elim) zo).trans (KF a0 hi zo)).trans (KF e2 hi zo))),a4.upd e2,⟨i3,h3,⟨i1,by rw[I7,fT];exact j8,fun q hq=>?_,fun q hq=>?_,fun q hq=>?_⟩⟩⟩)
  ·rw[I7]at hq;rw[aW e0,mZ ha]
   by_cases e:q=a
   ·subst e;rw[if_pos rfl];exact d6 q hq
   rw[if_neg e];exact d6 q hq
  ·rw[I7]at hq;rw[aW e0,kV ha]
   by_cases e:q=a
   ·subst e;rw[if_pos rfl,if_pos rfl];exact f6
   rw[if_neg e,if_neg e];exact f3 q hq e
  rw[I7]at hq;rw[aW e0,AA ha]
  by_cases e:q=a
  ·subst e;rw[if_pos rfl];exact h.ks.en q hq
  rw[if_neg e];exact h.ks.en q hq
structure NfR(w:ln)(nb:Nat)(se:Bool)(g:Gr)(na ta lv kv:ix)(xs:List K3):Prop where
 c0:w.cell? (nA nb 0)=some (.bool se)
 c1:w.cell? (nA nb 1)=some lv
 c2:w.cell? (nA nb 2)=some kv
 c3:w.cell? (nA nb 3)=some na
 c4:w.cell? (nA nb 4)=some ta
 ls:Sl qE 3 w lv g.ls
 ks:Sl F6 3 w kv xs
 len:xs.length=g.ks.length
 fr:∀k,k<xs.length->Sl aR 1 w (nth xs k).1 (g.fr k)
 lv:∀k,k<xs.length->Sl aR 1 w (nth xs k).2.1 (g.lv k)
 en:∀k,k<xs.length->(nth xs k).2.2=g.en k
section
variable{O:Nat→Nat}{w w':ln}{i nb:Nat}{se:Bool}{g:Gr}{na ta lv kv:ix}{xs:List K3}
theorem NfO.r(h:Lh O w i nb se g na ta lv kv xs):NfR w nb se g na ta lv kv xs:=⟨h.c0,h.c1,h.c2,h.c3,h.c4,h.ls.sl,h.ks.row.sl,h.ks.len,fun k hk=>(h.ks.fr k hk).sl,fun k hk=>(h.ks.lv k hk).sl,h.ks.en⟩
theorem NfR.ext(h:NfR w nb se g na ta lv kv xs)(e:JX w w'):NfR w' nb se g na ta lv kv xs:=⟨e.cell h.c0,e.cell h.c1,e.cell h.c2,e.cell h.c3,e.cell h.c4,h.ls.ext e,h.ks.ext e,h.len,fun k hk=>(h.fr k hk).ext e,fun k hk=>(h.lv k hk).ext e,h.en⟩
theorem NfR.f0(h:NfR w nb se g na ta lv kv xs){k:Nat}(hk:k<xs.length):w.cell? ((adr kv 3 k).add 0)=some (nth xs k).1:=h.ks.cell (j:=0) hk rfl
theorem NfR.f1(h:NfR w nb se g na ta lv kv xs){k:Nat}(hk:k<xs.length):w.cell? ((adr kv 3 k).add 1)=some (nth xs k).2.1:=h.ks.cell (j:=1) hk rfl
theorem NfR.f2(h:NfR w nb se g na ta lv kv xs){k:Nat}(hk:k<xs.length):w.cell? ((adr kv 3 k).add 2)=some (nI ((g.en k:Nat):Int)):=by rw[<-h.en k hk];exact h.ks.cell (j:=2) hk rfl
end
theorem ve{l:List Nat}{f:List Nat}{j:Nat}(h:j<f.length):dC l (f.drop j)=dC (if l.contains (nth f j)then l else l++[nth f j]) (f.drop (j+1)):=by
 rw[show f.drop j=nth f j::f.drop (j+1)from by rw[aC h];exact List.drop_eq_getElem_cons h,dC]
theorem zZ(w:ln)(nb:Nat)(se:Bool)(g:Gr)(na ta lv kv:ix)(xs:List K3)(k M:Nat)(h:NfR w nb se g na ta lv kv xs)(hw:WF g)(hk:k<g.ks.length)(hM:Bd g M)(d8:M<=100000000):
  Kd J6 231 [nP nb,nI (k:Nat)] w fun v w'=>Sl aR 1 w' v (eO g k)/\JX w w'/\(eO g k).length<=M/\(∀x∈eO g k,x<g.ks.length)/\∀(B:Nat) (O:Nat->Nat),JG B O w->K6 O w' v:=by
 have d5:=h.len;have d9:=hM.ks;refine IE func231 ntmps231 rfl rfl ?_;refine zh ?_;refine bJ ke (enc:=aR) (ay w) 1 zd k rfl rfl rfl zd rfl ?_;intro v0 w0 O0 a8 d2 d4;refine zh ?_;refine zlp (fun z:Nat×List Nat×ix×(Nat->Nat)×World=>[(0,nP nb),(5,z.2.2.1),(6,nI z.1)]) (fun z=>z.2.2.2.2) (fun z=>z.1<=z.2.1.length/\Rc g k z.1 z.2.1/\J1 aR 3 1 z.2.2.2.1 z.2.2.2.2 1 z.2.2.1 z.2.1/\IK (fun q=>q=1) (fun _=>0) w z.2.2.2.1 z.2.2.2.2/\JG w.heap.size z.2.2.2.1 z.2.2.2.2/\gp g (g.ks.length-z.1) z.1 z.2.1=eO g k) (fun z=>g.ks.length-z.1) (0,[k],v0,O0,w0) (⟨I0 _,qS hk,a8,d2,d4,rfl⟩) ?_;rintro⟨i,l,b8,O1,w1⟩ ⟨hi,a5,a2,b3,b7,a'⟩;dsimp only at hi a5 a2 b3 b7 a' ⊢;have d6:=fO a5.nd a5.lt;have b':=a2.sl;refine zh ?_;refine zC ?_ ?_
 ·intro a6;replace a6:i<l.length:=dT a6;have hm:=a5.lt _ (aJ a6);have b2:nth l i<xs.length:=zo;have d7:=hM.fr (nth l i);obtain⟨d,hd⟩:∃d,g.ks.length-i=d+1:=⟨g.ks.length-i-1,zo⟩
  rw[hd,gp,if_pos a6]at a';have b1:=h.ext b3.ext;have c2:w1.drew.cell? (nA nb 2)=some kv:=b1.c2;have f0:w1.drew.cell? ((adr kv 3 (nth l i)).add 0)=some (nth xs (nth l i)).1:=b1.f0 b2;have m1:w1.drew.cell? (adr b8 1 i)=some (nI ((nth l i:Nat):Int)):=by have:=b'.cell (j:=0) a6 rfl;rwa[ax]at this
  have c':=(b1.fr _ b2).drew;refine zh ?_;refine Ls zk zk ?_;refine zh ?_;refine zwH (az b1.ks.sh Jv (JV _) rfl rfl (nth l i) rfl b2) ?_;refine zwH (bj c'.sh I6 rfl) ?_;refine WS.nil ?_;refine zh ?_;refine zlp (fun y:Nat×List Nat×ix×(Nat->Nat)×World=>[(0,nP nb),(5,y.2.2.1),(6,nI i),(27,(nth xs (nth l i)).1),(28,nI (g.fr (nth l i)).length),(29,nI y.1)]) (fun y=>y.2.2.2.2) (fun y=>y.1<=(g.fr (nth l i)).length/\y.2.1.length<=l.length+y.1/\J1 aR 3 1 y.2.2.2.1 y.2.2.2.2 1 y.2.2.1 y.2.1/\IK (fun q=>q=1) (fun _=>0) w y.2.2.2.1 y.2.2.2.2/\JG w.heap.size y.2.2.2.1 y.2.2.2.2/\dC y.2.1 ((g.fr (nth l i)).drop y.1)=dC l (g.fr (nth l i))) (fun y=>(g.fr (nth l i)).length-y.1) (0,l,b8,O1,w1.drew) (⟨I0 _,I8 _,a2.drew,b3.drew,b7.drew,rfl⟩) ?_;rintro⟨j,l2,b5,O2,w2⟩ ⟨hj,c9,a0,b0,b4,a1⟩;dsimp only at hj c9 a0 b0 b4 a1 ⊢;have c7:=h.ext b0.ext;have c6:=a0.sl;have d0:=c7.fr _ b2;refine zh ?_;refine zC ?_ ?_
  ·intro a3;replace a3:j<(g.fr (nth l i)).length:=dT a3;rw[ve a3]at a1;have m2:w2.cell? (adr (nth xs (nth l i)).1 1 j)=some (nI ((nth (g.fr (nth l i)) j:Nat):Int)):=by have:=d0.cell (j:=0) a3 rfl;rwa[ax]at this
   refine zh ?_;refine zc call255 (qG l2 (nth (g.fr (nth l i)) j) b5 w2 c6) ?_
   rintro v w9 ⟨rfl,b9⟩;rw[b9];clear b9 w9;refine zh ?_
   cases hc:l2.contains (nth (g.fr (nth l i)) j)with
   |true=>
    rw[hc,if_pos rfl]at a1;refine zFH rfl rfl ?_;refine zxd (j+1,l2,b5,O2,w2) (⟨a3,by dsimp only;omega,a0,b0,b4,a1⟩)
   |false=>
    rw[hc,if_neg zd]at a1;refine zTH rfl rfl ?_;refine Kq ke a0 b4 ((nth (g.fr (nth l i)) j)) (fun _=>rfl) rfl rfl rfl (by simp[I5]) zo zo zo zd rfl rfl ?_;intro c5 w3 O3 a7 d1 d3;refine zh ?_;refine zxd (j+1,l2++[nth (g.fr (nth l i)) j],c5,O3,w3) (⟨a3,by dsimp only;simp;omega,a7,b0.trans d1,d3,a1⟩)
  intro a9;replace a9:¬j<(g.fr (nth l i)).length:=dF a9;rw[Km zo,dC]at a1;subst a1;have a4:=a5.step hw a6;have c8:=fO a4.nd a4.lt;obtain⟨s,hs⟩:=iB (g.fr (nth l i)) l;refine zh ?_;refine zxd (i+1,dC l (g.fr (nth l i)),b5,O2,w2) (⟨by dsimp only;rw[hs];simp;omega,a4,a0,b0,b4,by dsimp only;rw[show g.ks.length-(i+1)=d from by omega];exact a'⟩)
 intro b6;replace b6:¬i<l.length:=dF b6;have e:gp g (g.ks.length-i) i l=l:=by
  cases hd:g.ks.length-i with
  |zero=>rfl
  |succ d=>rw[gp,if_neg b6]
 rw[e]at a';rw[<-a'];refine zh ?_;refine ae rfl rfl (⟨b',b3.ext,zo,a5.lt,fun B O hR=>a2.free zd b7 hR⟩)
abbrev kvI(n:Int):ix:=nI n
abbrev tvU(n:Nat):ix:=.int .u64 (n:Int)
theorem oZ:KeyL J6 3 kvI:=Lj Kg
theorem BU{g:Gr}{n:Nat}(he:∀k,g.en k<=n){b:Nat}(hb:b<2^n)(k:Nat):eR g b k<2^n:=by
 unfold eR
 split
 ·exact hb
 rename_i h;have:=he k;exact JZ hb (KA zd zo)
theorem jx{g:Gr}{n:Nat}(he:∀k,g.en k<=n):∀(l:List Nat) (b:Nat),b<2^n->l.foldl (eR g) b<2^n
 |[],_,hb=>hb
 |k::l,_,hb=>jx he l _ (BU he hb k)
theorem xd(B:Nat)(O:Nat->Nat)(w:ln)(i nb:Nat)(se:Bool)(g:Gr)(nr tr:Nat)(lv kv:ix)(xs:List K3)(l1:List (Int×ix))(l2:List (Int×Nat))(p:Int)(k M:Nat)(hi:2<i)(hR:JG B O w)(h:Lh O w i nb se g (.map (some nr)) (.map (some tr)) lv kv xs)(e7:Jg kvI id O w 1 nr l1)(e6:Jg kvI tvU O w 2 tr l2) 
  (hw:WF g) (hk:k<g.ks.length) (hM:Bd g M) (h5:M<=1000000) (he:∀q,g.en q<=40) :
  Kd J6 180 [nP nb,nI p,nI (k:Nat)] w fun _ w'=>∃v,IK (fun q=>q=1\/q=2) O w O w'/\Jg kvI id O w' 1 nr (cp l1 p v)/\Jg kvI tvU O w' 2 tr (cp l2 p ((eO g k).foldl (eR g) 0))/\Sl aR 1 w' v ((eO g k).flatMap g.lv)/\K6 O w' v:=by
 obtain⟨T0,h4,e1⟩:=hR.bound;obtain⟨T,h1⟩:∃T,T=T0+10+i+2*g.ks.length:=⟨_,rfl⟩
 have hT:∀b,O b<T:=fun b=>by have:=e1 b;omega
 have f6:=h.ks.len;have f':=e7.tag;have f9:=e6.tag;have f8:=h.r;refine IE func180 ntmps180 rfl rfl ?_;refine zh ?_;refine zc call231 (zZ w nb se g _ _ lv kv xs k M f8 hw hk hM zo) ?_;rintro rv w1 ⟨e5,f5,g7,c7,f7⟩;generalize eO g k=rl at *;have g3:IK (fun q=>q=T) O w O w1:=aa zo O f5;have g2:=f7 B O hR;have h6:=hM.ks;have b2:∀q,q<rl.length->nth rl q<xs.length:=fun q hq=>by rw[f6];exact c7 _ (aJ hq)
 refine zvH (bj e5.sh I6 rfl) ?_;refine zlp (fun z:Nat×ix×(Nat->Nat)×World=>[(0,nP nb),(1,nI p),(6,z.2.1),(7,.int .u64 (((rl.take z.1).foldl (eR g) 0:Nat):Int)),(13,rv),(14,nI rl.length),(15,nI z.1)]) (fun z=>z.2.2.2) (fun z=>z.1<=rl.length/\J1 aR 3 1 z.2.2.1 z.2.2.2 T z.2.1 ((rl.take z.1).flatMap g.lv)/\((rl.take z.1).flatMap g.lv).length<=z.1*1000000/\IK (fun q=>q=T) O w z.2.2.1 z.2.2.2/\JG B z.2.2.1 z.2.2.2/\Sl aR 1 z.2.2.2 rv rl/\K6 z.2.2.1 z.2.2.2 rv) (fun z=>rl.length-z.1) (0,nS,O,w1) (⟨I0 _,Je _ _ _ _ _ _,by simp,g3,hR.ext f5,e5,g2⟩) ?_
 rintro⟨q,v2,O2,w2⟩ ⟨hq,a0,g0,a9,b',a3,d8⟩;dsimp only at hq a0 g0 a9 b' a3 d8 ⊢;have h2:=h.updT a9 zo (fun r _ hr=>zo);have a':=h2.r;have c2:=a'.c2;have g6:=a0.sl;refine zh ?_;refine zC ?_ ?_
 ·intro a5;replace a5:q<rl.length:=dT a5;have b3:=b2 q a5;have m2:w2.cell? (adr rv 1 q)=some (nI ((nth rl q:Nat):Int)):=by have:=a3.cell (j:=0) a5 rfl;rwa[ax]at this
  have f1:=a'.f1 b3;have g9:=hM.lv (nth rl q);refine zh ?_;refine zvH (az a'.ks.sh Jv (JV _) rfl rfl (nth rl q) rfl b3) ?_;refine dR ke a0 b' (a'.lv _ b3) rfl rfl (by simp) (by simp[I5]) zo zo zo rfl ?_;intro v3 w3 O3 a2 e0 f4;have a8:=a9.trans e0;have h3:=h.updT a8 zo (fun r _ hr=>zo);have c8:=h3.r;have b1:=a3.upd d8 e0;have e9:=d8.upd e0;have f2:=c8.f2 b3;have h7:=c8.c2;have g':=he (nth rl q);have e4:rl.take (q+1)=rl.take q++[nth rl q]:=aM a5;have e8:(rl.take (q+1)).foldl (eR g) 0=eR g ((rl.take q).foldl (eR g) 0) (nth rl q):=by rw[e4,JB];rfl
  have b8:(rl.take (q+1)).flatMap g.lv=(rl.take q).flatMap g.lv++g.lv (nth rl q):=by rw[e4];simp
  have h0:=jx he (rl.take q) 0 zd;refine zh ?_;refine zvH (az c8.ks.sh Jv (JV _) rfl rfl (nth rl q) rfl b3) ?_;refine zC ?_ ?_
  ·intro a4;have a4:g.en (nth rl q)≠0:=dT a4;have g8:2^(g.en (nth rl q)-1)<2^40:=KA zd zo;refine zh ?_;rw[show((g.en (nth rl q):Nat):Int)-1=((g.en (nth rl q)-1:Nat):Int)from by omega];refine zv (vp (a:=1) (b:=g.en (nth rl q)-1) rfl rfl rfl rfl (by show _<=64;omega) (by show _<=(18446744073709551615:Int);omega)) ?_;rw[Nat.one_mul];refine zvH (tp (a:=(rl.take q).foldl (eR g) 0) (b:=2^(g.en (nth rl q)-1)) rfl rfl rfl rfl (by show _<=(18446744073709551615:Int);omega) (by show _<=(18446744073709551615:Int);omega)) ?_;have a6:(rl.take (q+1)).foldl (eR g) 0=(rl.take q).foldl (eR g) 0 ||| 2^(g.en (nth rl q)-1):=by rw[e8,eR,if_neg a4]
   rw[<-a6];refine zxd (q+1,v3,O3,w3) (⟨a5,by dsimp only;rw[b8];exact a2,by dsimp only;rw[b8,IT];omega,a8,f4,b1,e9⟩)
  intro hz;have hz:g.en (nth rl q)=0:=dF hz;refine zh ?_;have a6:(rl.take (q+1)).foldl (eR g) 0=(rl.take q).foldl (eR g) 0:=by rw[e8,eR,if_pos hz]
  rw[<-a6];refine zxd (q+1,v3,O3,w3) (⟨a5,by dsimp only;rw[b8];exact a2,by dsimp only;rw[b8,IT];omega,a8,f4,b1,e9⟩)
 intro g1;obtain rfl:q=rl.length:=dF g1;rw[II]at a0 ⊢;have hf:K6 O w2 v2:=L6 a0 zo hT b' a9;have d7:=e7.upd a9 zd zo;have d1:=e6.upd a9 zd zo;have d3:w2.drew.cell? (nA nb 3)=some (.map (some nr)):=a'.c3;have d4:w2.drew.cell? (nA nb 4)=some (.map (some tr)):=a'.c4;have d9:IK (fun _=>False) O2 w2 O2 w2.drew:=aa (fun h=>h) O2 (IF w2).drew;have d6:=d7.upd d9 zd fun h=>h
 have d0:=d1.upd d9 zd fun h=>h
 have b0:∀W (S:Nat->Prop),IK S O2 w2.drew O2 W->¬S i->W.cell? (nA nb 3)=some (.map (some nr))/\W.cell? (nA nb 4)=some (.map (some tr)):=fun W S u hS=>
  have hb:=h2.blk.drew.upd u zo hS
  ⟨hb.cell 3 rfl,hb.cell 4 rfl⟩
 refine zh ?_;refine aK (fun W=>W.cell? (nA nb 3)=some (.map (some nr))/\W.cell? (nA nb 4)=some (.map (some tr))) 18 rfl zk ?_
 refine zin ⟨d3,d4⟩ fun zS=>?_
 refine zrm 0 rfl zS rfl ?_;refine zr 1 rfl zS (fun _=>ak rfl) ?_
 refine zrf 2 rfl zS rfl ?_;refine zt 3 rfl zS (fun w1 c5=>RV.ld c5.1 rfl) ?_
 refine zrm 4 rfl zS rfl ?_;refine zrm 5 rfl zS rfl ?_
 refine zr 6 rfl zS (fun _=>ak rfl) ?_;refine zrf 7 rfl zS rfl ?_
 refine zt 8 rfl zS (fun w1 c5=>RV.ld c5.2 rfl) ?_;refine zrm 9 rfl zS rfl ?_
 refine zrm 10 rfl zS rfl ?_;refine zrm 11 rfl zS rfl ?_
 refine I9 12 zk rfl ?_;refine lM d6 IP oZ zd (Jm _) p v2 rfl rfl rfl rfl ?_
 intro w4 c4 b4 e3 b5;refine zh ?_;refine af (b0 _ _ b5 zo) ?_;refine zr 13 rfl (b0 _ _ b5 zo) (fun _=>Le rfl rfl) ?_;refine I9 14 zk rfl ?_;refine iP e3 rfl rfl rfl rfl ?_;intro w5 d5 b9;have c':=d0.upd b9 zd zd;refine zh ?_;refine af (b0 _ _ b9 zo) ?_;refine I9 15 zk rfl ?_;refine lM c' Ld oZ zd (Lp _) p (rl.foldl (eR g) 0) rfl rfl rfl rfl ?_;intro w6 c6 b6 e2 d';have hU6e:IK (fun q=>q=1\/q=2) O2 w2.drew O2 w6:=(b9.mono (fun _ h=>.inl h) zo).trans (d'.mono (fun _ h=>.inr h) zo);refine zh ?_;refine af (b0 _ _ hU6e zo) ?_;refine zr 16 rfl (b0 _ _ hU6e zo) (fun _=>Le rfl rfl) ?_;refine I9 17 zk rfl ?_;refine iP e2 rfl rfl rfl rfl ?_;intro w7 c9 f3;have d2:=d5.upd f3 zd zd;have b7:IK (fun q=>q=1\/q=2) O2 w2.drew O2 w7:=(b9.mono (fun _ h=>.inl h) zo).trans (f3.mono (fun _ h=>.inr h) zo);refine zh ?_;refine af (b0 _ _ b7 zo) ?_;have a7:=(d9.mono (S':=fun q=>q=1\/q=2) (fun _ h=>h.elim) zo).trans b7;have e':=(a9.mono (S':=fun q=>q=T\/q=1\/q=2) (fun _ h=>.inl h) zo).trans (a7.mono (fun _ h=>.inr h) zo)
 have g4:IK (fun q=>q=1\/q=2) O w O w7:=Upd.fgt e' (fun b h=>by
  rcases h with h|h
  ·have:=hT b;omega
  exact h) zo
 have a1:=a0.upd a7 zo zo;have g5:=b'.upd a7;refine Jd zk ?_;refine aD rfl (⟨v2,g4,d2.fgt f',c9.fgt f9,a1.sl,L6 a1 zo hT g5 e'⟩)
end Go.Proofs.YteolbhblkgjbhaaGreatDoor
namespace Go.VL
section
variable{P:JW}{N:Nat}{ops:Array Kz}{Q:KW→Ly→ln→Prop}{rest:List Kz}{st:St}{w:ln}
variable{t:Jr}{p:String}{e:Array Lx}{d:Nat}{x y z:KG}
theorem Ext.iter(w:ln)(s:ByteArray)(a0:Nat):JX w (w.iter s a0):=Lk w _
theorem ti{xt:Jr}{l:List UInt8}(hT:P.underlying xt=some .string)(hx:ev st x=some (.string (bs l)))(hd:JJ d N=true) 
  (h:WL P N ops Q rest ((d,.pointer (some ⟨w.heap.size,0,none⟩))::st) (w.iter (bs l) 0)):WL P N ops Q (⟨some d,.range xt x,t,p,e,none⟩::rest) st w:=
 L0 hd (fun a ha=>by
  simp only[execOp,ha.ev hx,Jw,run_range_string w xt (bs l) hT,J7]
  rfl) h
theorem CT{l:List UInt8}{a0:Nat}{c:UInt8}{w0:ln}(hx:ev st x=some (.pointer (some ⟨w0.heap.size,0,none⟩)))(hc:l[a0]? = some c)(ha:c.toNat<128)(hd:JJ d N=true) 
  (h:WL P N ops Q rest ((d,.tuple #[.bool true,nI (a0:Nat),.int .i32 (c.toNat:Int)])::st) (w0.iter (bs l) (a0+1))):WL P N ops Q (⟨some d,.next x true,t,p,e,none⟩::rest) st (w0.iter (bs l) a0):=by
 obtain⟨a2,hv⟩:=Jc.1 hc;have hs:a0<(bs l).size:=by rw[cT];exact a2
 have he:(bs l)[a0]'hs=c:=by rw[<-hv];exact List.getElem_toArray (xs:=l) (i:=a0) a2
 have a1:=run_next_ascii (P:=P) w0 (bs l) a0 t hs (by rw[he];exact ha);rw[he]at a1
 exact L0 hd (fun a ha=>by
  simp only[execOp,ha.ev hx,Jw,a1,J7]
  rfl) h
theorem CS{l:List UInt8}{a0:Nat}{w0:ln}(hx:ev st x=some (.pointer (some ⟨w0.heap.size,0,none⟩)))(hp:l.length<=a0)(hd:JJ d N=true) 
  (h:WL P N ops Q rest ((d,.tuple #[.bool false])::st) (w0.iter (bs l) a0)):WL P N ops Q (⟨some d,.next x true,t,p,e,none⟩::rest) st (w0.iter (bs l) a0):=by
 have hs:¬a0<(bs l).size:=by rw[cT];omega
 have a1:=run_next_end (P:=P) w0 (bs l) a0 t hs
 exact L0 hd (fun a ha=>by
  simp only[execOp,ha.ev hx,Jw,a1,J7]
  rfl) h
end
section
variable{P:JW}{N:Nat}{ops:Array Kz}{Q:KW→Ly→ln→Prop}{rest:List Kz}{st:St}{w:ln}
variable{t:Jr}{p:String}{e:Array Lx}{d:Nat}{x y z:KG}
theorem lP{α:Type}{c:Code}(f:α->St)(g:α->ln)(I:α->Prop)(h1:(∀z,I z->QF N Q .normal (f z) (g z))->WC P N c Q st w)(h2:∀z,I z->QF N Q .normal (f z) (g z)):WC P N c Q st w:=h1 h2
theorem gV{e:KW}{a0:St}{w':ln}(h:QF N Q e a0 w')(hc:Cov st a0)(hw:w'=w):QF N Q e st w:=by subst hw;exact h.weaken hc
theorem kz{T:Jr}{O:Nat->Nat}{i b:Nat}{cs us:Array ix}{E:Jr}(off:Nat)(hb:Ju O w i b cs E)(hs:off+us.size<=cs.size)(hT:(sizeOf T).run P w=.ok us.size w)(h1:us.toList.all I5=true) 
  {q:Addr} (hx:ev st x=some (.pointer (some q))) (hq:q=⟨b,off,none⟩) (hy:ev st y=some (.agg us))
  (h:WL P N ops Q rest st (w.setRow b (cs.toList.take off++us.toList++cs.toList.drop (off+us.size)).toArray)):WL P N ops Q (⟨none,.store T x y,t,p,e,none⟩::rest) st w:=
 gQ (fun a ha=>by
  subst hq;have a0:(KV T (.pointer (some ⟨b,off,none⟩)) (.agg us)).run P w=.ok () (w.setRow b (cs.toList.take off++us.toList++cs.toList.drop (off+us.size)).toArray):=by
   have:=run_storeCells_at P b off E us.toList 0 cs w hb.blk (by simpa using hs) (List.all_eq_true.1 h1);simp only[Nat.add_zero,Array.length_toList]at this;simp only[KV,Instr.sureAddr,storeVar,Jw,L3,J7,Value.cells,hT];simpa using this
  simp only[execOp,ha.ev hx,ha.ev hy,Jw,a0,J7,L3]) h
end
def lowT(O:Nat->Nat)(T:Nat):Nat->Nat:=fun b=>if T<=O b then 0 else O b
theorem Upd.lowT{S:Nat->Prop}{T:Nat}{O O2:Nat->Nat}{w w':ln}(h:IK S O w O2 w')(hT:∀b,O b<T){S':Nat->Prop}(hS:∀b,S (O b)->S' (O b))(hz:¬S' 0):IK S' O w (lowT O2 T) w':=
 ⟨h.os,h.tape,h.output,h.size,fun b hb hn=>h.blk b hb fun hs=>hn (hS b hs),fun b hb=>by
  have h1:=h.tag b hb;have:=hT b;unfold Go.VL.lowT;rw[if_neg zo];exact h1,fun b hb=>by
  unfold Go.VL.lowT at hb
  split at hb
  ·exact absurd rfl hb
  exact h.new b hb,hz⟩
theorem Rng.lowT{B:Nat}{O:Nat->Nat}{w:ln}(h:JG B O w)(T:Nat):JG B (lowT O T) w:=⟨h.le,fun b hb=>by
 unfold Go.VL.lowT at hb
 split at hb
 ·exact absurd rfl hb
 exact h.rng b hb⟩
theorem BlkO.lowT{O:Nat->Nat}{w:ln}{i b:Nat}{cs:Array ix}{E:Jr}(h:Ju O w i b cs E){T:Nat}(hi:i<T):Ju (lowT O T) w i b cs E:=⟨h.blk,by unfold Go.VL.lowT;rw[h.tag,if_neg zo]⟩
theorem RowT.lowT{α:Type}{enc:α->List ix}{O:Nat->Nat}{w:ln}{i:Nat}{E:Jr}{sz:Nat}{v:ix}{l:List α}(h:J1 enc E sz O w i v l){T:Nat}(hi:i<T):J1 enc E sz (lowT O T) w i v l:=
 ⟨⟨h.1.row,fun g hg=>by unfold Go.VL.lowT;rw[h.1.tag g hg,if_neg zo]⟩,h.2⟩
theorem jO{O:Nat->Nat}{T b:Nat}(h:O b=0):lowT O T b=0:=by unfold lowT;split<;>simp[h]
end Go.VL
namespace Go.Proofs.YteolbhblkgjbhaaGreatDoor
theorem gC:∀(l:List Nd) (i:Nat),i<l.length->aX (l.take (i+1))=aX (l.take i)+cS (nth l i)
 |[],i,h=>absurd h (I4 i)
 |t::r,0,_=>by rw[ao];simp[aX]
 |t::r,i+1,h=>by
  have:=gC r i (by simpa using h);rw[aI];simp only[List.take_succ_cons,aX];omega
mutual
theorem kU:∀(t:Nd),cS t<=nsz t
 |.mk k c l=>by
  have:=il l
  simp only[cS,nsz]
  split<;>omega
theorem il:∀(l:List Nd),aX l<=ez l
 |[]=>by simp[aX]
 |t::r=>by
  have h1:=kU t
  have h2:=il r
  simp only[aX,ez]
  omega
end
theorem oT:∀(n:Nat),n<=1000000->∀(t:Nd),nsz t<=n->∀(x:N3) (w:ln),Nt (fun _=>0) w t x->Kd J6 176 [nv x] w fun v w'=>v=nI ((cS t:Nat):Int)/\JX w w'
 |0,_,t,hn=>by have:=ew t;omega
 |n+1,hn6,.mk k c l,hn=>by
  intro x w h;have ih:=oT n zo;have b5:=h.ones;obtain⟨ys,b3,hf,a7,a4⟩:=h.kids;simp only[Nd.kids]at a7 a4;simp only[nsz]at hn;generalize x.2.2=sv at *;subst b5;simp only[Nd.kind,Nd.cls];have d1:=ij l;have d2:=il l;refine IE func176 ntmps176 rfl rfl ?_;refine zh ?_;refine aH (ay w) 1 zo rfl rfl ?_;intro xb w1 O1 b0 d4 d6 a';have c0:w1.cell? (nA xb 0)=some (nI k):=b0.cell 0 rfl;have c2:w1.cell? (nA xb 2)=some sv:=b0.cell 2 rfl;have a6:=b3.ext a';have a2:=a';clear a';refine zh ?_
  by_cases hl:l=[]
  ·subst hl;have b4:ys.length=0:=a7.symm;refine aw (d:=10) rfl (b':=true) ((by rw[b4];rfl)) ?_;refine zh ?_
   by_cases h9:k=9
   ·subst h9;have a0:cS (.mk 9 c [])=aX []:=by rw[cS,if_neg (by rintro⟨_,e⟩;exact e rfl)]
    refine zFH rfl rfl ?_;refine zlp (fun z:Nat×ln=>[(3,nI ((aX (([]:List Nd).take z.1):Nat):Int)),(16,sv),(17,nI ys.length),(18,nI z.1)]) (fun z=>z.2) (fun z=>z.1<=([]:List Nd).length/\JX w1 z.2) (fun z=>([]:List Nd).length-z.1) (0,w1) (⟨I0 _,IF _⟩) ?_
    rintro⟨q,w2⟩ ⟨hq,a1⟩;dsimp only at hq a1 ⊢;have a5:=a6.ext a1;have b6:q=0:=by simpa using hq
    refine zh ?_;refine zC ?_ ?_
    ·intro a3;exact absurd (of_decide_eq_true a3) zo
    intro b1;subst b6;refine zh ?_;refine ae rfl rfl (⟨by rw[a0,List.take_nil],a2.trans a1⟩)
   have a0:cS (.mk k c [])=1:=by rw[cS,if_pos ⟨rfl,h9⟩]
   rw[a0];refine zTH rfl ((by simpa using h9)) ?_;refine ae rfl rfl (⟨rfl,a2⟩)
  have a0:cS (.mk k c l)=aX l:=by rw[cS,if_neg (by rintro⟨e,_⟩;exact hl (by simpa using e))]
  have b7:=List.length_pos_iff.2 hl;refine aw (d:=10) rfl (b':=false) ((by rw[beq_eq_false_iff_ne];omega)) ?_;refine zh ?_;refine zFH rfl rfl ?_;refine zlp (fun z:Nat×ln=>[(3,nI ((aX (l.take z.1):Nat):Int)),(16,sv),(17,nI ys.length),(18,nI z.1)]) (fun z=>z.2) (fun z=>z.1<=l.length/\JX w1 z.2) (fun z=>l.length-z.1) (0,w1) (⟨I0 _,IF _⟩) ?_;rintro⟨q,w2⟩ ⟨hq,a1⟩;dsimp only at hq a1 ⊢;have a5:=a6.ext a1;have c9:=cJ l q;refine zh ?_;refine zC ?_ ?_
  ·intro a3;replace a3:q<l.length:=dT a3;have a8:=(a4 q zo).ext (a2.trans a1);have c5:=a8.one;have d0:=cG l q a3;have d3:=kU (nth l q);have b9:=il (l.take q);have c':=ey l q a3;have b8:=cJ l (q+1);refine zh ?_;refine zv (ah (us:=bt (nth ys q)) (fun j u hu=>a5.cell zo hu) (J3 _) (IL _) rfl) ?_;refine au (ay w2) 1 zo (JR _) rfl ?_;intro yb w3 O3 a9 c7 d5 d7;refine zsb (us:=#[nI (nth ys q).1,nI (nth ys q).2.1,(nth ys q).2.2]) a9 (IL _) (bX c5) ?_;have b2:JX w2 (w3.setRow yb #[nI (nth ys q).1,nI (nth ys q).2.1,(nth ys q).2.2]):=(c7.trans (IU zd a9.tag rfl)).ext;have c6:=a9.setRow (us:=#[nI (nth ys q).1,nI (nth ys q).2.1,(nth ys q).2.2]);generalize w3.setRow yb #[nI (nth ys q).1,nI (nth ys q).2.1,(nth ys q).2.2]=w4 at *;refine zh ?_;refine zv (ah (us:=bt (nth ys q)) c6.cellsAdd (J3 _) (IL _) rfl) ?_;refine zc call176 (ih (nth l q) zo (nth ys q) w4 (a8.ext b2)) ?_;rintro v w5 ⟨rfl,c8⟩;refine zh ?_;rw[show((aX (l.take q):Nat):Int)+((cS (nth l q):Nat):Int)=((aX (l.take (q+1)):Nat):Int)from by rw[gC l q a3];simp];refine zxd (q+1,w5) (⟨a3,(a1.trans b2).trans c8⟩)
  intro b1;obtain rfl:q=l.length:=dF b1;rw[II];refine zh ?_;refine ae rfl rfl (⟨by rw[a0],a2.trans a1⟩)
theorem zi(k c m:Int)(b:Nat)(w:ln):Kd J6 256 [.agg #[nI k,nI c,nI (b:Nat)],nI m] w fun v w'=>v=.bool (bY k c m)/\JX w w':=by
 refine IE func256 ntmps256 rfl rfl ?_;refine zh ?_
 refine aH (ay w) 1 zo rfl rfl ?_;intro xb w1 O1 a4 a5 a6 a3;have c0:w1.cell? (nA xb 0)=some (nI k):=a4.cell 0 rfl;have c1:w1.cell? (nA xb 1)=some (nI c):=a4.cell 1 rfl;obtain⟨cl,a0⟩:∃cl,cl=(decide (0<=m)&&decide (m<36)):=⟨_,rfl⟩
 refine zh ?_;refine bK (fun W=>W=w1) (decide (m<36)) 2 (rfl) rfl rfl rfl rfl rfl ?_ ?_
 ·intro a1;refine zh ?_;refine nE 8 3 (rfl) a1
 rintro w9 rfl;rw[<-a0];refine zh ?_
 by_cases h0:k=0
 ·have hM:bY k c m=(cl&&(m==c)):=by unfold bY;rw[if_pos h0,a0]
  rw[hM];refine zTH rfl ((by simpa using h0)) ?_;refine bK (fun W=>W=w9) ((m==c)) 4 (rfl) rfl rfl rfl rfl rfl ?_ ?_
  ·intro a2;refine zh ?_;refine nE 17 5 (rfl) a2
  rintro w8 rfl;refine zh ?_;refine ae rfl rfl (⟨rfl,a3⟩)
 refine zFH rfl ((by simpa using h0)) ?_
 by_cases h1:k=1
 ·have hM:bY k c m=cl:=by unfold bY;rw[if_neg h0,if_pos h1,a0]
  rw[hM];refine zTH rfl ((by simpa using h1)) ?_;refine ae rfl rfl (⟨rfl,a3⟩)
 refine zFH rfl ((by simpa using h1)) ?_
 by_cases h2:k=2
 ·have hM:bY k c m=(cl&&(m != c)):=by unfold bY;rw[if_neg h0,if_neg h1,if_pos h2,a0]
  rw[hM];refine zTH rfl ((by simpa using h2)) ?_;refine bK (fun W=>W=w9) ((m != c)) 4 (rfl) rfl rfl rfl rfl rfl ?_ ?_
  ·intro a2;refine zh ?_;refine nE 29 5 (rfl) a2
  rintro w8 rfl;refine zh ?_;refine ae rfl rfl (⟨rfl,a3⟩)
 have hM:bY k c m=(m==36):=by unfold bY;rw[if_neg h0,if_neg h1,if_neg h2]
 rw[hM];refine zFH rfl ((by simpa using h2)) ?_;refine ae rfl rfl (⟨rfl,a3⟩)
structure NfD(w:ln)(nb:Nat)(se:Bool)(g:Gr):Prop where
 ex:∃nr tr lv kv xs l1 l2,NfR w nb se g (.map (some nr)) (.map (some tr)) lv kv xs/\Jg kvI id (fun _=>0) w 0 nr l1/\Jg kvI tvU (fun _=>0) w 0 tr l2/\
  (∀p:Nat,p<=g.ls.length->∃v,bm l1 (p:Int)=some v/\Sl aR 1 w v (cB g p))/\∀p:Nat,p<=g.ls.length->bm l2 (p:Int)=some (iV g p)
theorem nR{κ ν:Type}{kv:κ->ix}{vv:ν->ix}{w w':ln}{r:Nat}{l:List (κ×ν)}(h:Jg kv vv (fun _=>0) w 0 r l)(e:JX w w'):Jg kv vv (fun _=>0) w' 0 r l:=by
 obtain⟨es,c,h1,h2⟩:=h.blk;have e1:=e.block r (bq h1);exact⟨⟨es,c,by rw[e1];exact h1,h2⟩,rfl,fun a0 c' h'=>h.born a0 c' (by rw[<-e1];exact h')⟩
theorem NfD.ext{w w':ln}{nb:Nat}{se:Bool}{g:Gr}(h:NfD w nb se g)(e:JX w w'):NfD w' nb se g:=by
 obtain⟨nr,tr,lv,kv,xs,l1,l2,h1,h2,h3,h4,h5⟩:=h.ex;exact⟨nr,tr,lv,kv,xs,l1,l2,h1.ext e,nR h2 e,nR h3 e,fun p hp=>by obtain⟨v,a,b⟩:=h4 p hp;exact⟨v,a,b.ext e⟩,h5⟩
theorem Bj(w:ln)(nb:Nat):Kd J6 182 [nP nb] w fun v w'=>Sl encI 1 w' v [0]/\JX w w'/\∀(B:Nat) (O:Nat->Nat),JG B O w->K6 O w' v:=by
 refine IE func182 ntmps182 rfl rfl ?_;refine zh ?_
 refine zvH (ed (q:=some ⟨nb,0,none⟩) K4 rfl rfl) ?_;refine zFH rfl rfl ?_
 refine bJ ke (enc:=encI) (ay w) 1 zd (0:Int) rfl rfl rfl zd rfl ?_;intro v0 w0 O0 a0 a1 a2;refine zh ?_
 refine ae rfl rfl (⟨a0.sl,a1.ext,fun B O hR=>a0.free zd a2 hR⟩)
def qY(g:Gr)(m:Int)(l:List Nat):List Int:=(l.filter fun j=>bY (nth g.ls (j-1)).1 (nth g.ls (j-1)).2.1 m).map fun(j:Nat)=>(j:Int)
theorem AX{g:Gr}{m:Int}{l:List Nat}{j:Nat}(h:j<l.length):qY g m (l.take (j+1))=qY g m (l.take j)++if bY (nth g.ls (nth l j-1)).1 (nth g.ls (nth l j-1)).2.1 m=true then [((nth l j:Nat):Int)]else []:=by
 unfold qY;rw[aM h,Jj,Jq,JE]
 split<;>rfl
theorem CH(g:Gr)(m:Int)(l:List Nat):(qY g m l).length<=l.length:=by unfold qY;rw[List.length_map];exact JM _ _
theorem step_ret(w:ln)(nb:Nat)(se:Bool)(g:Gr)(s:List Int)(sv:ix)(m:Int)(h:NfD w nb se g)(hs:Sl encI 1 w sv s)(hw:WF g)(h0:0 < g.ks.length)(ht:Tot g)(hp:inP g s)(hsl:s.length ≤ 1000)(hll:g.ls.length ≤ 999):
  Kd J6 233 [nP nb, sv, nI m] w fun v w' => Sl encI 1 w' v (cA se g s m) ∧ JX w w' ∧ ∀(B:Nat) (O:Nat → Nat), JG B O w → K6 O w' v := by
 have hbnd := h
 obtain⟨nr, tr, lv, kv, xs, l1, l2, hr, hm1, hm2, hn1, hn2⟩ := h.ex
 have hraw:∀q, q ≤ s.length → ((if se = true then [(0:Int)]else []) ++ (s.take q).flatMap fun p => qY g m (cB g p.toNat)).length ≤ 1 + q * 999 := fun q hq => by
  have h1 := DH (se := se) hw h0 ht (m := m) (s := s.take q) fun x hx => hp x (Ku hx)
  have h2:(s.take q).length * g.ls.length ≤ q * 999 := Nat.mul_le_mul (by simp; omega) hll
  exact K0 h1 (by omega)
 refine IE func233 ntmps233 rfl rfl ?_
 refine IG ?_
 refine I2 ?_
 refine zv (J9 rfl) ?_
 refine I3 ?_
 refine aq ?_
 refine IG ?_
 refine IG ?_
 refine I2 ?_
 refine zv (IH rfl) ?_
 refine zv (ed (q := some ⟨nb, 0, none⟩) K4 rfl rfl) ?_
 refine I3 ?_
 refine aq ?_
 refine aT rfl rfl ?_
 refine JL ?_
 refine aq ?_
 refine IG ?_
 refine I2 ?_
 refine zv (J9 rfl) ?_
 refine I3 ?_
 refine aq ?_
 refine IG ?_
 refine IG ?_
 refine I2 ?_
 refine zv (IH rfl) ?_
 refine zv (ak rfl) ?_
 refine zv (RV.fa rfl) ?_
 refine zv (RV.ld hr.c0 rfl) ?_
 refine I3 ?_
 refine aq ?_
 refine lP (fun z:ix×(Nat → Nat)×World => [(0, nP nb), (1, sv), (2, nI m), (7, z.1)]) (fun z:ix×(Nat → Nat)×World => z.2.2) (fun z:ix×(Nat → Nat)×World => J1 encI 3 1 z.2.1 z.2.2 1 z.1 (if se = true then [0]else []) ∧ IK (fun q => q = 1) (fun _ => 0) w z.2.1 z.2.2 ∧ JG w.heap.size z.2.1 z.2.2) ?_ ?_
 ·intro hN
  refine zC ?_ ?_
  ·intro hse
   have e0:([]:List Int).length = 0 := rfl
   refine I2 ?_
   refine zv (IH rfl) ?_
   refine Kq ke (Je encI 3 1 (fun _ => 0) w 1) (ay w) ((0:Int)) (fun _ => rfl) rfl rfl rfl (by simp[I5]) (by omega) (by omega) (by omega) (by decide) rfl rfl ?_
   intro v1 w1 O1 hrow1 hU1 hR1
   refine zv (J9 rfl) ?_
   refine I3 ?_
   exact gV (hN ((v1, O1, w1)) (⟨by rw[if_pos hse]; exact hrow1, hU1, hR1⟩)) ⟨rfl, rfl, rfl, rfl, trivial⟩ rfl
  ·intro hse
   refine JL ?_
   exact gV (hN ((nS, fun _ => 0, w)) (⟨by rw[if_neg (by rw[hse]; decide)]; exact Je _ _ _ _ _ _, Jp (by decide) _ _, ay w⟩)) ⟨rfl, rfl, rfl, rfl, trivial⟩ rfl
 rintro⟨v1, O1, w1⟩ ⟨hrow1, hU1, hR1⟩
 dsimp only at hrow1 hU1 hR1 ⊢
 obtain⟨hd, hhd⟩:∃hd, hd = (if se = true then [(0:Int)]else []) := ⟨_, rfl⟩
 rw[← hhd]at hrow1 hraw
 refine aq ?_
 refine IG ?_
 refine IG ?_
 refine I2 ?_
 refine zv (IH rfl) ?_
 refine zv (bj hs.sh I6 rfl) ?_
 refine zv (IH rfl) ?_
 refine I3 ?_
 refine aq ?_
 refine JF ?_
 refine zlp (fun z:Nat×ix×(Nat → Nat)×World => [(0, nP nb), (2, nI m), (7, z.2.1), (21, sv), (22, nI s.length), (23, nI z.1)]) (fun z => z.2.2.2) (fun z => z.1 ≤ s.length ∧ J1 encI 3 1 z.2.2.1 z.2.2.2 1 z.2.1 (hd ++ (s.take z.1).flatMap fun p => qY g m (cB g p.toNat)) ∧ IK (fun q => q = 1) (fun _ => 0) w z.2.2.1 z.2.2.2 ∧ JG w.heap.size z.2.2.1 z.2.2.2) (fun z => s.length - z.1) (0, v1, O1, w1) (⟨I0 _, by simpa using hrow1, hU1, hR1⟩) ?_
 rintro⟨q, v2, O2, w2⟩ ⟨hq, hrow2, hU2, hR2⟩
 dsimp only at hq hrow2 hU2 hR2 ⊢
 have hlen2 := hraw q hq
 refine IG ?_
 refine I2 ?_
 refine zv (KK rfl rfl) ?_
 refine I3 ?_
 refine aq ?_
 refine IG ?_
 refine zC ?_ ?_
 ·intro hlt
  replace hlt:q < s.length := by have := of_decide_eq_true hlt; omega
  have hpq := hp _ (aJ hlt)
  obtain⟨pn, hpn⟩:∃pn:Nat, nth s q = (pn:Int) := ⟨(nth s q).toNat, by omega⟩
  have hpl:pn ≤ g.ls.length := by have := hpq.2; rw[hpn]at this; simpa using this
  obtain⟨nv1, hnv1, hsn⟩ := hn1 pn hpl
  have hnl := vS hw ht (og hw h0 hpl)
  have hs2 := hs.ext hU2.ext
  have hm12 := nR hm1 hU2.ext
  have m2:w2.cell? (adr sv 1 q) = some (nI (nth s q)) := by have := hs2.cell (j := 0) hlt rfl; rwa[ax]at this
  rw[hpn]at m2
  have hr2 := hr.ext hU2.ext
  have hsn2 := hsn.ext hU2.ext
  have c3 := hr2.c3
  refine JL ?_
  refine aq ?_
  refine IG ?_
  refine JF ?_
  refine IG ?_
  refine I2 ?_
  refine zv (Jy (by first | exact hs2) I6 (IS _) rfl rfl _ rfl (by omega)) ?_
  refine zv (RV.ld m2 rfl) ?_
  refine zv (J9 rfl) ?_
  refine I3 ?_
  refine aq ?_
  refine IG ?_
  refine I2 ?_
  refine zv (IH rfl) ?_
  refine zv (ak rfl) ?_
  refine zv (RV.fa rfl) ?_
  refine zv (RV.ld c3 rfl) ?_
  refine zv (IH rfl) ?_
  refine zv (Jo (u := nv1) hm12 IP oZ (Jm _) (pn:Int) rfl rfl rfl (by rw[hnv1]; rfl)) ?_
  refine zv (bj hsn.sh I6 rfl) ?_
  refine zv (IH rfl) ?_
  refine I3 ?_
  refine aq ?_
  refine JF ?_
  refine zlp (fun y:Nat×ix×(Nat → Nat)×World => [(0, nP nb), (2, nI m), (7, y.2.1), (21, sv), (22, nI s.length), (23, nI q), (32, nv1), (33, nI (cB g pn).length), (34, nI y.1)]) (fun y => y.2.2.2) (fun y => y.1 ≤ (cB g pn).length ∧ J1 encI 3 1 y.2.2.1 y.2.2.2 1 y.2.1 ((hd ++ (s.take q).flatMap fun p => qY g m (cB g p.toNat)) ++ qY g m ((cB g pn).take y.1)) ∧ IK (fun q => q = 1) (fun _ => 0) w y.2.2.1 y.2.2.2 ∧ JG w.heap.size y.2.2.1 y.2.2.2) (fun y => (cB g pn).length - y.1) (0, v2, O2, w2) (⟨I0 _, by simpa[qY]using hrow2, hU2, hR2⟩) ?_
  rintro⟨j, v3, O3, w3⟩ ⟨hj, hrow3, hU3, hR3⟩
  dsimp only at hj hrow3 hU3 hR3 ⊢
  have hsn3 := hsn.ext hU3.ext
  have hr3 := hr.ext hU3.ext
  have hfl := CH g m ((cB g pn).take j)
  have hlapp:((hd ++ (s.take q).flatMap fun p => qY g m (cB g p.toNat)) ++ qY g m ((cB g pn).take j)).length = (hd ++ (s.take q).flatMap fun p => qY g m (cB g p.toNat)).length + (qY g m ((cB g pn).take j)).length := IT
  have htl:((cB g pn).take j).length ≤ j := by simp; omega
  refine IG ?_
  refine I2 ?_
  refine zv (KK rfl rfl) ?_
  refine I3 ?_
  refine aq ?_
  refine IG ?_
  refine zC ?_ ?_
  ·intro hlt2
   replace hlt2:j < (cB g pn).length := by have := of_decide_eq_true hlt2; omega
   have hjn:1 ≤ nth (cB g pn) j ∧ nth (cB g pn) j ≤ g.ls.length := by
    obtain⟨k, hk, hjk⟩ := (mo hw h0 hpl (nth (cB g pn) j)).1 (aJ hlt2)
    exact hw.lv k _ (hk.lt hw (og hw h0 hpl)) hjk
   have hft := AX (g := g) (m := m) hlt2
   have m3:w3.cell? (adr nv1 1 j) = some (nI ((nth (cB g pn) j:Nat):Int)) := by have := hsn3.cell (j := 0) hlt2 rfl; rwa[ax]at this
   generalize nth (cB g pn) j = to at *
   have c1 := hr3.c1
   have hls3 := hr3.ls
   refine JL ?_
   refine aq ?_
   refine IG ?_
   refine JF ?_
   refine IG ?_
   refine I2 ?_
   refine zv (Jy (by first | exact hsn3) I6 (IS _) rfl rfl _ rfl (by omega)) ?_
   refine zv (RV.ld m3 rfl) ?_
   refine zv (J9 rfl) ?_
   refine I3 ?_
   refine aq ?_
   refine IG ?_
   refine I2 ?_
   refine zv (IH rfl) ?_
   refine zv (ak rfl) ?_
   refine zv (RV.fa rfl) ?_
   refine zv (RV.ld c1 rfl) ?_
   refine zv (IH rfl) ?_
   refine zv (RV.sub rfl rfl (K1 (by omega))) ?_
   rw[show((to:Nat):Int) - 1 = ((to - 1:Nat):Int)from by omega]
   refine zv (Jy hls3 K2 (Kc _) rfl rfl (to - 1) rfl (by omega)) ?_
   refine zv (ah (us := qE (nth g.ls (to - 1))) (fun j u hu => hls3.cell (by omega) hu) (isAgg283 _) (Kc _) rfl) ?_
   refine zv (IH rfl) ?_
   refine zc call256 (zi (nth g.ls (to - 1)).1 (nth g.ls (to - 1)).2.1 m (nth g.ls (to - 1)).2.2 w3) ?_
   rintro v w4 ⟨rfl, hE4⟩
   have hU4 := hU3.trans (aa (by decide) O3 hE4)
   have hR4 := hR3.ext hE4
   have hrow4:J1 encI 3 1 O3 w4 1 v3 _ := hrow3.upd (aa (S := fun _ => False) (fun h => h) O3 hE4) (by decide) fun h => h
   refine I3 ?_
   refine aq ?_
   refine zC ?_ ?_
   ·intro hyes
    rw[if_pos hyes]at hft
    refine I2 ?_
    refine zv (IH rfl) ?_
    refine zv (IH rfl) ?_
    refine Kq ke hrow4 hR4 (((to:Nat):Int)) (fun _ => rfl) rfl rfl rfl (by simp[I5]) (by omega) (by omega) (by omega) (by decide) rfl rfl ?_
    intro v5 w5 O5 hrow5 hU5 hR5
    refine zv (J9 rfl) ?_
    refine I3 ?_
    refine bQ ?_
    refine aq ?_
    refine I2 ?_
    refine zv (Kr rfl rfl (K1 (by omega))) ?_
    refine zv (IH rfl) ?_
    refine I3 ?_
    refine zxd (j + 1, v5, O5, w5) (⟨hlt2, by dsimp only; rw[hft, ← Jk]; exact hrow5, hU4.trans hU5, hR5⟩)
   ·intro hno
    rw[if_neg (by rw[hno]; decide), IN]at hft
    refine JL ?_
    refine bQ ?_
    refine aq ?_
    refine I2 ?_
    refine zv (Kr rfl rfl (K1 (by omega))) ?_
    refine zv (IH rfl) ?_
    refine I3 ?_
    refine zxd (j + 1, v3, O3, w4) (⟨hlt2, by dsimp only; rw[hft]; exact hrow4, hU4, hR4⟩)
  ·intro hge2
   obtain rfl:j = (cB g pn).length := by have := of_decide_eq_false hge2; omega
   rw[II]at hrow3
   have htk:(s.take (q + 1)).flatMap (fun p => qY g m (cB g p.toNat)) = (s.take q).flatMap (fun p => qY g m (cB g p.toNat)) ++ qY g m (cB g pn) := by rw[aM hlt, Js, hpn]; simp
   refine KP ?_
   refine bP ?_
   refine bP ?_
   refine dK ?_
   refine bQ ?_
   refine aq ?_
   refine I2 ?_
   refine zv (Kr rfl rfl (K1 (by omega))) ?_
   refine zv (IH rfl) ?_
   refine I3 ?_
   refine zxd (q + 1, v3, O3, w3) (⟨hlt, by dsimp only; rw[htk, ← Jk]; exact hrow3, hU3, hR3⟩)
 ·intro hge
  obtain rfl:q = s.length := by have := of_decide_eq_false hge; omega
  rw[II]at hrow2 hlen2
  have hmul:s.length * 999 ≤ 999000 := by omega
  refine KP ?_
  refine bP ?_
  refine bP ?_
  refine dK ?_
  refine aq ?_
  refine IG ?_
  refine I2 ?_
  refine zv (IH rfl) ?_
  refine zc call113 (jz hR2 hrow2 (by decide) (by omega)) ?_
  rintro _ w3 ⟨hrow3, hU3, hR3⟩
  refine I3 ?_
  refine aq ?_
  refine IG ?_
  refine I2 ?_
  refine zv (IH rfl) ?_
  refine zc call114 (eE hR3 hrow3 (by decide) (by rw[dM]; omega)) ?_
  rintro v4 w4 ⟨hrow4, hU4, hR4⟩
  have e:Lib.compact (gj (hd ++ s.flatMap fun p => qY g m (cB g p.toNat))) = cA se g s m := by rw[hhd]; rfl
  rw[e]at hrow4
  refine zv (J9 rfl) ?_
  refine I3 ?_
  refine aq ?_
  refine WC.ret ?_
  refine ae rfl rfl (⟨hrow4.sl, ((hU2.trans hU3).trans hU4).ext, fun B O hR => hrow4.free (by decide) hR4 hR⟩)
theorem jw(w:ln)(nb:Nat)(se:Bool)(g:Gr)(s:List Int)(sv:ix)(h:NfD w nb se g)(hs:Sl encI 1 w sv s)(hp:inP g s)(he:∀q,g.en q<=40):
  Kd J6 184 [nP nb,sv] w fun v w'=>v=.int .u64 ((cX g s:Nat):Int)/\w'=w:=by
 obtain⟨nr,tr,lv,kv,xs,l1,l2,hr,b3,a9,b2,a8⟩:=h.ex;have a4:∀p,iV g p<2^40:=fun p=>jx he _ 0 zd
 have b1:=hs.len_le;refine IE func184 ntmps184 rfl rfl ?_;refine zh ?_;refine zvH (yN (q:=some ⟨nb,0,none⟩) K4 rfl rfl) ?_;refine zTH rfl rfl ?_;refine zlp (fun z:Nat=>[(0,nP nb),(5,.int .u64 ((cX g (s.take z):Nat):Int)),(10,sv),(11,nI s.length),(12,nI z)]) (fun z=>w) (fun z=>z<=s.length/\cX g (s.take z)<2^40) (fun z=>s.length-z) 0 (⟨I0 _,by rw[KT];show(0:Nat)<2^40;decide⟩) ?_;rintro q ⟨hq,a1⟩;refine zh ?_;refine zC ?_ ?_
 ·intro a0;replace a0:q<s.length:=dT a0;have a6:=hp _ (aJ a0);obtain⟨pn,a2⟩:∃pn:Nat,nth s q=(pn:Int):=⟨(nth s q).toNat,zo⟩
  have a7:pn<=g.ls.length:=by have:=a6.2;rw[a2]at this;simpa using this
  have a':=a8 pn a7;have m2:w.cell? (adr sv 1 q)=some (nI (nth s q)):=by have:=hs.cell (j:=0) a0 rfl;rwa[ax]at this
  rw[a2]at m2;have c4:=hr.c4;have a5:=a4 pn;have a3:cX g (s.take (q+1))=cX g (s.take q) ||| iV g pn:=by
   unfold cX;rw[aM a0,JB,a2];rfl
  refine zh ?_;refine zv (Jo (u:=.int .u64 ((iV g pn:Nat):Int)) a9 Ld oZ (Lp _) (pn:Int) rfl rfl rfl (by rw[a'];rfl)) ?_
  refine zvH (tp (a:=cX g (s.take q)) (b:=iV g pn) rfl rfl rfl rfl (by show _<=(18446744073709551615:Int);omega) (by show _<=(18446744073709551615:Int);omega)) ?_;rw[<-a3];refine zxd (q+1) (⟨a0,by rw[a3];exact JZ a1 a5⟩)
 intro b0;obtain rfl:q=s.length:=dF b0;rw[II];refine zh ?_;refine ae rfl rfl (⟨rfl,rfl⟩)
mutual
theorem sP:∀(t:Nd) (wi:Bool),lX t wi=true->yg t=true/\fe t=true
 |.mk k c l,wi,h=>by
  unfold lX at h
  simp only[Jb]at h
  obtain⟨h1,h2⟩:=h
  obtain⟨i1,i2⟩:=po l h2
  unfold yg fe
  rw[i1,i2,KX,KX]
  have hl:l.isEmpty=true↔l.length=0:=by cases l<;>simp
  rcases pc h1 with⟨rfl,hn,_⟩|⟨rfl,hn,_⟩|⟨rfl,hn,_⟩|⟨rfl,hn,_⟩|⟨rfl,hn,_⟩|⟨rfl,hn,_⟩|⟨rfl,hn,_⟩|⟨rfl,hn,_⟩|⟨rfl,hn,_⟩|⟨rfl,hn,_⟩
  ·exact⟨by rw[if_neg zd];exact hl.2 hn,by rw[if_neg zd,if_neg zd]⟩
  ·exact⟨by rw[if_neg zd];exact hl.2 hn,by rw[if_neg zd,if_neg zd]⟩
  ·exact⟨by rw[if_neg zd];exact hl.2 hn,by rw[if_neg zd,if_neg zd]⟩
  ·exact⟨by rw[if_neg zd];exact hl.2 hn,by rw[if_neg zd,if_neg zd]⟩
  ·have:l.isEmpty=false:=by cases l;simp at hn;rfl
   exact⟨by rw[if_pos zd,this];rfl,by rw[if_pos rfl,this];rfl⟩
  ·have:l.isEmpty=false:=by cases l;simp at hn;rfl
   exact⟨by rw[if_pos zd,this];rfl,by rw[if_neg zd,if_neg zd]⟩
  ·have:l.isEmpty=false:=by cases l;simp at hn;rfl
   exact⟨by rw[if_pos zd,this];rfl,by rw[if_neg zd,if_pos zd,hn];rfl⟩
  ·have:l.isEmpty=false:=by cases l;simp at hn;rfl
   exact⟨by rw[if_pos zd,this];rfl,by rw[if_neg zd,if_pos zd,hn];rfl⟩
  ·have:l.isEmpty=false:=by cases l;simp at hn;rfl
   exact⟨by rw[if_pos zd,this];rfl,by rw[if_neg zd,if_pos zd,hn];rfl⟩
  exact⟨by rw[if_neg zd];exact hl.2 hn,by rw[if_neg zd,if_neg zd]⟩
theorem po:∀(l:List Nd),ox l=true->jg l=true/\bI l=true
 |[],_=>⟨rfl,rfl⟩
 |t::r,h=>by
  rw[ox,Jb]at h
  obtain⟨a1,a2⟩:=sP t true h.1
  obtain⟨b1,b2⟩:=po r h.2
  unfold jg bI
  rw[a1,a2,b1,b2]
  exact⟨rfl,rfl⟩
end
theorem fj{t:Nd}(h:bn t=true):yg t=true/\fe t=true/\nsz t<=2000:=by
 unfold bn at h;simp only[Jb,decide_eq_true_eq]at h;obtain⟨h1,h2⟩:=sP t false h.2;exact⟨h1,h2,h.1⟩
theorem iZ:∀ {l:List Nd},(∀t∈l,bn t=true)->jg l=true/\bI l=true
 |[],_=>⟨rfl,rfl⟩
 |t::r,h=>by
  obtain⟨a1,a2,_⟩:=fj (h t (by simp));obtain⟨b1,b2⟩:=iZ (l:=r) fun x hx=>h x (by simp[hx])
  unfold jg bI;rw[a1,a2,b1,b2];exact⟨rfl,rfl⟩
theorem xq:∀(xs:List Nd) (i:Nat) (g:Gr),WF g->0<g.ks.length->(∀k,g.en k<=i)->∀k,(bM xs i g).en k<=i+xs.length
 |[],i,g,_,_,h,k=>by have:=h k;show g.en k<=_;omega
 |x::r,i,g,hw,h0,h,k=>by
  obtain⟨h1,h2,h3⟩:=kP hw h0 x i
  have:=xq r (i+1) (mn x i g) h1 zo (fun q=>by
   rw[ql hw h0]
   split
   ·omega
   split
   ·have:=h q;omega
   omega) k
  simp only[J4];show(bM r (i+1) (mn x i g)).en k<=_;omega
theorem Ah(xs:List Nd)(k:Nat):(jv xs).en k<=xs.length:=by
 have:=xq xs 0 g00 pf zd (fun q=>by
  unfold Gr.en g00
  by_cases e:q=0
  ·subst e;rw[ao];exact I8 _
  rw[eu (by simp;omega)];exact I8 _) k
 rw[Nat.zero_add]at this;exact this
theorem DS(xs:List Nd):Tot (jv xs):=sY xs 0 g00 pf zd (by simp[Tot,tH,g00])
theorem oO{xs:List Nd}(h1:jg xs=true)(h2:bI xs=true):(jv xs).ls.length=aX xs:=by
 have:=lI xs 0 g00 h1 h2;unfold jv;rw[this];simp[g00]
theorem Bd.mark{g:Gr}{M:Nat}(h:Bd g M){a e:Nat}(ha:a<g.ks.length):Bd (g.mark a e) M:=⟨by rw[cd];exact h.ks,h.ls,fun k=>by rw[mX ha];exact h.fr k,fun k=>by rw[mW ha];exact h.lv k⟩
theorem DO{g:Gr}(h:WF g)(h0:0<g.ks.length)(x:Nd)(i:Nat){M:Nat}(hM:Bd g M):Bd (mn x i g) (M+3+(9*nsz x-1)):=by
 have e1:=aE g;have e2:=cd g.knot g.ks.length (i+1);have e3:=aE (g.knot.mark g.ks.length (i+1));have hl:=dD g i;exact fV x _ _ _ _ (eh h h0 i).1 zo zo (((hM.knot.mark zo).knot).free zo)
theorem yA{xs:List Nd}{q:Nat}{g:Gr}(h:q<xs.length):bM (xs.drop q) q g=bM (xs.drop (q+1)) (q+1) (mn (nth xs q) q g):=by
 rw[la h,bM]
theorem F4:Bd g00 1:=by
 refine⟨zd,zd,fun k=>?_,fun k=>?_⟩
 ·unfold Gr.fr g00
  by_cases e:k=0
  ·subst e;rw[ao];decide
  rw[eu (by simp;omega)];decide
 unfold Gr.lv g00
 by_cases e:k=0
 ·subst e;rw[ao];decide
 rw[eu (by simp;omega)];decide
def dz(ts:List Nd):Int:=if 40<ts.length then 3 else if ts.any (fun t=>!bn t)=true then 1 else if 1000<1+aX ts then 7 else 0
theorem Ci(t:Nd)(x:N3)(w:ln)(h:Nt (fun _=>0) w t x):Kd J6 175 [nv x] w fun v w'=>v=.bool (!bn t)/\JX w w':=by
 have hx:=h.ones;have a3:=h.one;refine IE func175 ntmps175 rfl rfl ?_;refine zh ?_;refine aH (ay w) 1 zo rfl rfl ?_;intro xb w1 O1 a1 a4 a5 a0;refine zh ?_;refine zv (ah (us:=bt x) a1.cellsAdd (J3 _) (IL _) rfl) ?_;refine zc call83 (fh t x w1 (h.ext a0)) ?_;rintro v w2 ⟨rfl,a2⟩;refine zh ?_;refine ae rfl rfl (⟨rfl,a0.trans a2⟩)
def Aj(nb:Nat)(e:Int):ix:=.pointer (if e=0 then some ⟨nb,0,none⟩else none)
theorem DT(se:Bool)(ts:List Nd)(xs:List N3)(sv:ix)(w:ln)(hs:Sl bt 3 w sv xs)(hl:ts.length=xs.length)(hk:∀i,i<xs.length->Nt (fun _=>0) w (nth ts i) (nth xs i)):
  Kd J6 128 [.bool se,sv] w fun v w'=>∃nb,v=.tuple #[Aj nb (dz ts),nI (dz ts)]/\JX w w'/\(dz ts=0->NfD w' nb se (jv ts)):=by
 refine IE func128 ntmps128 rfl rfl ?_;refine zh ?_
 by_cases g4:40<ts.length
 ·have hM:dz ts=3:=by unfold dz;rw[if_pos g4]
  rw[hM];refine zTH rfl ((decide_eq_true zo)) ?_;refine bH rfl rfl rfl (⟨0,rfl,IF _,fun h=>by cases h⟩)
 have hq:∀i,i<xs.length->∀w',JX w w'->Kd J6 175 ([nv (nth xs i)]++(#[]:Array ix).toList) w' fun v w''=>v=.bool (!bn (nth ts i))/\JX w' w'':=fun i hi w' hE=>Ci _ _ w' ((hk i hi).ext hE)
 have j2:iG (fun i=>!bn (nth ts i)) xs.length=ts.any (fun t=>!bn t):=by rw[<-hl];exact gM (p:=fun t=>!bn t)
 refine zFH rfl ((decide_eq_false zo)) ?_;refine zc call163 (cH call175 #[] xs sv (fun i=>!bn (nth ts i)) w hs hq) ?_
 rw[j2];rintro v w1 ⟨rfl,k1⟩;refine zh ?_
 cases b0:ts.any (fun t=>!bn t)with
 |true=>
  have hM:dz ts=1:=by unfold dz;rw[if_neg g4,if_pos b0]
  rw[hM];refine zTH rfl rfl ?_;refine bH rfl rfl rfl (⟨0,rfl,k1,fun h=>by cases h⟩)
 |false=>
  have a6:∀t∈ts,bn t=true:=fun t ht=>by
   have:=List.any_eq_false.1 b0 t ht;simpa using this
  obtain⟨e6,b7⟩:=iZ a6;have hR:∀q,q<ts.length->bn (nth ts q)=true:=fun q hq=>a6 _ (aJ hq)
  have p0:=hs.ext k1;refine zFH rfl rfl ?_;refine zlp (fun z:Nat×ln=>[(0,.bool se),(1,sv),(6,nI ((1+aX (ts.take z.1):Nat):Int)),(23,sv),(24,nI xs.length),(25,nI z.1)]) (fun z=>z.2) (fun z=>z.1<=ts.length/\JX w z.2/\aX (ts.take z.1)<=z.1*2000) (fun z=>ts.length-z.1) (0,w1) (⟨I0 _,k1,by simp[aX]⟩) ?_;rintro⟨q,w2⟩ ⟨m',b5,l0⟩;dsimp only at m' b5 l0 ⊢;have k9:=hs.ext b5;refine zh ?_;refine zC ?_ ?_
  ·intro a0;replace a0:q<ts.length:=dT a0;have a7:=(hk q zo).ext b5;have i6:=a7.one;have p3:=kU (nth ts q);have m7:=(fj (hR q a0)).2.2;have m6:=gC ts q a0;refine zh ?_;refine zv (ah (us:=bt (nth xs q)) (fun j u hu=>k9.cell zo hu) (J3 _) (IL _) rfl) ?_;refine au (ay w2) 1 zo (JR _) rfl ?_;intro yb w3 O3 j1 j4 l6 p4;refine zsb (us:=#[nI (nth xs q).1,nI (nth xs q).2.1,(nth xs q).2.2]) j1 (IL _) (bX i6) ?_;have l8:JX w2 (w3.setRow yb #[nI (nth xs q).1,nI (nth xs q).2.1,(nth xs q).2.2]):=(j4.trans (IU zd j1.tag rfl)).ext;have o0:=j1.setRow (us:=#[nI (nth xs q).1,nI (nth xs q).2.1,(nth xs q).2.2]);generalize w3.setRow yb #[nI (nth xs q).1,nI (nth xs q).2.1,(nth xs q).2.2]=w4 at *;refine zh ?_;refine zv (ah (us:=bt (nth xs q)) o0.cellsAdd (J3 _) (IL _) rfl) ?_;refine zc call176 (oT (nsz (nth ts q)) zo (nth ts q) (I8 _) (nth xs q) w4 (a7.ext l8)) ?_;rintro v w5 ⟨rfl,l7⟩;refine zh ?_;rw[show((1+aX (ts.take q):Nat):Int)+((cS (nth ts q):Nat):Int)=((1+aX (ts.take (q+1)):Nat):Int)from by rw[m6];omega];refine zxd (q+1,w5) (⟨a0,(b5.trans l8).trans l7,by dsimp only;omega⟩)
  intro i8;obtain rfl:q=ts.length:=dF i8;rw[II]at l0 ⊢;refine zh ?_
  by_cases e9:1000<1+aX ts
  ·have hM:dz ts=7:=by unfold dz;rw[if_neg g4,if_neg (by rw[b0];decide),if_pos e9]
   rw[hM];refine zTH rfl ((decide_eq_true zo)) ?_;refine bH rfl rfl rfl (⟨0,rfl,b5,fun h=>by cases h⟩)
  have hM:dz ts=0:=by unfold dz;rw[if_neg g4,if_neg (by rw[b0];decide),if_neg e9]
  rw[hM];refine zFH rfl ((decide_eq_false zo)) ?_;refine aZ kvI id (ay w2) 1 zd rfl ?_;intro nr w3 O3 n4 j4 l6;refine aZ kvI tvU l6 2 zd rfl ?_;intro tr w4 O4 n3 l4 o4;have h':=n4.upd l4 zd zd;refine zv (aF GI (zeroValue278 _) rfl (by first|rfl|(simp only[J8,Jl];rfl)) rfl rfl) ?_;refine aH o4 3 zo rfl rfl ?_;intro nb w5 O5 n' j3 o3 l7;have i5:=h'.upd j3 zd zd;have i2:=n3.upd j3 zd zd;have f6:IK (fun q=>1<=q) (fun _=>0) w2 O5 w5:=((j4.mono (fun _ h=>zo) zo).trans (l4.mono (fun _ h=>zo) zo)).trans (j3.mono (fun _ h=>zo) zo);have h5:Lh O5 w5 3 nb se ⟨[],[]⟩ (.map (some nr)) (.map (some tr)) (nS) (nS) []:=⟨n',Je _ _ _ _ _ _,⟨Je _ _ _ _ _ _,rfl,fun k hk=>absurd hk (I4 k),fun k hk=>absurd hk (I4 k),fun k hk=>absurd hk (I4 k)⟩⟩
  refine zh ?_;refine zc Kk (iq w2.heap.size O5 w5 3 nb se ⟨[],[]⟩ _ _ _ _ _ zd o3 h5 zd) ?_
  rintro _ w6 ⟨rfl,O6,m0,m2,l9,o1,o2,h6⟩;have o':=k9.ext f6.ext;refine zh ?_;refine zvH (bj hs.sh Ky rfl) ?_;refine zlp (fun z:Nat×(Nat->Nat)×World×Gr×ix×ix×List K3=>[(9,nP nb),(43,sv),(44,nI xs.length),(45,nI z.1)]) (fun z=>z.2.2.1) (fun z=>z.1<=ts.length/\IK (fun q=>3<=q) O5 w5 z.2.1 z.2.2.1/\JG w2.heap.size z.2.1 z.2.2.1/\Lh z.2.1 z.2.2.1 3 nb se z.2.2.2.1 (.map (some nr)) (.map (some tr)) z.2.2.2.2.1 z.2.2.2.2.2.1 z.2.2.2.2.2.2/\WF z.2.2.2.1/\0<z.2.2.2.1.ks.length/\Bd z.2.2.2.1 (1+z.1*18010)/\bM ts 0 g00=bM (ts.drop z.1) z.1 z.2.2.2.1) (fun z=>ts.length-z.1) (0,O6,w6,g00,m0,m2,l9) (⟨I0 _,o1,o2,h6,pf,(show 0<g00.ks.length by decide),(show Bd g00 (1+0*18010)from F4),rfl⟩) ?_;rintro⟨q,O7,w7,g,g1,g9,g5⟩ ⟨m9,f5,c9,h7,b6,f9,f3,b3⟩;dsimp only at m9 f5 c9 h7 b6 f9 f3 b3 ⊢;have c7:=f6.trans (f5.mono (S':=fun q=>1<=q) (fun q h=>zo) zo);have k2:=b5.trans c7.ext;refine zh ?_;refine zC ?_ ?_
  ·intro a0;replace a0:q<ts.length:=dT a0;rw[yA a0]at b3;have m8:=hs.ext k2;have a7:Nt O7 w7 (nth ts q) (nth xs q):=((hk q zo).ext b5).upd c7;have i6:=a7.one;have m7:=(fj (hR q a0)).2.2;have h3:=(fj (hR q a0)).2.1;obtain⟨T,j7,hT⟩:=c9.bound;refine zh ?_;refine zv (ah (us:=bt (nth xs q)) (fun j u hu=>m8.cell zo hu) (J3 _) (IL _) rfl) ?_;refine au c9 T zo (JR _) rfl ?_;intro yb w8 O8 g2 d2 l5 o5;refine zh ?_;refine zsb (us:=#[nI (nth xs q).1,nI (nth xs q).2.1,(nth xs q).2.2]) g2 (IL _) (bX i6) ?_;have f4:IK (fun j=>j=T) O8 w8 O8 (w8.setRow yb #[nI (nth xs q).1,nI (nth xs q).2.1,(nth xs q).2.2]):=IU zo g2.tag rfl;obtain⟨g3,n7⟩:=Fm j7 hT d2 f4 (g2.setRow (us:=#[nI (nth xs q).1,nI (nth xs q).2.1,(nth xs q).2.2]));generalize w8.setRow yb #[nI (nth xs q).1,nI (nth xs q).2.1,(nth xs q).2.2]=w9 at *;clear g2 d2 l5 o5 f4;have h9:=h7.ext g3 zd;have f8:=c9.ext g3;have c6:IK (fun q=>3<=q) O7 w7 O7 w9:=aa zo O7 g3;have e7:=a7.ext g3;have n6:=f3.ks;have e1:=aE g;refine zh ?_;refine zc Kk (iq w2.heap.size O7 w9 3 nb se g _ _ _ _ _ zd f8 h9 zo) ?_;rintro _ g0 ⟨rfl,O10,g8,h0,a5,b2,d0,a'⟩;have m4:=a'.ks.len;have d7:g.ks.length<a5.length:=zo;have c2:=a'.c2;refine zh ?_;rw[show((q:Nat):Int)+1=((q+1:Nat):Int)from by omega];refine zvH (az a'.ks.row.sl.sh Jv (JV _) rfl rfl g.ks.length rfl d7) ?_
   refine nL a'.ks.row g.ks.length d7 2 zd (((nth a5 g.ks.length).1,(nth a5 g.ks.length).2.1,q+1):K3) (IS _) rfl zo rfl rfl rfl rfl ?_;intro d4 b8 a4;have e2:=cd g.knot g.ks.length (q+1);have k5:Lh O10 d4 3 nb se (g.knot.mark g.ks.length (q+1)) (.map (some nr)) (.map (some tr)) g8 h0 (a5.set g.ks.length ((nth a5 g.ks.length).1,(nth a5 g.ks.length).2.1,q+1)):=by
    refine⟨a'.blk.upd a4 zd zd,a'.ls.upd a4 zd zd,⟨b8,by rw[I7];omega,fun k hk=>?_,fun k hk=>?_,fun k hk=>?_⟩⟩
    ·rw[I7]at hk;rw[aW d7,mX zo]
     split
     ·rename_i e;subst e;exact(a'.ks.fr _ hk).upd a4 zo zo
     exact(a'.ks.fr k hk).upd a4 zo zo
    ·rw[I7]at hk;rw[aW d7,mW zo]
     split
     ·rename_i e;subst e;exact(a'.ks.lv _ hk).upd a4 zo zo
     exact(a'.ks.lv k hk).upd a4 zo zo
    rw[I7]at hk;rw[aW d7,Ar zo]
    split
    ·rfl
    exact a'.ks.en k hk
   have c':=d0.upd a4;have f7:=KF a4 (i:=3) zd zd;refine zh ?_;refine zc Kk (iq w2.heap.size O10 d4 3 nb se (g.knot.mark g.ks.length (q+1)) _ _ _ _ _ zd c' k5 zo) ?_;rintro _ f' ⟨rfl,O12,m1,m3,l',c8,j',o8⟩;have e3:=aE (g.knot.mark g.ks.length (q+1));rw[show((g.knot.mark g.ks.length (q+1)).ks.length:Nat)=g.ks.length+1 from by omega];have b4:=(f3.knot.mark (a:=g.ks.length) (e:=q+1) zo).knot;refine zh ?_;refine zc Kb (fW w2.heap.size O12 f' 3 nb se (g.knot.mark g.ks.length (q+1)).knot _ _ _ _ _ 0 (g.ks.length+1) zd j' o8 zo (by have:=b4.fr 0;omega) zo) ?_;rintro _ k7 ⟨O13,g7,g',g6,j6,j9,o7⟩;have k4:Lh O13 k7 3 nb se (cZ g q) (.map (some nr)) (.map (some tr)) g7 g' g6:=o7;obtain⟨m5,k8⟩:=eh b6 f9 q;have o9:=dD g q;have n8:Bd (cZ g q) (1+q*18010+3):=b4.free zo;have a8:=((b2.trans f7).trans c8).trans j6;refine zh ?_;refine zvH (ah (us:=bt (nth xs q)) (fun j u hu=>((n7 j u hu).upd a8).c) (J3 _) (IL _) rfl) ?_;refine zc KE (AB (nsz (nth ts q)) (nth ts q) (I8 _) w2.heap.size O13 k7 3 nb se (cZ g q) _ _ _ _ _ (g.ks.length+1) g.ks.length (nth xs q) (1+q*18010+3) zd j9 k4 m5 zo zo n8 zo h3 (e7.upd a8)) ?_;rintro _ k6 ⟨O14,d5,d6,d3,j5,j8,o6⟩;have k3:Lh O14 k6 3 nb se (mn (nth ts q) q g) (.map (some nr)) (.map (some tr)) d5 d6 d3:=o6;obtain⟨n2,p2,p1⟩:=kP b6 f9 (nth ts q) q;have n1:=DO b6 f9 (nth ts q) q f3;refine zh ?_
   refine zxd (q+1,O14,k6,mn (nth ts q) q g,d5,d6,d3) (⟨a0,((f5.trans c6).trans a8).trans j5,j8,k3,n2,by dsimp only;omega,n1.mono (by dsimp only;omega),b3⟩)
  intro i8;obtain rfl:q=ts.length:=dF i8;rw[List.drop_length,bM]at b3;have b3:jv ts=g:=b3;have i4:=i5.upd f5 zd zd;have i1:=i2.upd f5 zd zd;have l3:∀k,g.en k<=40:=fun k=>by rw[<-b3];have:=Ah ts k;omega
  have n5:=oO e6 b7;rw[b3]at n5 ⊢;have e':Bd g 1000000:=f3.mono zo;refine zh ?_;refine zc call180 (xd w2.heap.size O7 w7 3 nb se g nr tr g1 g9 g5 [] [] 0 0 1000000 zd c9 h7 i4 i1 b6 f9 e' zd l3) ?_;rintro _ w8 ⟨v0,d2,i3,i0,h2,i9⟩;have h8:=h7.upd d2 zd zo;have l5:=c9.upd d2;have c1:=h8.c1;have n0:g.pl 0=0:=rfl;refine zh ?_;refine zvH (bj h8.ls.sl.sh K2 rfl) ?_;refine zlp (fun z:Nat×ln×List (Int×ix)×List (Int×Nat)=>[(9,nP nb),(77,g1),(78,nI g.ls.length),(79,nI z.1)]) (fun z=>z.2.1) (fun z=>z.1<=g.ls.length/\IK (fun q=>q=1\/q=2) O7 w7 O7 z.2.1/\Jg kvI id O7 z.2.1 1 nr z.2.2.1/\Jg kvI tvU O7 z.2.1 2 tr z.2.2.2/\(∀p:Nat,p<=z.1->∃v,bm z.2.2.1 (p:Int)=some v/\Sl aR 1 z.2.1 v (cB g p)/\K6 O7 z.2.1 v)/\(∀p:Nat,p<=z.1->bm z.2.2.2 (p:Int)=some (iV g p))) (fun z=>g.ls.length-z.1) (0,w8,cp [] 0 v0,cp [] 0 ((eO g 0).foldl (eR g) 0)) (⟨I0 _,d2,i3,i0,fun p hp=>⟨v0,by obtain rfl:p=0:=KB.1 hp;rfl,by obtain rfl:p=0:=KB.1 hp;exact h2,i9⟩,fun p hp=>by obtain rfl:p=0:=KB.1 hp;rfl⟩) ?_;rintro⟨j,w9,l1,l2⟩ ⟨hj,c6,b',b9,h4,h1⟩;dsimp only at hj c6 b' b9 h4 h1 ⊢;have h9:=h7.upd c6 zd zo;have f8:=c9.upd c6;have e5:=h9.ls.sl;refine zh ?_;refine zC ?_ ?_
  ·intro a0;replace a0:j<g.ls.length:=dT a0;have n9:=b6.ls j a0;obtain⟨T,j7,hT⟩:=f8.bound;refine zh ?_;refine zv (Jy e5 K2 (Kc _) rfl rfl j rfl a0) ?_;refine zv (ah (us:=qE (nth g.ls j)) (fun q u hu=>e5.cell a0 hu) (isAgg283 _) (Kc _) rfl) ?_;refine au f8 T zo (Lm _) rfl ?_;intro yb g0 O10 b1 b2 d0 k0;refine zh ?_;refine zsa (us:=(qE (nth g.ls j)).toArray) b1 (Kc _) ?_;have f4:IK (fun j=>j=T) O10 g0 O10 (g0.setRow yb (qE (nth g.ls j)).toArray):=IU zo b1.tag rfl;obtain⟨d1,j0⟩:=Fm j7 hT b2 f4 (b1.setRow (us:=(qE (nth g.ls j)).toArray));generalize g0.setRow yb (qE (nth g.ls j)).toArray=d4 at *;clear b1 b2 d0 k0 f4;have c5:IK (fun _=>False) O7 w9 O7 d4:=aa (fun h=>h) O7 d1;have k5:=h9.ext d1 zd;have c':=f8.ext d1;have e4:=b'.upd c5 zd fun h=>h
   have d':=b9.upd c5 zd fun h=>h
   have p5:=(j0 2 _ rfl).c;refine zh ?_;refine zc call180 (xd w2.heap.size O7 d4 3 nb se g nr tr g1 g9 g5 l1 l2 ((j:Nat)+1) (nth g.ls j).2.2 1000000 zd c' k5 e4 d' b6 n9 e' zd l3) ?_;rintro _ f' ⟨v1,c8,e0,d9,d8,e8⟩;have a9:IK (fun q=>q=1\/q=2) O7 w9 O7 f':=(c5.mono (fun _ h=>h.elim) zo).trans c8;have k':g.pl (j+1)=(nth g.ls j).2.2:=by unfold Gr.pl;rw[if_neg zo];rfl
   refine zh ?_;refine zxd (j+1,f',cp l1 ((j:Nat)+1) v1,cp l2 ((j:Nat)+1) ((eO g (nth g.ls j).2.2).foldl (eR g) 0)) (⟨a0,c6.trans a9,e0,d9,fun p hp=>?_,fun p hp=>?_⟩)
   ·dsimp only at hp ⊢;rw[aU]
    by_cases e:p=j+1
    ·subst e;exact⟨v1,by rw[if_pos zo],by unfold cB;rw[k'];exact d8,e8⟩
    obtain⟨v,a1,a2,a3⟩:=h4 p zo;exact⟨v,by rw[if_neg zo];exact a1,a2.upd a3 a9,a3.upd a9⟩
   dsimp only at hp ⊢;rw[aU]
   by_cases e:p=j+1
   ·subst e;rw[if_pos zo];unfold iV;rw[k']
   rw[if_neg zo];exact h1 p zo
  intro i7;obtain rfl:j=g.ls.length:=dF i7;refine zh ?_;refine bH rfl rfl rfl (⟨nb,rfl,b5.trans (c7.trans (c6.mono (S':=fun q=>1<=q) (fun q h=>zo) zo)).ext,fun _=>⟨nr,tr,g1,g9,g5,l1,l2,h9.r,b'.fgt (i':=0) rfl,b9.fgt (i':=0) rfl,fun p hp=>by obtain⟨v,a1,a2,_⟩:=h4 p hp;exact⟨v,a1,a2⟩,h1⟩⟩)
abbrev A8(b:UInt8):List ix:=[.int .u8 (b.toNat:Int)]
theorem Il:Lb J6 293 5 1 1:=⟨Kw,by kernel_rfl,zd⟩
theorem Dc:Lb J6 130 22 1 24:=⟨IR,by kernel_rfl,zd⟩
theorem lY:Lb J6 27 24 1 8:=⟨underlying27,by kernel_rfl,zd⟩
theorem pR(n:Nat):Lv.wrap (n:Int)=((JO (n % 256)).toNat:Int):=by
 rw[Lu];simp only[UInt8.toNat_ofNat'];omega
theorem yr(s:List Int)(sv:ix)(w:ln)(h:Sl encI 1 w sv s)(ho:okS s)(hl:s.length<=100000):Kd J6 232 [sv] w fun v w'=>v=.string (bs (tu s))/\JX w w':=by
 refine IE func232 ntmps232 rfl rfl ?_;refine zh ?_
 refine zlp (fun z:Nat×ix×(Nat->Nat)×World=>[(3,z.2.1),(6,sv),(7,nI s.length),(8,nI z.1)]) (fun z=>z.2.2.2) (fun z=>z.1<=s.length/\J1 A8 5 1 z.2.2.1 z.2.2.2 1 z.2.1 (tu (s.take z.1))/\(tu (s.take z.1)).length=2*z.1/\IK (fun q=>q=1) (fun _=>0) w z.2.2.1 z.2.2.2/\JG w.heap.size z.2.2.1 z.2.2.2) (fun z=>s.length-z.1) (0,nS,fun _=>0,w) (⟨I0 _,Je _ _ _ _ _ _,rfl,Jp zd _ _,ay w⟩) ?_;rintro⟨q,v1,O1,w1⟩ ⟨hq,a0,a4,hU,hR⟩;dsimp only at hq a0 a4 hU hR ⊢;have h1:=h.ext hU.ext;refine zh ?_
 refine zC ?_ ?_
 ·intro a1;replace a1:q<s.length:=dT a1;have a7:=ho _ (aJ a1);obtain⟨p,hp⟩:∃p:Nat,nth s q=(p:Int):=⟨(nth s q).toNat,zo⟩
  have b1:p<=999:=by have:=a7.2;rw[hp]at this;simpa using this
  have m1:w1.cell? (adr sv 1 q)=some (nI (nth s q)):=by have:=h1.cell (j:=0) a1 rfl;rwa[ax]at this
  rw[hp]at m1;have a3:tu (s.take (q+1))=tu (s.take q)++[JO (p / 256),JO (p % 256)]:=by
   unfold tu;rw[aM a1,Js,hp];simp
  refine zh ?_;refine zv (gT (a:=p) (b:=8) rfl rfl rfl rfl zd) ?_
  refine zvH (mC Kg KM rfl) ?_;refine zv (mC Kg KM rfl) ?_
  rw[pR p,pR (p / 2^8),show p / 2^8 % 256=p / 256 from by omega];refine ec Kw (sizeOf5 _) (zeroValue5 _) A8 [JO (p / 256),JO (p % 256)] rfl rfl rfl rfl zk (by simp) rfl ?_;intro bv w2 a9 a6;have a5:IK (fun _=>False) O1 w1 O1 w2:=aa (fun h=>h) O1 a6;refine aB Il (a0.upd a5 zd fun h=>h) (hR.ext a6) a9 (by simp) rfl rfl (by simp) (by simp[I5]) (by simp;omega) (by simp;omega) zd rfl ?_;intro v3 w3 O3 a2 a' b0;refine zh ?_;refine zxd (q+1,v3,O3,w3) (⟨a1,by dsimp only;rw[a3];exact a2,by dsimp only;rw[a3];simp[a4];omega,(hU.trans (a5.mono (fun _ h=>h.elim) zd)).trans a',b0⟩)
 intro a8;obtain rfl:q=s.length:=dF a8;rw[II]at a0;refine zh ?_;refine zvH (xB a0.sl Kw KM Lq rfl) ?_;refine ae rfl rfl (⟨rfl,hU.ext⟩)
theorem GF:cF J6 287 #[(0,1),(1,1),(2,1)]:=⟨_,underlying287,fun w=>by kernel_rfl⟩
theorem xU:cF J6 170 #[(0,1),(1,1)]:=⟨_,underlying170,fun w=>by kernel_rfl⟩
theorem sI:KeyL J6 9 Ki:=CV Lq
abbrev yQ(v:ix):List ix:=[v]
structure MkO(O:Nat->Nat)(w:ln)(i mb nb kr:Nat)(sv:ix)(vs:List ix)(S:List (List Int))(l:List (ByteArray×Int)):Prop where
 blk:Ju O w i mb #[nP nb,.map (some kr),sv] 287
 map:Jg Ki kvI O w (i+1) kr l
 row:J1 yQ 22 1 O w (i+2) sv vs
 len:vs.length=S.length
 at_:∀k,k<S.length->Sl encI 1 w (nth vs k) (nth S k)/\K6 O w (nth vs k)
 ok:∀s∈S,okS s
 key:∀s,okS s->bm l (bs (tu s))=(BN S s).map fun(k:Nat)=>(k:Int)
theorem MkO.upd{T:Nat->Prop}{O O':Nat->Nat}{w w':ln}{i mb nb kr:Nat}{sv:ix}{vs:List ix}{S:List (List Int)}{l:List (ByteArray×Int)}(h:MkO O w i mb nb kr sv vs S l)(u:IK T O w O' w')(hi:i≠0)(h1:¬T i)(h2:¬T (i+1))(h3:¬T (i+2)):MkO O' w' i mb nb kr sv vs S l:=
 ⟨h.blk.upd u hi h1,h.map.upd u zo h2,h.row.upd u zo h3,h.len,fun k hk=>⟨(h.at_ k hk).1.upd (h.at_ k hk).2 u,(h.at_ k hk).2.upd u⟩,h.ok,h.key⟩
theorem AM{S:List (List Int)}{s t:List Int}(h:BN S s=none):BN (S++[s]) t=if s=t then some S.length else BN S t:=by
 unfold BN at h ⊢;rw[List.findIdx?_append]
 by_cases e:s=t
 ·subst e;rw[h,if_pos rfl];simp[KD]
 rw[if_neg e]
 cases hq:S.findIdx? (· == t)with
 |some k=>simp
 |none=>simp[KD,e]
theorem lG(B:Nat)(O:Nat->Nat)(w:ln)(i mb nb kr:Nat)(mv:ix)(vs:List ix)(S:List (List Int))(l:List (ByteArray×Int))(s:List Int)(sv:ix)(hi:i≠0)(hR:JG B O w)(h:MkO O w i mb nb kr mv vs S l)(hs:Sl encI 1 w sv s)(hf:K6 O w sv)(ho:okS s)(b8:s.length<=100000)(d1:S.length<=100000):
  Kd J6 181 [nP mb,sv] w fun v w'=>∃O' mv' vs' l',v=nI ((BL S s:Nat):Int)/\IK (fun q=>i<=q/\q<=i+2) O w O' w'/\JG B O' w'/\MkO O' w' i mb nb kr mv' vs' (qn S s) l':=by
 have hz:¬(fun q=>i<=q/\q<=i+2) 0:=zo;have b9:=hs.shape;obtain⟨sa,sc,rfl,_⟩:=b9;refine IE func181 ntmps181 rfl rfl ?_;refine zh ?_;refine zc call232 (yr s _ w hs ho b8) ?_;rintro _ w1 ⟨rfl,b7⟩;have a':IK (fun _=>False) O w O w1:=aa (fun h=>h) O b7;have h1:=h.upd a' hi (fun h=>h) (fun h=>h) fun h=>h
 have b6:=hR.upd a';have b3:=hs.ext b7;have a9:=hf.upd a';have a4:=h.key s ho;have a7:IK (fun q=>i<=q/\q<=i+2) O w O w1:=a'.mono (fun _ h=>h.elim) hz;have c1:w1.cell? (nA mb 1)=some (.map (some kr)):=h1.blk.cell 1 rfl;have c2:w1.cell? (nA mb 2)=some mv:=h1.blk.cell 2 rfl;refine zh ?_
 cases a0:BN S s with
 |some k=>
  rw[a0]at a4;have hn:BL S s=k:=by unfold BL;rw[a0];rfl
  have hS:qn S s=S:=by unfold qn;rw[a0];rfl
  rw[hn,hS];refine zvH (cE (u:=.tuple #[kvI (k:Int),.bool true]) h1.map Kx sI (JQ _) (bs (tu s)) rfl rfl rfl (by rw[a4];rfl)) ?_;refine zFH rfl rfl ?_;refine ae rfl rfl (⟨O,mv,vs,l,rfl,a7,b6,h1⟩)
 |none=>
  rw[a0]at a4;have hn:BL S s=S.length:=by unfold BL;rw[a0];rfl
  have hS:qn S s=S++[s]:=by unfold qn;rw[a0];rfl
  rw[hn,hS];have a8:=h.len;refine zvH (cE (u:=.tuple #[kvI 0,.bool false]) h1.map Kx sI (JQ _) (bs (tu s)) rfl rfl rfl (by rw[a4];rfl)) ?_;refine zTH rfl rfl ?_;refine zvH (bj h1.row.sl.sh IR rfl) ?_;refine J5 h1.map Kx sI zo (bs (tu s)) (vs.length:Int) rfl rfl rfl rfl rfl ?_;intro w2 c6 a6;have b5:=h1.blk.upd a6 hi zo;have b':=h1.row.upd a6 zo zo;have c9:=b6.upd a6;have c':=b3.upd a9 a6;have d0:=a9.upd a6;have d2:w2.cell? (nA mb 2)=some mv:=b5.cell 2 rfl;refine zh ?_;refine Kq Dc b' c9 ((.slice sa s.length sc:ix)) (fun _=>rfl) rfl rfl rfl (by simp[I5]) zo zo zo zd rfl rfl ?_;intro a5 w3 O3 b4 b2 c8;have b1:=b5.upd b2 hi zo;have c5:=c6.upd b2 zo zo;refine zh ?_;refine aj (j:=2) b1 rfl (L2 _) b4.one rfl rfl rfl ?_;have b0:IK (fun q=>q=i) O3 w3 O3 (w3.setCell ⟨mb,2,none⟩ a5):=Jn (fun e=>hi e.symm) b1.tag rfl;have c7:Ju O3 (w3.setCell ⟨mb,2,none⟩ a5) i mb #[nP nb,.map (some kr),a5] 287:=b1.set 2 a5;have a3:IK (fun q=>i<=q/\q<=i+2) O w1 O3 (w3.setCell ⟨mb,2,none⟩ a5):=((a6.mono (fun q h=>zo) hz).trans (b2.mono (fun q h=>zo) hz)).trans (b0.mono (fun q h=>zo) hz);refine zh ?_;refine ae rfl rfl (⟨O3,a5,vs++[.slice sa s.length sc],cp l (bs (tu s)) (vs.length:Int),by rw[a8],a7.trans a3,(c8.upd b0),⟨c7,c5.upd b0 zo zo,b4.upd b0 zo zo,by simp[a8],fun k hk=>?_,fun t ht=>?_,fun t ht=>?_⟩⟩)
  ·rw[aA,aA,a8]
   by_cases e:k<S.length
   ·rw[if_pos e,if_pos e];obtain⟨a1,a2⟩:=h1.at_ k e;exact⟨a1.upd a2 a3,a2.upd a3⟩
   rw[if_neg e,if_neg e];simp only[IT,J4,K9]at hk;rw[show k-S.length=0 from by omega,ao,ao];exact⟨b3.upd a9 a3,a9.upd a3⟩
  ·rcases IZ.1 ht with ht|ht
   ·exact h.ok t ht
   rw[I1.1 ht];exact ho
  rw[aU,AM a0]
  by_cases e:s=t
  ·subst e;rw[if_pos rfl,if_pos rfl,a8];rfl
  rw[if_neg (fun e2=>e (xe ho ht (Dd e2))),if_neg e];exact h.key t ht
theorem B5{r:List Nat}{m N x:Nat}(hr:r.length=m)(hm:m<N):(r++IM (N-m) 0).set m x=(r++[x])++IM (N-(m+1)) 0:=by
 obtain⟨k,hk⟩:∃k,N-m=k+1:=⟨N-m-1,zo⟩
 rw[show N-(m+1)=k from by omega,hk,List.set_append_right _ _ zo,hr,JY,KC,List.set_cons_zero,Jk];rfl
theorem Free.lowT{O:Nat->Nat}{w:ln}{v:ix}(h:K6 O w v)(T:Nat):K6 (Go.VL.lowT O T) w v:=fun a n c e hn=>⟨jO (h a n c e hn).1,(h a n c e hn).2⟩
theorem MkO.lowT{O:Nat->Nat}{w:ln}{i mb nb kr:Nat}{sv:ix}{vs:List ix}{S:List (List Int)}{l:List (ByteArray×Int)}(h:MkO O w i mb nb kr sv vs S l){T:Nat}(hT:i+2<T):MkO (Go.VL.lowT O T) w i mb nb kr sv vs S l:=
 ⟨h.blk.lowT zo,h.map.fgt (by unfold Go.VL.lowT;rw[h.map.tag,if_neg zo]),h.row.lowT zo,h.len,fun k hk=>⟨(h.at_ k hk).1,Free.lowT (h.at_ k hk).2 T⟩,h.ok,h.key⟩
theorem Da{g:Gr}(hl:g.ls.length<=999){s:List Int}(h:inP g s):okS s:=fun x hx=>⟨(h x hx).1,K0 (h x hx).2 hl⟩
theorem A9(B:Nat)(O:Nat->Nat)(w w0:ln)(i mb nb kr:Nat)(se:Bool)(g:Gr)(mv:ix)(vs:List ix)(S:List (List Int))(l:List (ByteArray×Int))(q:Nat)(hi:i≠0)(hR:JG B O w)(h:MkO O w i mb nb kr mv vs S l)(hD:NfD w0 nb se g)(f5:IK (fun q=>1<=q) (fun _=>0) w0 O w) 
  (hw:WF g) (h0:0<g.ks.length) (ht:Tot g) (d4:g.ls.length<=999) (d5:∀s∈S,inP g s) (c9:∀s∈S,s.length<=1000) (hq:q<S.length) (hS:S.length<=1000) :
  Kd J6 183 [nP mb,nI (q:Nat)] w fun v w'=>∃O' mv' vs' l',IK (fun q=>i<=q/\q<=i+2) O w O' w'/\JG B O' w'/\MkO O' w' i mb nb kr mv' vs' (df (cA se g) (nth S q) S 37).1 l'/\Sl aR 1 w' v (df (cA se g) (nth S q) S 37).2/\K6 O' w' v/\(∀s∈(df (cA se g) (nth S q) S 37).1,inP g s/\s.length<=1000):=by
 obtain⟨T0,g3,c6⟩:=hR.bound;obtain⟨T,g2⟩:∃T,T=T0+i+3:=⟨_,rfl⟩
 have hT:∀b,O b<T:=fun b=>by have:=c6 b;omega
 have a5:=jJ (cA se g) (nth S q) S;have b5:=d5 _ (aJ hq);have e3:=c9 _ (aJ hq);refine IE func183 ntmps183 rfl rfl ?_;refine zh ?_;obtain⟨N,hN⟩:∃N:Nat,N=37:=⟨_,rfl⟩
 refine cW ke (val:=fun n:Nat=>nI (n:Int)) (0:Nat) zk (fun _=>rfl) hR T zo 37 rfl rfl zd zd zd zd rfl ?_;intro w1 O1 ov e5 a4 d7 f8 g4;clear e5;have e8:=h.upd d7 hi zo zo zo;refine zh ?_
 refine zvH (bj a4.sl.sh I6 rfl) ?_;rw[Kp];refine zlp (fun z:Nat×(Nat->Nat)×World×ix×List ix×List (ByteArray×Int)=>[(0,nP mb),(1,nI (q:Nat)),(5,ov),(8,ov),(9,nI ((37:Nat):Int)),(10,nI z.1)]) (fun z=>z.2.2.1) (fun z=>z.1<=37/\IK (fun j=>j=T\/i<=j/\j<=i+2) O w z.2.1 z.2.2.1/\JG B z.2.1 z.2.2.1/\MkO z.2.1 z.2.2.1 i mb nb kr z.2.2.2.1 z.2.2.2.2.1 (df (cA se g) (nth S q) S z.1).1 z.2.2.2.2.2/\J1 aR 3 1 z.2.1 z.2.2.1 T ov ((df (cA se g) (nth S q) S z.1).2++IM (37-z.1) 0)/\∀s∈(df (cA se g) (nth S q) S z.1).1,inP g s/\s.length<=1000) (fun z=>37-z.1) (0,O1,w1,mv,vs,l) (⟨I0 _,d7.mono (fun _ h=>.inl h) zo,f8,e8,a4,fun s hs=>⟨d5 s hs,c9 s hs⟩⟩) ?_
 rintro⟨m,O2,w2,a',a9,l2⟩ ⟨b7,b4,a8,b0,a0,a1⟩;dsimp only at b7 b4 a8 b0 a0 a1 ⊢;have c':=(a5 m).len;have c8:=(a5 m).top;have b2:((df (cA se g) (nth S q) S m).2++IM (37-m) 0).length=37:=by simp[c'];omega
 refine zh ?_;refine zC ?_ ?_
 ·intro b1;replace b1:m<37:=dT b1;obtain⟨pq,d0⟩:=(a5 m).pre;have e4:q<(df (cA se g) (nth S q) S m).1.length:=by rw[d0];simp;omega
  have e6:nth (df (cA se g) (nth S q) S m).1 q=nth S q:=by rw[d0,aA,if_pos hq]
  have c5:=f5.trans (b4.mono (S':=fun q=>1<=q) (fun j h=>zo) zo);have hU02d:=c5.drew;have f9:=hD.ext hU02d.ext;have hm2d:=b0.upd (aa (S:=fun _=>False) (fun h=>h) O2 (IF w2).drew) hi (fun h=>h) (fun h=>h) fun h=>h
  have c0:w2.drew.cell? (nA mb 0)=some (nP nb):=hm2d.blk.cell 0 rfl;have c2:w2.drew.cell? (nA mb 2)=some a':=hm2d.blk.cell 2 rfl;have c7:=hm2d.row.sl;have g0:=hm2d.len;have cq:w2.drew.cell? (adr a' 1 q)=some (nth a9 q):=by have:=c7.cell (i:=q) (j:=0) zo rfl;rwa[ax]at this
  obtain⟨a6,f3⟩:=hm2d.at_ q e4;rw[e6]at a6;refine zh ?_;refine aK (fun W=>W.cell? (nA mb 0)=some (nP nb)) 19 rfl zk ?_;refine zrm 0 rfl c0 rfl ?_;refine zrm 1 rfl c0 rfl ?_;refine zrm 2 rfl c0 rfl ?_;refine zrm 3 rfl c0 rfl ?_;refine zr 4 rfl c0 (fun _=>ak rfl) ?_;refine zrf 5 rfl c0 rfl ?_;refine zt 6 rfl c0 (fun w1 e1=>RV.ld e1 rfl) ?_;refine zrm 7 rfl c0 rfl ?_;refine zr 8 rfl c0 (fun _=>ak rfl) ?_;refine zrf 9 rfl c0 rfl ?_;refine zrm 11 rfl c0 rfl ?_;refine zrm 14 rfl c0 rfl ?_;refine I9 10 zk rfl ?_;refine zvH (RV.ld c2 rfl) ?_;refine af (c0) ?_;refine zr 12 rfl (c0) (fun _=>az c7.sh IR (JT _) rfl rfl q rfl zo) ?_;refine I9 13 zk rfl ?_;refine zvH (RV.ld cq rfl) ?_;refine af (c0) ?_;refine I9 15 zk rfl ?_;refine zc call233 (step_ret w2.drew nb se g (nth S q) (nth a9 q) (m:Nat) f9 a6 hw h0 ht b5 e3 d4) ?_;rintro tv w3 ⟨e2,d8,e'⟩;refine zh ?_;refine af (d8.cell c0) ?_;have b8:=e' B O2 a8.drew;have b3:IK (fun _=>False) O2 w2 O2 w3:=aa (fun h=>h) O2 ((IF w2).drew.trans d8);have e7:=b0.upd b3 hi (fun h=>h) (fun h=>h) fun h=>h
  have f7:=a8.upd b3;have a7:=a0.upd b3 zo fun h=>h
  have d1:=tL hw h0 (mH se g) b5 (m:Nat);have g1:=BX (se:=se) hw h0 b5 (m:Nat);refine I9 16 zk rfl ?_;refine zc call181 (lG B O2 w3 i mb nb kr a' a9 (df (cA se g) (nth S q) S m).1 l2 (cA se g (nth S q) (m:Nat)) tv hi f7 e7 e2 b8 (Da d4 d1) zo zo) ?_;rintro _ w4 ⟨O4,e0,d',l4,rfl,d6,f6,d3⟩;have d9:w4.cell? (nA mb 0)=some (nP nb):=d3.blk.cell 0 rfl;refine zh ?_;refine af (d9) ?_;have a3:=a7.upd d6 zo zo;have b6:=a3.sl;refine zr 17 rfl (d9) (fun _=>az b6.sh I6 (IS _) rfl rfl m rfl zo) ?_;refine I9 18 zk rfl ?_;refine JK a3 m zo (BL (df (cA se g) (nth S q) S m).1 (cA se g (nth S q) (m:Nat))) (IS _) rfl zo rfl rfl rfl rfl ?_;intro w5 a2 b9;rw[B5 c' b1]at a2;have d2:=d3.upd b9 hi zo zo zo;have f':w5.cell? (nA mb 0)=some (nP nb):=d2.blk.cell 0 rfl;refine zh ?_;refine af (f') ?_;have b':IK (fun j=>j=T\/i<=j/\j<=i+2) O w O4 w5:=((b4.trans (b3.mono (fun _ h=>h.elim) zo)).trans (d6.mono (fun _ h=>.inr h) zo)).trans (b9.mono (fun _ h=>.inl h) zo);refine Jd zk ?_;refine zh ?_;refine zxd (m+1,O4,w5,e0,d',l4) (⟨b1,b',f6.upd b9,d2,a2,fun s hs=>?_⟩)
  ·have hs:s∈qn (df (cA se g) (nth S q) S m).1 (cA se g (nth S q) (m:Nat)):=hs;unfold qn at hs
   split at hs
   ·exact a1 s hs
   rcases IZ.1 hs with hs|hs
   ·exact a1 s hs
   rw[I1.1 hs];exact⟨d1,zo⟩
 intro e9;obtain rfl:m=37:=dF e9;rw[JY,List.replicate_zero,IN]at a0
 have f4:=b4.lowT (S':=fun q=>i<=q/\q<=i+2) hT (fun b hb=>by
  rcases hb with hb|hb
  ·have:=hT b;omega
  exact hb) zo
 refine zh ?_;refine ae rfl rfl (⟨lowT O2 T,a',a9,l2,f4,a8.lowT T,MkO.lowT b0 zo,a0.sl,fun a n c e hn=>?_,a1⟩)
 have hb:=a0.1.tag a.block (by subst e;rfl);refine⟨by unfold lowT;rw[hb,if_pos (I8 _)],(a8.rng a.block (by rw[hb];omega)).2⟩
abbrev iw(n:Nat):List ix:=[.int .u64 (n:Int)]
def RowsN(w:ln)(v:ix)(rows:List (List Nat)):Prop:=∃vs,Sl yQ 1 w v vs/\vs.length=rows.length/\∀i,i<rows.length->Sl aR 1 w (nth vs i) (nth rows i)
theorem RowsN.ext{w w':ln}{v:ix}{rows:List (List Nat)}(h:RowsN w v rows)(e:JX w w'):RowsN w' v rows:=by
 obtain⟨vs,h1,h2,h3⟩:=h;exact⟨vs,h1.ext e,h2,fun i hi=>(h3 i hi).ext e⟩
structure RwO(O:Nat->Nat)(w:ln)(i:Nat)(v:ix)(vs:List ix)(rows:List (List Nat)):Prop where
 row:J1 yQ 22 1 O w i v vs
 len:vs.length=rows.length
 at_:∀k,k<rows.length->Sl aR 1 w (nth vs k) (nth rows k)/\K6 O w (nth vs k)
theorem RwO.upd{S:Nat->Prop}{O O':Nat->Nat}{w w':ln}{i:Nat}{v:ix}{vs:List ix}{rows:List (List Nat)}(h:RwO O w i v vs rows)(u:IK S O w O' w')(hi:i≠0)(hS:¬S i):RwO O' w' i v vs rows:=
 ⟨h.row.upd u hi hS,h.len,fun k hk=>⟨(h.at_ k hk).1.upd (h.at_ k hk).2 u,(h.at_ k hk).2.upd u⟩⟩
theorem RwO.drew{O:Nat->Nat}{w:ln}{i:Nat}{v:ix}{vs:List ix}{rows:List (List Nat)}(h:RwO O w i v vs rows):RwO O w.drew i v vs rows:=⟨h.row.drew,h.len,fun k hk=>⟨(h.at_ k hk).1.drew,(h.at_ k hk).2.upd (aa (S:=fun _=>False) (fun h=>h) O (IF w).drew)⟩⟩
theorem RwO.rows{O:Nat->Nat}{w:ln}{i:Nat}{v:ix}{vs:List ix}{rows:List (List Nat)}(h:RwO O w i v vs rows):RowsN w v rows:=⟨vs,h.row.sl,h.len,fun k hk=>(h.at_ k hk).1⟩
def Ie(w:ln)(v:ix):Option (List (List Nat)×List Nat)->Prop
 |some d=>∃nv tv,v=.tuple #[.agg #[nv,tv],nI 0]/\nv.oneCell'=true/\tv.oneCell'=true/\RowsN w nv d.1/\Sl iw 1 w tv d.2
 |none=>v=.tuple #[.agg #[nS,nS],nI 7]
set_option maxHeartbeats 1000000 in
theorem Ba(nb:Nat)(se:Bool)(g:Gr)(w:ln)(hD:NfD w nb se g)(hw:WF g)(h0:0<g.ks.length)(ht:Tot g)(m0:g.ls.length<=999)(j0:∀q,g.en q<=40):
  Kd J6 129 [nP nb] w fun v w'=>JX w w'/\Ie w' v (CK (cA se g) (cX g)):=by
 have e4:∀s,cX g s<2^40:=fun s=>by
  have m8:∀(s:List Int) (b:Nat),b<2^40->s.foldl (fun b p=>b ||| iV g p.toNat) b<2^40:=fun s=>by
   induction s with
   |nil=>exact fun b hb=>hb
   |cons p s ih=>exact fun b hb=>ih _ (JZ hb (jx j0 _ 0 zd))
  exact m8 s 0 zd
 refine IE func129 ntmps129 rfl rfl ?_;refine zh ?_
 refine au (ay w) 7 zo (JA _) rfl ?_;intro cb wa Oa k8 n6 o0 o9;refine zh ?_
 refine zvH (ed (q:=some ⟨nb,0,none⟩) K4 rfl rfl) ?_;refine zFH rfl rfl ?_
 refine aZ Ki kvI o0 2 zd rfl ?_;intro kr wb Ob n1 m2 n';refine zv (aF GF (zeroValue287 _) rfl (by first|rfl|(simp only[J8,Jl];rfl)) rfl rfl) ?_
 refine aH n' 1 zo rfl rfl ?_;intro mb wc Oc n0 l3 m3 o8;have k2:MkO Oc wc 1 mb nb kr (nS) [] [] []:=⟨n0,n1.upd l3 zd zd,Je _ _ _ _ _ _,rfl,fun k hk=>absurd hk (I4 k),fun s hs=>absurd hs (by simp),fun s _=>rfl⟩
 have l5:=((n6.mono (S':=fun j=>1<=j) (fun j h=>zo) zd).trans (m2.mono (fun j h=>zo) zd)).trans (l3.mono (fun j h=>zo) zd);refine zh ?_;refine zc call182 (Bj wc nb) ?_;rintro bv wd ⟨n4,o3,n5⟩;have k9:=n5 w.heap.size Oc m3;have j7:IK (fun _=>False) Oc wc Oc wd:=aa (fun h=>h) Oc o3;have i':inP g [0]:=fun x hx=>by rw[I1.1 hx];exact⟨L8 _,I0 _⟩
 refine zc call181 (lG w.heap.size Oc wd 1 mb nb kr _ _ _ _ [0] bv zd (m3.upd j7) (k2.upd j7 zd (fun h=>h) (fun h=>h) fun h=>h) n4 k9 (Da m0 i') zd zd) ?_;rintro _ we ⟨Oe,m7,m5,le,rfl,m1,n9,i9⟩;have n7:qn [] [0]=[[0]]:=rfl;rw[n7]at i9;have l1:IK (fun j=>1<=j) Oc wd Oe we:=m1.mono (fun j h=>zo) zd;refine zh ?_
 refine au n9 4 zo (JA _) rfl ?_;intro db wf Of k4 l0 n8 o7;have k7:=(((k8.upd m2 zd zd).upd l3 zd zd).upd j7 zd fun h=>h)
 have k6:=(k7.upd m1 zd zd).upd l0 zd zd;have l4:=((l5.trans (j7.mono (fun _ h=>h.elim) zd)).trans l1).trans (l0.mono (fun j h=>zo) zd);refine zh ?_;refine zlp (fun z:Nat×(Nat->Nat)×World×ix×List ix×List (List Int)×List (ByteArray×Int)×List (List Nat)×List Nat×List ix×ix×ix=>[(0,nP nb),(2,nP cb),(3,nI 0),(4,nP mb),(5,nP db),(6,nI z.1)]) (fun z=>z.2.2.1) (fun z=>IK (fun j=>1<=j) (fun _=>0) w z.2.1 z.2.2.1/\JG w.heap.size z.2.1 z.2.2.1/\MkO z.2.1 z.2.2.1 1 mb nb kr z.2.2.2.1 z.2.2.2.2.1 z.2.2.2.2.2.1 z.2.2.2.2.2.2.1/\Ju z.2.1 z.2.2.1 4 db #[z.2.2.2.2.2.2.2.2.2.2.1,z.2.2.2.2.2.2.2.2.2.2.2] 170/\RwO z.2.1 z.2.2.1 5 z.2.2.2.2.2.2.2.2.2.2.1 z.2.2.2.2.2.2.2.2.2.1 z.2.2.2.2.2.2.2.1/\J1 iw 24 1 z.2.1 z.2.2.1 6 z.2.2.2.2.2.2.2.2.2.2.2 z.2.2.2.2.2.2.2.2.1/\Ju z.2.1 z.2.2.1 7 cb #[nS,nS] 170/\DI (cA se g) (cX g) z.1 z.2.2.2.2.2.1 z.2.2.2.2.2.2.2.1 z.2.2.2.2.2.2.2.2.1/\(∀s∈z.2.2.2.2.2.1,inP g s/\s.length<=1000)/\D8 (cA se g) (cX g) (1002-z.1) z.1 z.2.2.2.2.2.1 z.2.2.2.2.2.2.2.1 z.2.2.2.2.2.2.2.2.1=CK (cA se g) (cX g)) (fun z=>1002-z.1) (0,Of,wf,m7,m5,[[0]],le,[],[],[],nS,nS) (⟨l4,n8,i9.upd l0 zd zd zd zd,k4,⟨Je _ _ _ _ _ _,rfl,fun k hk=>absurd hk (I4 k)⟩,Je _ _ _ _ _ _,k6,xF _ _,fun s hs=>by rw[I1.1 hs];exact⟨i',zd⟩,rfl⟩) ?_;rintro⟨q,O1,w1,mv,vs,S,l,rows,i7,i4,nv,tv⟩ ⟨b2,m4,e9,f4,d',e3,e0,i6,f7,c6⟩;dsimp only at b2 m4 e9 f4 d' e3 e0 i6 f7 c6 ⊢;have o6:=i6.le
 have o5:=i6.rl;have o4:=i6.tl;have j3:=i6.len;have m':=d'.len;have c2:w1.cell? (nA mb 2)=some mv:=e9.blk.cell 2 rfl;have i5:=e9.len;refine zh ?_;refine zvH (bj e9.row.sl.sh IR rfl) ?_;refine zC ?_ ?_
 ·intro g0;replace g0:q<S.length:=dT g0;obtain⟨n,hn⟩:∃n,1002-q=n+1:=⟨1001-q,zo⟩
  rw[hn,D8,if_pos g0]at c6;have e':=jJ (cA se g) (nth S q) S 37;have j2:=i6.next g0;have j6:=(f7 _ (aJ g0)).1;have n3:w1.drew.cell? (nA db 0)=some nv:=f4.cell 0 rfl;have hmk1d:=e9.upd (aa (S:=fun _=>False) (fun h=>h) O1 (IF w1).drew) zd (fun h=>h) (fun h=>h) fun h=>h
  have h1:=A9 w.heap.size O1 w1.drew w 1 mb nb kr se g mv vs S l q zd m4.drew hmk1d hD b2.drew hw h0 ht m0 (fun s hs=>(f7 s hs).1) (fun s hs=>(f7 s hs).2) g0 j3;generalize df (cA se g) (nth S q) S 37=RT at *;obtain⟨S1,r1⟩:=RT;dsimp only at c6 e' j2 h1;refine zh ?_;refine aK (fun _=>True) 9 rfl zk ?_;refine zin trivial fun zS=>?_
  refine zrf 0 rfl zS rfl ?_;refine zrm 2 rfl zS rfl ?_
  refine zrm 3 rfl zS rfl ?_;refine bZ 1 4 zk rfl rfl ?_ ?_
  ·refine zvH (RV.ld n3 rfl) ?_;refine af trivial ?_
   refine I9 4 zk rfl ?_;refine zc call183 h1 ?_
   rintro rv w2 ⟨O2,a7,b',l2,k',l8,h6,e6,e8,f3⟩;have g9:=e6.shape;obtain⟨ra,rc,rfl,_⟩:=g9;have b6:IK (fun j=>1<=j/\j<=3) O1 w1.drew O2 w2:=k';have g8:=d'.drew.upd b6 zd zd;have f8:=f4.drew.upd b6 zd zd;have h9:=e0.drew.upd b6 zd zd;have g6:=e3.drew.upd b6 zd zd;have h':IK (fun j=>1<=j/\j<=3) O1 w1 O2 w2:=(aa zd O1 (IF w1).drew).trans b6;refine zh ?_;refine af trivial ?_;refine I9 5 zk rfl ?_;refine cU Dc (enc:=yQ) (.slice ra r1.length rc:ix) rfl rfl rfl zd rfl ?_;intro m6 w3 g7 l9;have c7:IK (fun _=>False) O2 w2 O2 w3:=aa (fun h=>h) O2 l9;have i0:IK (fun q=>1<=q) O1 w1 O2 w3:=(h'.mono (fun j h=>zo) zd).trans (c7.mono (fun _ h=>h.elim) zd);have l7:=l8.upd c7;have d2:=g8.upd c7 zd fun h=>h
   have h7:=f8.upd c7 zd fun h=>h
   have h8:=h9.upd c7 zd fun h=>h
   have g5:=g6.upd c7 zd fun h=>h
   have h5:=h6.upd c7 zd (fun h=>h) (fun h=>h) fun h=>h
   have g':=e6.upd e8 c7;have d3:=e8.upd c7;refine zh ?_;refine af trivial ?_;refine I9 6 zk rfl ?_;refine aB Dc (d2.row) l7 g7 (by simp) rfl rfl (by simp) (fun u hu c hc=>by rw[I1.1 hu]at hc;rw[I1.1 hc];rfl) (by simp;omega) (by simp;omega) zd rfl ?_;intro b3 w4 O4 c8 b8 l6;have d8:=h7.upd b8 zd zd;refine zh ?_;refine af (trivial) ?_;refine zrf 7 rfl (trivial) rfl ?_;refine I9 8 zk rfl ?_;refine aj (j:=0) d8 rfl (L2 _) c8.one rfl rfl rfl ?_;have c5:IK (fun j=>j=4) O4 w4 O4 (w4.setCell ⟨db,0,none⟩ b3):=Jn zd d8.tag rfl;have d7:Ju O4 (w4.setCell ⟨db,0,none⟩ b3) 4 db #[b3,tv] 170:=d8.set 0 b3;refine zh ?_;refine af (trivial) ?_;have j1:=l6.upd c5;have e7:=c8.upd c5 zd zd;have a8:=(h5.upd b8 zd zd zd zd).upd c5 zd zd zd zd;have e2:=(g5.upd b8 zd zd).upd c5 zd zd;have f5:=(h8.upd b8 zd zd).upd c5 zd zd;have e5:RwO O4 (w4.setCell ⟨db,0,none⟩ b3) 5 b3 (i4++[.slice ra r1.length rc]) (rows++[r1]):=by
    have i5:=d2.len;refine⟨e7,by simp[i5],fun k hk=>?_⟩;rw[aA,aA,i5]
    by_cases e:k<rows.length
    ·rw[if_pos e,if_pos e];obtain⟨a1,a2⟩:=d2.at_ k e;exact⟨(a1.upd a2 b8).upd (a2.upd b8) c5,(a2.upd b8).upd c5⟩
    rw[if_neg e,if_neg e];simp only[IT,J4,K9]at hk;rw[show k-rows.length=0 from by omega,ao,ao];exact⟨(g'.upd d3 b8).upd (d3.upd b8) c5,(d3.upd b8).upd c5⟩
   have d9:IK (fun q=>1<=q) O1 w1 O4 (w4.setCell ⟨db,0,none⟩ b3):=(i0.trans (b8.mono (fun j h=>zo) zd)).trans (c5.mono (fun j h=>zo) zd);generalize w4.setCell ⟨db,0,none⟩ b3=w5 at *;refine Jd zk ?_;refine zh ?_;have g4:=a8.len;have i8:q<b'.length:=by obtain⟨pq,h3⟩:=e'.pre;rw[g4,h3];simp;omega
   have h2:q<S1.length:=zo;have h4:nth S1 q=nth S q:=by obtain⟨pq,h3⟩:=e'.pre;rw[h3,aA,if_pos g0]
   have b0:w5.drew.cell? (nA mb 2)=some a7/\w5.drew.cell? (adr a7 1 q)=some (nth b' q):=⟨a8.blk.cell 2 rfl,by have:=a8.row.sl.cell (i:=q) (j:=0) i8 rfl;rwa[ax]at this⟩
   have sd:∀W,JX w5.drew W->W.cell? (nA mb 2)=some a7/\W.cell? (adr a7 1 q)=some (nth b' q):=fun W hE=>⟨hE.cell b0.1,hE.cell b0.2⟩
   have j5:w5.drew.cell? (nA db 1)=some tv:=d7.cell 1 rfl;have j4:=hD.ext (b2.trans d9).drew.ext;obtain⟨d0,k0⟩:=a8.at_ q h2;rw[h4]at d0;have m9:=e4 (nth S q);refine aK (fun W=>W.cell? (nA mb 2)=some a7/\W.cell? (adr a7 1 q)=some (nth b' q)) 15 rfl zk ?_;refine zrf 0 rfl b0 rfl ?_;refine zrm 2 rfl b0 rfl ?_;refine zrm 3 rfl b0 rfl ?_;refine zr 4 rfl b0 (fun _=>ak rfl) ?_;refine zrf 5 rfl b0 rfl ?_;refine zt 6 rfl b0 (fun w1 g1=>RV.ld g1.1 rfl) ?_;refine zrm 7 rfl b0 rfl ?_;refine zr 8 rfl b0 (fun _=>az a8.row.sl.sh IR (JT _) rfl rfl q rfl i8) ?_;refine zt 9 rfl b0 (fun w1 g1=>RV.ld g1.2 rfl) ?_;refine bZ 1 10 zk rfl rfl ?_ ?_
   ·refine zvH (RV.ld j5 rfl) ?_;refine af b0 ?_
    refine I9 10 zk rfl ?_;refine zc KY (jw w5.drew nb se g (nth S q) _ j4 d0.drew j6 j0) ?_
    rintro j8 w9 ⟨rfl,e1⟩;rw[e1];clear e1 w9;refine zh ?_;refine af b0 ?_;refine I9 11 zk rfl ?_;refine cU lY (enc:=iw) (cX g (nth S q)) rfl rfl rfl zd rfl ?_;intro j9 w6 c' f';refine zh ?_;refine af (sd _ f') ?_;have a':IK (fun _=>False) O4 w5 O4 w6:=aa (fun h=>h) O4 ((IF w5).drew.trans f');have c9:=e2.upd a' zd fun h=>h
    have d6:=d7.upd a' zd fun h=>h
    have d4:=a8.upd a' zd (fun h=>h) (fun h=>h) fun h=>h
    have i3:=j1.upd a';refine I9 12 zk rfl ?_;refine aB lY c9 i3 c' (by simp) rfl rfl (by simp) (by simp[I5]) (by simp;omega) (by simp;omega) zd rfl ?_;intro a3 w7 O7 a6 b7 i2;have a9:=d6.upd b7 zd zd;have a4:=d4.upd b7 zd zd zd zd;have g3:=a4.len;have s7:w7.cell? (nA mb 2)=some a7/\w7.cell? (adr a7 1 q)=some (nth b' q):=⟨a4.blk.cell 2 rfl,by have:=a4.row.sl.cell (i:=q) (j:=0) zo rfl;rwa[ax]at this⟩
    refine zh ?_;refine af (s7) ?_
    refine zrf 13 rfl (s7) rfl ?_;refine I9 14 zk rfl ?_
    refine aj (j:=1) a9 rfl (KN _) a6.one rfl rfl rfl ?_;have b1:IK (fun j=>j=4) O7 w7 O7 (w7.setCell ⟨db,1,none⟩ a3):=Jn zd a9.tag rfl;have d5:Ju O7 (w7.setCell ⟨db,1,none⟩ a3) 4 db #[b3,a3] 170:=a9.set 1 a3;have a0:=a4.upd b1 zd zd zd zd;have g2:=a0.len;have s8:(w7.setCell ⟨db,1,none⟩ a3).cell? (nA mb 2)=some a7/\(w7.setCell ⟨db,1,none⟩ a3).cell? (adr a7 1 q)=some (nth b' q):=⟨a0.blk.cell 2 rfl,by have:=a0.row.sl.cell (i:=q) (j:=0) zo rfl;rwa[ax]at this⟩
    refine zh ?_;refine af (s8) ?_
    have b4:=a6.upd b1 zd zd;have i1:=i2.upd b1;have d1:=((e5.upd a' zd fun h=>h).upd b7 zd zd).upd b1 zd zd;have a5:=((f5.upd a' zd fun h=>h).upd b7 zd zd).upd b1 zd zd;have b9:IK (fun q=>1<=q) O1 w1 O7 (w7.setCell ⟨db,1,none⟩ a3):=((d9.trans (a'.mono (fun _ h=>h.elim) zd)).trans (b7.mono (fun j h=>zo) zd)).trans (b1.mono (fun j h=>zo) zd);generalize w7.setCell ⟨db,1,none⟩ a3=w8 at *;have l':=s8.1;refine Jd zk ?_;refine zh ?_;refine zvH (bj a0.row.sl.sh IR rfl) ?_
    by_cases b5:1000<S1.length
    ·rw[if_pos b5]at c6;rw[<-c6];refine zTH rfl ((decide_eq_true zo)) ?_;refine zv (aF xU (JA _) rfl (by first|rfl|(simp only[J8,Jl];rfl)) rfl rfl) ?_;refine zsa (us:=#[nS,nS]) a5 (Jf _) ?_;have f9:=a5.setRow (us:=#[nS,nS]);have f6:IK (fun j=>j=7) O7 w8 O7 (w8.setRow cb #[nS,nS]):=IU zd a5.tag rfl;refine zh ?_;refine bf rfl rfl rfl (f9.cellsAdd) (Ka _) (Jf _) (⟨((b2.trans b9).trans (f6.mono (fun j h=>zo) zd)).ext,rfl⟩)
    rw[if_neg b5]at c6;refine zFH rfl ((decide_eq_false zo)) ?_;refine zxd (q+1,O7,w8,a7,b',S1,l2,rows++[r1],i7++[cX g (nth S q)],i4++[.slice ra r1.length rc],b3,a3) (⟨b2.trans b9,i1,a0,d5,d1,b4,a5,j2 zo,f3,by dsimp only;rw[show 1002-(q+1)=n from by omega];exact c6⟩)
   refine zc KY (jw w5.drew nb se g (nth S q) _ j4 d0.drew j6 j0) ?_;rintro j8 w9 ⟨rfl,e1⟩;rw[e1];clear e1 w9;refine zh ?_
   refine af b0 ?_;refine bN 1 11 lY (enc:=iw) (cX g (nth S q)) rfl rfl zk zk zk zk (fun W hE=>Ke (hE.cell j5) (isAgg27 _) rfl) sd rfl rfl rfl zd rfl rfl rfl rfl rfl ?_
   intro j9 w6 c' f';have a':IK (fun _=>False) O4 w5 O4 w6:=aa (fun h=>h) O4 ((IF w5).drew.trans f');have c9:=e2.upd a' zd fun h=>h
   have d6:=d7.upd a' zd fun h=>h
   have d4:=a8.upd a' zd (fun h=>h) (fun h=>h) fun h=>h
   have i3:=j1.upd a';refine I9 12 zk rfl ?_;refine aB lY c9 i3 c' (by simp) rfl rfl (by simp) (by simp[I5]) (by simp;omega) (by simp;omega) zd rfl ?_;intro a3 w7 O7 a6 b7 i2;have a9:=d6.upd b7 zd zd;have a4:=d4.upd b7 zd zd zd zd;have g3:=a4.len;have s7:w7.cell? (nA mb 2)=some a7/\w7.cell? (adr a7 1 q)=some (nth b' q):=⟨a4.blk.cell 2 rfl,by have:=a4.row.sl.cell (i:=q) (j:=0) zo rfl;rwa[ax]at this⟩
   refine zh ?_;refine af (s7) ?_
   refine zrf 13 rfl (s7) rfl ?_;refine I9 14 zk rfl ?_
   refine aj (j:=1) a9 rfl (KN _) a6.one rfl rfl rfl ?_;have b1:IK (fun j=>j=4) O7 w7 O7 (w7.setCell ⟨db,1,none⟩ a3):=Jn zd a9.tag rfl;have d5:Ju O7 (w7.setCell ⟨db,1,none⟩ a3) 4 db #[b3,a3] 170:=a9.set 1 a3;have a0:=a4.upd b1 zd zd zd zd;have g2:=a0.len;have s8:(w7.setCell ⟨db,1,none⟩ a3).cell? (nA mb 2)=some a7/\(w7.setCell ⟨db,1,none⟩ a3).cell? (adr a7 1 q)=some (nth b' q):=⟨a0.blk.cell 2 rfl,by have:=a0.row.sl.cell (i:=q) (j:=0) zo rfl;rwa[ax]at this⟩
   refine zh ?_;refine af (s8) ?_
   have b4:=a6.upd b1 zd zd;have i1:=i2.upd b1;have d1:=((e5.upd a' zd fun h=>h).upd b7 zd zd).upd b1 zd zd;have a5:=((f5.upd a' zd fun h=>h).upd b7 zd zd).upd b1 zd zd;have b9:IK (fun q=>1<=q) O1 w1 O7 (w7.setCell ⟨db,1,none⟩ a3):=((d9.trans (a'.mono (fun _ h=>h.elim) zd)).trans (b7.mono (fun j h=>zo) zd)).trans (b1.mono (fun j h=>zo) zd);generalize w7.setCell ⟨db,1,none⟩ a3=w8 at *;have l':=s8.1;refine Jd zk ?_;refine zh ?_;refine zvH (bj a0.row.sl.sh IR rfl) ?_
   by_cases b5:1000<S1.length
   ·rw[if_pos b5]at c6;rw[<-c6];refine zTH rfl ((decide_eq_true zo)) ?_;refine zv (aF xU (JA _) rfl (by first|rfl|(simp only[J8,Jl];rfl)) rfl rfl) ?_;refine zsa (us:=#[nS,nS]) a5 (Jf _) ?_;have f9:=a5.setRow (us:=#[nS,nS]);have f6:IK (fun j=>j=7) O7 w8 O7 (w8.setRow cb #[nS,nS]):=IU zd a5.tag rfl;refine zh ?_;refine bf rfl rfl rfl (f9.cellsAdd) (Ka _) (Jf _) (⟨((b2.trans b9).trans (f6.mono (fun j h=>zo) zd)).ext,rfl⟩)
   rw[if_neg b5]at c6;refine zFH rfl ((decide_eq_false zo)) ?_;refine zxd (q+1,O7,w8,a7,b',S1,l2,rows++[r1],i7++[cX g (nth S q)],i4++[.slice ra r1.length rc],b3,a3) (⟨b2.trans b9,i1,a0,d5,d1,b4,a5,j2 zo,f3,by dsimp only;rw[show 1002-(q+1)=n from by omega];exact c6⟩)
  refine zc call183 h1 ?_;rintro rv w2 ⟨O2,a7,b',l2,k',l8,h6,e6,e8,f3⟩;have g9:=e6.shape;obtain⟨ra,rc,rfl,_⟩:=g9;have b6:IK (fun j=>1<=j/\j<=3) O1 w1.drew O2 w2:=k';have g8:=d'.drew.upd b6 zd zd;have f8:=f4.drew.upd b6 zd zd;have h9:=e0.drew.upd b6 zd zd;have g6:=e3.drew.upd b6 zd zd;have h':IK (fun j=>1<=j/\j<=3) O1 w1 O2 w2:=(aa zd O1 (IF w1).drew).trans b6;refine zh ?_
  refine af trivial ?_;have k5:w2.cell? (nA db 0)=some nv:=f8.cell 0 rfl;refine bN 1 5 Dc (enc:=yQ) (.slice ra r1.length rc:ix) rfl rfl zk zk zk zk (fun W hE=>Ke (hE.cell k5) (isAgg130 _) rfl) (fun _ _=>trivial) rfl rfl rfl zd rfl rfl rfl rfl rfl ?_
  intro m6 w3 g7 l9;have c7:IK (fun _=>False) O2 w2 O2 w3:=aa (fun h=>h) O2 l9;have i0:IK (fun q=>1<=q) O1 w1 O2 w3:=(h'.mono (fun j h=>zo) zd).trans (c7.mono (fun _ h=>h.elim) zd);have l7:=l8.upd c7;have d2:=g8.upd c7 zd fun h=>h
  have h7:=f8.upd c7 zd fun h=>h
  have h8:=h9.upd c7 zd fun h=>h
  have g5:=g6.upd c7 zd fun h=>h
  have h5:=h6.upd c7 zd (fun h=>h) (fun h=>h) fun h=>h
  have g':=e6.upd e8 c7;have d3:=e8.upd c7;refine I9 6 zk rfl ?_;refine aB Dc (d2.row) l7 g7 (by simp) rfl rfl (by simp) (fun u hu c hc=>by rw[I1.1 hu]at hc;rw[I1.1 hc];rfl) (by simp;omega) (by simp;omega) zd rfl ?_;intro b3 w4 O4 c8 b8 l6;have d8:=h7.upd b8 zd zd;refine zh ?_;refine af (trivial) ?_;refine zrf 7 rfl (trivial) rfl ?_;refine I9 8 zk rfl ?_;refine aj (j:=0) d8 rfl (L2 _) c8.one rfl rfl rfl ?_;have c5:IK (fun j=>j=4) O4 w4 O4 (w4.setCell ⟨db,0,none⟩ b3):=Jn zd d8.tag rfl;have d7:Ju O4 (w4.setCell ⟨db,0,none⟩ b3) 4 db #[b3,tv] 170:=d8.set 0 b3;refine zh ?_;refine af (trivial) ?_;have j1:=l6.upd c5;have e7:=c8.upd c5 zd zd;have a8:=(h5.upd b8 zd zd zd zd).upd c5 zd zd zd zd;have e2:=(g5.upd b8 zd zd).upd c5 zd zd;have f5:=(h8.upd b8 zd zd).upd c5 zd zd;have e5:RwO O4 (w4.setCell ⟨db,0,none⟩ b3) 5 b3 (i4++[.slice ra r1.length rc]) (rows++[r1]):=by
   have i5:=d2.len;refine⟨e7,by simp[i5],fun k hk=>?_⟩;rw[aA,aA,i5]
   by_cases e:k<rows.length
   ·rw[if_pos e,if_pos e];obtain⟨a1,a2⟩:=d2.at_ k e;exact⟨(a1.upd a2 b8).upd (a2.upd b8) c5,(a2.upd b8).upd c5⟩
   rw[if_neg e,if_neg e];simp only[IT,J4,K9]at hk;rw[show k-rows.length=0 from by omega,ao,ao];exact⟨(g'.upd d3 b8).upd (d3.upd b8) c5,(d3.upd b8).upd c5⟩
  have d9:IK (fun q=>1<=q) O1 w1 O4 (w4.setCell ⟨db,0,none⟩ b3):=(i0.trans (b8.mono (fun j h=>zo) zd)).trans (c5.mono (fun j h=>zo) zd);generalize w4.setCell ⟨db,0,none⟩ b3=w5 at *;refine Jd zk ?_;refine zh ?_;have g4:=a8.len;have i8:q<b'.length:=by obtain⟨pq,h3⟩:=e'.pre;rw[g4,h3];simp;omega
  have h2:q<S1.length:=zo;have h4:nth S1 q=nth S q:=by obtain⟨pq,h3⟩:=e'.pre;rw[h3,aA,if_pos g0]
  have b0:w5.drew.cell? (nA mb 2)=some a7/\w5.drew.cell? (adr a7 1 q)=some (nth b' q):=⟨a8.blk.cell 2 rfl,by have:=a8.row.sl.cell (i:=q) (j:=0) i8 rfl;rwa[ax]at this⟩
  have sd:∀W,JX w5.drew W->W.cell? (nA mb 2)=some a7/\W.cell? (adr a7 1 q)=some (nth b' q):=fun W hE=>⟨hE.cell b0.1,hE.cell b0.2⟩
  have j5:w5.drew.cell? (nA db 1)=some tv:=d7.cell 1 rfl;have j4:=hD.ext (b2.trans d9).drew.ext;obtain⟨d0,k0⟩:=a8.at_ q h2;rw[h4]at d0;have m9:=e4 (nth S q);refine aK (fun W=>W.cell? (nA mb 2)=some a7/\W.cell? (adr a7 1 q)=some (nth b' q)) 15 rfl zk ?_;refine zrf 0 rfl b0 rfl ?_;refine zrm 2 rfl b0 rfl ?_;refine zrm 3 rfl b0 rfl ?_;refine zr 4 rfl b0 (fun _=>ak rfl) ?_;refine zrf 5 rfl b0 rfl ?_;refine zt 6 rfl b0 (fun w1 g1=>RV.ld g1.1 rfl) ?_;refine zrm 7 rfl b0 rfl ?_;refine zr 8 rfl b0 (fun _=>az a8.row.sl.sh IR (JT _) rfl rfl q rfl i8) ?_;refine zt 9 rfl b0 (fun w1 g1=>RV.ld g1.2 rfl) ?_;refine bZ 1 10 zk rfl rfl ?_ ?_
  ·refine zvH (RV.ld j5 rfl) ?_;refine af b0 ?_
   refine I9 10 zk rfl ?_;refine zc KY (jw w5.drew nb se g (nth S q) _ j4 d0.drew j6 j0) ?_
   rintro j8 w9 ⟨rfl,e1⟩;rw[e1];clear e1 w9;refine zh ?_;refine af b0 ?_;refine I9 11 zk rfl ?_;refine cU lY (enc:=iw) (cX g (nth S q)) rfl rfl rfl zd rfl ?_;intro j9 w6 c' f';refine zh ?_;refine af (sd _ f') ?_;have a':IK (fun _=>False) O4 w5 O4 w6:=aa (fun h=>h) O4 ((IF w5).drew.trans f');have c9:=e2.upd a' zd fun h=>h
   have d6:=d7.upd a' zd fun h=>h
   have d4:=a8.upd a' zd (fun h=>h) (fun h=>h) fun h=>h
   have i3:=j1.upd a';refine I9 12 zk rfl ?_;refine aB lY c9 i3 c' (by simp) rfl rfl (by simp) (by simp[I5]) (by simp;omega) (by simp;omega) zd rfl ?_;intro a3 w7 O7 a6 b7 i2;have a9:=d6.upd b7 zd zd;have a4:=d4.upd b7 zd zd zd zd;have g3:=a4.len;have s7:w7.cell? (nA mb 2)=some a7/\w7.cell? (adr a7 1 q)=some (nth b' q):=⟨a4.blk.cell 2 rfl,by have:=a4.row.sl.cell (i:=q) (j:=0) zo rfl;rwa[ax]at this⟩
   refine zh ?_;refine af (s7) ?_
   refine zrf 13 rfl (s7) rfl ?_;refine I9 14 zk rfl ?_
   refine aj (j:=1) a9 rfl (KN _) a6.one rfl rfl rfl ?_;have b1:IK (fun j=>j=4) O7 w7 O7 (w7.setCell ⟨db,1,none⟩ a3):=Jn zd a9.tag rfl;have d5:Ju O7 (w7.setCell ⟨db,1,none⟩ a3) 4 db #[b3,a3] 170:=a9.set 1 a3;have a0:=a4.upd b1 zd zd zd zd;have g2:=a0.len;have s8:(w7.setCell ⟨db,1,none⟩ a3).cell? (nA mb 2)=some a7/\(w7.setCell ⟨db,1,none⟩ a3).cell? (adr a7 1 q)=some (nth b' q):=⟨a0.blk.cell 2 rfl,by have:=a0.row.sl.cell (i:=q) (j:=0) zo rfl;rwa[ax]at this⟩
   refine zh ?_;refine af (s8) ?_
   have b4:=a6.upd b1 zd zd;have i1:=i2.upd b1;have d1:=((e5.upd a' zd fun h=>h).upd b7 zd zd).upd b1 zd zd;have a5:=((f5.upd a' zd fun h=>h).upd b7 zd zd).upd b1 zd zd;have b9:IK (fun q=>1<=q) O1 w1 O7 (w7.setCell ⟨db,1,none⟩ a3):=((d9.trans (a'.mono (fun _ h=>h.elim) zd)).trans (b7.mono (fun j h=>zo) zd)).trans (b1.mono (fun j h=>zo) zd);generalize w7.setCell ⟨db,1,none⟩ a3=w8 at *;have l':=s8.1;refine Jd zk ?_;refine zh ?_;refine zvH (bj a0.row.sl.sh IR rfl) ?_
   by_cases b5:1000<S1.length
   ·rw[if_pos b5]at c6;rw[<-c6];refine zTH rfl ((decide_eq_true zo)) ?_;refine zv (aF xU (JA _) rfl (by first|rfl|(simp only[J8,Jl];rfl)) rfl rfl) ?_;refine zsa (us:=#[nS,nS]) a5 (Jf _) ?_;have f9:=a5.setRow (us:=#[nS,nS]);have f6:IK (fun j=>j=7) O7 w8 O7 (w8.setRow cb #[nS,nS]):=IU zd a5.tag rfl;refine zh ?_;refine bf rfl rfl rfl (f9.cellsAdd) (Ka _) (Jf _) (⟨((b2.trans b9).trans (f6.mono (fun j h=>zo) zd)).ext,rfl⟩)
   rw[if_neg b5]at c6;refine zFH rfl ((decide_eq_false zo)) ?_;refine zxd (q+1,O7,w8,a7,b',S1,l2,rows++[r1],i7++[cX g (nth S q)],i4++[.slice ra r1.length rc],b3,a3) (⟨b2.trans b9,i1,a0,d5,d1,b4,a5,j2 zo,f3,by dsimp only;rw[show 1002-(q+1)=n from by omega];exact c6⟩)
  refine zc KY (jw w5.drew nb se g (nth S q) _ j4 d0.drew j6 j0) ?_;rintro j8 w9 ⟨rfl,e1⟩;rw[e1];clear e1 w9;refine zh ?_
  refine af b0 ?_;refine bN 1 11 lY (enc:=iw) (cX g (nth S q)) rfl rfl zk zk zk zk (fun W hE=>Ke (hE.cell j5) (isAgg27 _) rfl) sd rfl rfl rfl zd rfl rfl rfl rfl rfl ?_
  intro j9 w6 c' f';have a':IK (fun _=>False) O4 w5 O4 w6:=aa (fun h=>h) O4 ((IF w5).drew.trans f');have c9:=e2.upd a' zd fun h=>h
  have d6:=d7.upd a' zd fun h=>h
  have d4:=a8.upd a' zd (fun h=>h) (fun h=>h) fun h=>h
  have i3:=j1.upd a';refine I9 12 zk rfl ?_;refine aB lY c9 i3 c' (by simp) rfl rfl (by simp) (by simp[I5]) (by simp;omega) (by simp;omega) zd rfl ?_;intro a3 w7 O7 a6 b7 i2;have a9:=d6.upd b7 zd zd;have a4:=d4.upd b7 zd zd zd zd;have g3:=a4.len;have s7:w7.cell? (nA mb 2)=some a7/\w7.cell? (adr a7 1 q)=some (nth b' q):=⟨a4.blk.cell 2 rfl,by have:=a4.row.sl.cell (i:=q) (j:=0) zo rfl;rwa[ax]at this⟩
  refine zh ?_;refine af (s7) ?_
  refine zrf 13 rfl (s7) rfl ?_;refine I9 14 zk rfl ?_
  refine aj (j:=1) a9 rfl (KN _) a6.one rfl rfl rfl ?_;have b1:IK (fun j=>j=4) O7 w7 O7 (w7.setCell ⟨db,1,none⟩ a3):=Jn zd a9.tag rfl;have d5:Ju O7 (w7.setCell ⟨db,1,none⟩ a3) 4 db #[b3,a3] 170:=a9.set 1 a3;have a0:=a4.upd b1 zd zd zd zd;have g2:=a0.len;have s8:(w7.setCell ⟨db,1,none⟩ a3).cell? (nA mb 2)=some a7/\(w7.setCell ⟨db,1,none⟩ a3).cell? (adr a7 1 q)=some (nth b' q):=⟨a0.blk.cell 2 rfl,by have:=a0.row.sl.cell (i:=q) (j:=0) zo rfl;rwa[ax]at this⟩
  refine zh ?_;refine af (s8) ?_
  have b4:=a6.upd b1 zd zd;have i1:=i2.upd b1;have d1:=((e5.upd a' zd fun h=>h).upd b7 zd zd).upd b1 zd zd;have a5:=((f5.upd a' zd fun h=>h).upd b7 zd zd).upd b1 zd zd;have b9:IK (fun q=>1<=q) O1 w1 O7 (w7.setCell ⟨db,1,none⟩ a3):=((d9.trans (a'.mono (fun _ h=>h.elim) zd)).trans (b7.mono (fun j h=>zo) zd)).trans (b1.mono (fun j h=>zo) zd);generalize w7.setCell ⟨db,1,none⟩ a3=w8 at *;have l':=s8.1;refine Jd zk ?_;refine zh ?_;refine zvH (bj a0.row.sl.sh IR rfl) ?_
  by_cases b5:1000<S1.length
  ·rw[if_pos b5]at c6;rw[<-c6];refine zTH rfl ((decide_eq_true zo)) ?_;refine zv (aF xU (JA _) rfl (by first|rfl|(simp only[J8,Jl];rfl)) rfl rfl) ?_;refine zsa (us:=#[nS,nS]) a5 (Jf _) ?_;have f9:=a5.setRow (us:=#[nS,nS]);have f6:IK (fun j=>j=7) O7 w8 O7 (w8.setRow cb #[nS,nS]):=IU zd a5.tag rfl;refine zh ?_;refine bf rfl rfl rfl (f9.cellsAdd) (Ka _) (Jf _) (⟨((b2.trans b9).trans (f6.mono (fun j h=>zo) zd)).ext,rfl⟩)
  rw[if_neg b5]at c6;refine zFH rfl ((decide_eq_false zo)) ?_;refine zxd (q+1,O7,w8,a7,b',S1,l2,rows++[r1],i7++[cX g (nth S q)],i4++[.slice ra r1.length rc],b3,a3) (⟨b2.trans b9,i1,a0,d5,d1,b4,a5,j2 zo,f3,by dsimp only;rw[show 1002-(q+1)=n from by omega];exact c6⟩)
 intro n2;obtain rfl:q=S.length:=dF n2;have k3:CK (cA se g) (cX g)=some (rows,i7):=by
  rw[<-c6];obtain⟨n,hn⟩:∃n,1002-S.length=n+1:=⟨1001-S.length,zo⟩
  rw[hn,D8,if_neg zo]
 rw[k3];have o1:=d'.row.one;have o2:=e3.one;refine zh ?_;refine zv (ah (us:=[nv,tv]) f4.cellsAdd (Ka _) (Jf _) rfl) ?_;refine zsb (us:=#[nv,tv]) e0 (Jf _) (by simp only[J8,o1,o2];rfl) ?_;have f9:=e0.setRow (us:=#[nv,tv]);have f6:IK (fun j=>j=7) O1 w1 O1 (w1.setRow cb #[nv,tv]):=IU zd e0.tag rfl;have k1:=d'.upd f6 zd zd;have j':=e3.upd f6 zd zd;refine zh ?_;refine bf rfl rfl rfl (f9.cellsAdd) (Ka _) (Jf _) (⟨(b2.trans (f6.mono (fun j h=>zo) zd)).ext,nv,tv,rfl,o1,o2,k1.rows,j'.sl⟩)
def Aq(l:List Nat):Nat:=l.foldl max 0
theorem Ap(l:List Nat)(x:Nat):Aq (l++[x])=max (Aq l) x:=by unfold Aq;rw[JB];rfl
theorem DX{n:Nat}(h0:0<n):∀(l:List Nat),(∀x∈l,x<n)->Aq l<n:=by
 have a0:∀(l:List Nat) (a:Nat),a<n->(∀x∈l,x<n)->l.foldl max a<n:=fun l=>by
  induction l with
  |nil=>exact fun a ha _=>ha
  |cons x l ih=>exact fun a ha h=>ih _ (by have:=h x (by simp);exact Nat.max_lt.2 ⟨ha,this⟩) fun y hy=>h y (by simp[hy])
 exact fun l h=>a0 l 0 h0 h
theorem Cm(l:List Nat)(sv:ix)(w:ln)(h:Sl aR 1 w sv l)(a1:0<l.length):Kd J6 61 [sv] w fun v w'=>v=nI ((Aq l:Nat):Int)/\w'=w:=by
 have hl:=h.len_le;have m0:w.cell? (adr sv 1 0)=some (nI ((nth l 0:Nat):Int)):=by have:=h.cell (j:=0) a1 rfl;rwa[ax]at this
 have e1:nth l 0=Aq (l.take 1):=by
  have h1:=aM a1;rw[h1];simp[Aq]
 refine IE func61 ntmps61 rfl rfl ?_;refine zh ?_
 refine zFH rfl ((decide_eq_false zo)) ?_;rw[e1];refine zh ?_
 refine zlp (fun z:Nat=>[(0,sv),(3,nI ((Aq (l.take z):Nat):Int)),(4,nI z)]) (fun z=>w) (fun z=>1<=z/\z<=l.length) (fun z=>l.length-z) 1 (⟨I8 _,a1⟩) ?_;rintro q ⟨a3,hq⟩;refine zh ?_
 refine zC ?_ ?_
 ·intro a0;replace a0:q<l.length:=dT a0;have m1:w.cell? (adr sv 1 q)=some (nI ((nth l q:Nat):Int)):=by have:=h.cell (j:=0) a0 rfl;rwa[ax]at this
  refine zh ?_;refine zvH (jq rfl rfl) ?_
  rw[show max ((Aq (l.take q):Nat):Int) ((nth l q:Nat):Int)=((Aq (l.take (q+1)):Nat):Int)from by rw[aM a0,Ap];omega];refine zxd (q+1) (⟨zo,a0⟩)
 intro a2;obtain rfl:q=l.length:=dF a2;rw[II];refine zh ?_;refine ae rfl rfl (⟨rfl,rfl⟩)
theorem Cj(l:List Nat)(sv:ix)(w:ln)(h:Sl aR 1 w sv l)(a1:0<l.length):Kd J6 187 [sv] w fun v w'=>(∃k:Nat,v=nI (k:Int))/\w'=w:=by
 have hl:=h.len_le;have m0:w.cell? (adr sv 1 0)=some (nI ((nth l 0:Nat):Int)):=by have:=h.cell (j:=0) a1 rfl;rwa[ax]at this
 refine IE func187 ntmps187 rfl rfl ?_;refine zh ?_
 refine zFH rfl ((decide_eq_false zo)) ?_;refine zlp (fun z:Nat×Nat=>[(0,sv),(3,nI ((z.2:Nat):Int)),(4,nI z.1)]) (fun z=>w) (fun z=>1<=z.1/\z.1<=l.length) (fun z=>l.length-z.1) (1,nth l 0) (⟨I8 _,a1⟩) ?_
 rintro⟨q,k⟩ ⟨a2,hq⟩;dsimp only at a2 hq ⊢;refine zh ?_;refine zC ?_ ?_
 ·intro a0;replace a0:q<l.length:=dT a0;have m1:w.cell? (adr sv 1 q)=some (nI ((nth l q:Nat):Int)):=by have:=h.cell (j:=0) a0 rfl;rwa[ax]at this
  refine zh ?_;refine zvH (Fj rfl rfl) ?_
  rw[show min ((k:Nat):Int) ((nth l q:Nat):Int)=((min k (nth l q):Nat):Int)from by omega];refine zxd (q+1,min k (nth l q)) (⟨by dsimp only;omega,a0⟩)
 intro a3;refine zh ?_;refine ae rfl rfl (⟨⟨k,rfl⟩,rfl⟩)
structure RightD(rows:List (List Nat))(tls:List Nat):Prop where
 pos:0<rows.length
 le:rows.length<=1000
 tl:tls.length=rows.length
 row:∀j,j<rows.length->(nth rows j).length=37/\∀m,m<37->nth (nth rows j) m<rows.length
theorem DI.right{step:List Int->Int->List Int}{a0:List Int->Nat}{S:List (List Int)}{rows:List (List Nat)}{a1:List Nat}(h:DI step a0 S.length S rows a1):RightD rows a1:=by
 have h1:=h.rl;have h2:=h.p0;have h3:=h.len;exact⟨zo,zo,by rw[h.tl,h1],fun j hj=>⟨(h.row j zo).1,fun m hm=>by have:=((h.row j zo).2 m hm).1;omega⟩⟩
theorem jl(nv tv:ix)(rows:List (List Nat))(a5:List Nat)(w:ln)(hn:RowsN w nv rows)(b0:Sl iw 1 w tv a5)(hr:RightD rows a5):Kd J6 134 [.agg #[nv,tv]] w fun v w'=>v=.bool true/\JX w w':=by
 obtain⟨vs,a7,b1,a8⟩:=hn;have a4:=hr.pos;have b3:=hr.le;have a9:=hr.tl;refine IE func134 ntmps134 rfl rfl ?_;refine zh ?_;refine aH (ay w) 1 zo rfl rfl ?_;intro db w1 O1 a6 b5 b6 a2;have c0:w1.cell? (nA db 0)=some nv:=a6.cell 0 rfl;have c1:w1.cell? (nA db 1)=some tv:=a6.cell 1 rfl;have a3:=a7.ext a2;have a':=b0.ext a2;refine zh ?_;refine aw (d:=11) rfl (b':=false) ((by rw[beq_eq_false_iff_ne];omega)) ?_;refine zh ?_;refine aw (d:=15) rfl (b':=false) ((decide_eq_false zo)) ?_;refine zh ?_;refine zFH rfl ((by rw[bne_eq_false_iff_eq];omega)) ?_;refine zlp (fun z:Nat×ln=>[(3,nI vs.length),(23,nv),(24,nI vs.length),(25,nI z.1)]) (fun z=>z.2) (fun z=>z.1<=vs.length/\z.2=w1) (fun z=>vs.length-z.1) (0,w1) (⟨I0 _,rfl⟩) ?_;rintro⟨q,w2⟩ ⟨hq,rfl⟩;dsimp only at hq ⊢;refine zh ?_;refine zC ?_ ?_
 ·intro a1;replace a1:q<vs.length:=dT a1;have m1:w2.cell? (adr nv 1 q)=some (nth vs q):=by have:=a3.cell (j:=0) a1 rfl;rwa[ax]at this
  obtain⟨r1,r2⟩:=hr.row q zo;have hk:=(a8 q zo).ext a2;have b2:Aq (nth rows q)<rows.length:=DX a4 _ fun x hx=>by
   obtain⟨j,hj,rfl⟩:=cn hx;exact r2 j zo
  refine zh ?_;refine aw (d:=32) rfl (b':=false) ((by rw[r1];rfl)) ?_
  refine zh ?_;refine zc call187 (Cj (nth rows q) _ w2 hk zo) ?_
  rintro v w9 ⟨⟨k,rfl⟩,a0⟩;rw[a0];clear a0 w9;refine zh ?_;refine aw (d:=37) rfl (b':=false) ((decide_eq_false zo)) ?_;refine zh ?_;refine zc call61 (Cm (nth rows q) _ w2 hk zo) ?_;rintro v w9 ⟨rfl,a0⟩;rw[a0];clear a0 w9;refine zh ?_;refine zFH rfl ((decide_eq_false zo)) ?_;refine zxd (q+1,w2) (⟨a1,rfl⟩)
 intro b4;refine zh ?_;refine ae rfl rfl (⟨rfl,a2⟩)
def runN(nx:Nat->Nat->Nat)(w:List Nat)(q:Nat):Nat:=w.foldl nx q
def Alike(nx:Nat->Nat->Nat)(tl:Nat->Nat)(p q:Nat):Prop:=∀w:List Nat,(∀m∈w,m<37)->tl (runN nx w p)=tl (runN nx w q)
theorem Alike.step{nx:Nat->Nat->Nat}{tl:Nat->Nat}{p q:Nat}(h:Alike nx tl p q){m:Nat}(hm:m<37):Alike nx tl (nx p m) (nx q m):=fun w hw=>h (m::w) fun x hx=>by
 rcases IQ.1 hx with rfl|hx
 ·exact hm
 exact hw x hx
theorem Alike.symm{nx:Nat->Nat->Nat}{tl:Nat->Nat}{p q:Nat}(h:Alike nx tl p q):Alike nx tl q p:=fun w hw=>(h w hw).symm
structure Blk(nx:Nat->Nat->Nat)(tl:Nat->Nat)(n:Nat)(bl:List Nat)(st:Nat->List Nat)(many:Nat):Prop where
 len:bl.length=n
 lt:∀i,i<n->nth bl i<many
 mem:∀b,b<many->∀x,x∈st b↔x<n/\nth bl x=b
 nd:∀b,b<many->(st b).Nodup
 ne:∀b,b<many->st b≠[]
 told:∀p q,p<n->q<n->nth bl p=nth bl q->tl p=tl q
 alike:∀p q,p<n->q<n->Alike nx tl p q->nth bl p=nth bl q
theorem Blk.many_le{nx:Nat->Nat->Nat}{tl:Nat->Nat}{n:Nat}{bl:List Nat}{st:Nat->List Nat}{many:Nat}(h:Blk nx tl n bl st many):many<=n:=by
 have a0:∀b,b<many->(st b).headD 0∈st b:=fun b hb=>by
  have:=h.ne b hb
  cases hs:st b with
  |nil=>exact absurd hs this
  |cons a r=>simp
 have a1:((Ji many).map fun b=>(st b).headD 0).Nodup:=by
  refine List.pairwise_map.2 (L4 ?_ K5);intro a b ha hb a2 e;have ha:=IV.1 ha;have hb:=IV.1 hb;have h1:=((h.mem a ha _).1 (a0 a ha)).2;have h2:=((h.mem b hb _).1 (a0 b hb)).2;exact a2 (by rw[<-h1,<-h2,e])
 have:=fO a1 (n:=n) fun x hx=>by
  obtain⟨b,hb,rfl⟩:=Kl.1 hx;have hb:=IV.1 hb;exact((h.mem b hb _).1 (a0 b hb)).1
 simpa using this
def Pend(nx:Nat->Nat->Nat)(n:Nat)(bl:List Nat)(td:Nat->Nat->Prop)(m0:Nat)(P0:Nat->Prop)(a0:Nat->Prop):Prop:=
 ∀p q m,p<n->q<n->m<37->nth bl p=nth bl q->nth bl (nx p m)≠nth bl (nx q m)->(td (nth bl (nx p m)) m\/td (nth bl (nx q m)) m)\/(m=m0/\¬(P0 p↔P0 q)/\a0 (nth bl p))
def Todo(nx:Nat->Nat->Nat)(n:Nat)(bl:List Nat)(td:Nat->Nat->Prop):Prop:=
 ∀p q m,p<n->q<n->m<37->nth bl p=nth bl q->nth bl (nx p m)≠nth bl (nx q m)->td (nth bl (nx p m)) m\/td (nth bl (nx q m)) m
theorem Todo.take{nx:Nat->Nat->Nat}{n:Nat}{bl:List Nat}{td a1:Nat->Nat->Prop}(h:Todo nx n bl td)(b0 m0:Nat)(ht:∀b m,td b m->a1 b m\/(b=b0/\m=m0))(a2:Nat->Prop)(hr:∀p,p<n->nth bl (nx p m0)=b0->a2 (nth bl p)):
  Pend nx n bl a1 m0 (fun p=>nth bl (nx p m0)=b0) a2:=fun p q m hp hq hm e a0=>by
 rcases h p q m hp hq hm e a0 with h1|h1
 ·rcases ht _ _ h1 with h2|⟨h2,rfl⟩
  ·exact .inl (.inl h2)
  exact .inr ⟨rfl,fun hi=>a0 (by rw[h2,hi.1 h2]),hr p hp h2⟩
 rcases ht _ _ h1 with h2|⟨h2,rfl⟩
 ·exact .inl (.inr h2)
 exact .inr ⟨rfl,fun hi=>a0 (by rw[h2,hi.2 h2]),by rw[e];exact hr q hq h2⟩
theorem Pend.done{nx:Nat->Nat->Nat}{n:Nat}{bl:List Nat}{td:Nat->Nat->Prop}{m0:Nat}{P0 a0:Nat->Prop}(h:Pend nx n bl td m0 P0 a0)(hr:∀b,¬a0 b):Todo nx n bl td:=fun p q m hp hq hm e a1=>by
 rcases h p q m hp hq hm e a1 with h1|⟨_,_,h1⟩
 ·exact h1
 exact absurd h1 (hr _)
theorem Pend.whole{nx:Nat->Nat->Nat}{n:Nat}{bl:List Nat}{td:Nat->Nat->Prop}{m0:Nat}{P0 a1 a0:Nat->Prop}(h:Pend nx n bl td m0 P0 a1){k:Nat}(hk:∀p,p<n->nth bl p=k->P0 p)(hr:∀b,a1 b->b=k\/a0 b):Pend nx n bl td m0 P0 a0:=fun p q m hp hq hm e a2=>by
 rcases h p q m hp hq hm e a2 with h1|⟨h1,h2,h3⟩
 ·exact .inl h1
 rcases hr _ h3 with h4|h4
 ·exact absurd ⟨fun _=>hk q hq (e.symm.trans h4),fun _=>hk p hp h4⟩ h2
 exact .inr ⟨h1,h2,h4⟩
structure Cut(n:Nat)(bl bl':List Nat)(st st':Nat->List Nat)(many k:Nat)(L:List Nat):Prop where
 len:bl'.length=n
 bl:∀x,x<n->nth bl' x=if x∈L then many else nth bl x
 new:st' many=L
 old:st' k=(st k).filter fun x=>!(L.contains x)
 oth:∀b,b≠many->b≠k->st' b=st b
theorem Blk.cut{nx:Nat->Nat->Nat}{tl:Nat->Nat}{n:Nat}{bl a4:List Nat}{st a6:Nat->List Nat}{many k:Nat}{L:List Nat}(h:Blk nx tl n bl st many)(c:Cut n bl a4 st a6 many k L)(hk:k<many)(hL:∀x∈L,x<n/\nth bl x=k)(a':L.Nodup)(b0:L≠[])(b1:L.length<(st k).length) 
  (a9:∀p q,p<n->q<n->Alike nx tl p q->p∈L->q∈L):Blk nx tl n a4 a6 (many+1):=by
 have a0:∀x,x<n->x∉L->nth a4 x=nth bl x:=fun x hx hn=>by rw[c.bl x hx,if_neg hn]
 have a3:∀x,x<n->x∈L->nth a4 x=many:=fun x hx hn=>by rw[c.bl x hx,if_pos hn]
 refine⟨c.len,fun i hi=>?_,fun b hb x=>?_,fun b hb=>?_,fun b hb=>?_,fun p q hp hq e=>?_,fun p q hp hq ha=>?_⟩
 ·have:=h.lt i hi
  by_cases a7:i∈L
  ·rw[a3 i hi a7];omega
  rw[a0 i hi a7];omega
 ·by_cases a1:b=many
  ·subst a1;rw[c.new]
   constructor
   ·intro hx;exact⟨(hL x hx).1,a3 x (hL x hx).1 hx⟩
   rintro⟨hx,e⟩;refine Ja fun hn=>?_
   rw[a0 x hx hn]at e;have:=h.lt x hx;omega
  have a8:b<many:=zo
  by_cases a2:b=k
  ·subst a2;rw[c.old,Jh,h.mem b a8 x]
   constructor
   ·rintro⟨⟨h1,h2⟩,h3⟩;have hn:x∉L:=by simpa using h3
    exact⟨h1,by rw[a0 x h1 hn];exact h2⟩
   rintro⟨h1,h2⟩;have hn:x∉L:=fun hx=>by rw[a3 x h1 hx]at h2;omega
   exact⟨⟨h1,by rw[<-a0 x h1 hn];exact h2⟩,by simpa using hn⟩
  rw[c.oth b a1 a2,h.mem b a8 x]
  constructor
  ·rintro⟨h1,h2⟩;have hn:x∉L:=fun hx=>a2 (by rw[<-h2];exact(hL x hx).2)
   exact⟨h1,by rw[a0 x h1 hn];exact h2⟩
  rintro⟨h1,h2⟩;have hn:x∉L:=fun hx=>a1 (by rw[<-h2];exact a3 x h1 hx)
  exact⟨h1,by rw[<-a0 x h1 hn];exact h2⟩
 ·by_cases a1:b=many
  ·subst a1;rw[c.new];exact a'
  by_cases a2:b=k
  ·subst a2;rw[c.old];exact(h.nd b zo).filter _
  rw[c.oth b a1 a2];exact h.nd b zo
 ·by_cases a1:b=many
  ·subst a1;rw[c.new];exact b0
  by_cases a2:b=k
  ·subst a2;rw[c.old];intro e;have a5:st b ⊆ L:=fun x hx=>by
    refine Ja fun hn=>?_
    have:x∈(st b).filter fun x=>!(L.contains x):=Jh.2 ⟨hx,by simpa using hn⟩
    rw[e]at this;simp at this
   have:=(h.nd b zo).length_le_of_subset a5;omega
  rw[c.oth b a1 a2];exact h.ne b zo
 ·refine h.told p q hp hq ?_
  by_cases h1:p∈L
  ·by_cases h2:q∈L
   ·rw[(hL p h1).2,(hL q h2).2]
   rw[a3 p hp h1,a0 q hq h2]at e;have:=h.lt q hq;omega
  by_cases h2:q∈L
  ·rw[a0 p hp h1,a3 q hq h2]at e;have:=h.lt p hp;omega
  rw[a0 p hp h1,a0 q hq h2]at e;exact e
 by_cases h1:p∈L
 ·rw[a3 p hp h1,a3 q hq (a9 p q hp hq ha h1)]
 have h2:q∉L:=fun hx=>h1 (a9 q p hq hp ha.symm hx)
 rw[a0 p hp h1,a0 q hq h2];exact h.alike p q hp hq ha
theorem Pend.cut{nx:Nat->Nat->Nat}{tl:Nat->Nat}{n:Nat}{bl a6:List Nat}{st b4:Nat->List Nat}{many k m0:Nat}{L:List Nat}{td a3:Nat->Nat->Prop}{P0 a' a5:Nat->Prop}(hB:Blk nx tl n bl st many)(h:Pend nx n bl td m0 P0 a')(c:Cut n bl a6 st b4 many k L)(_:k<many) 
  (b2:∀p m,p<n->m<37->nx p m<n) (hL:∀x,x∈L↔x<n/\nth bl x=k/\P0 x)
  (ht:∀b m,td b m->a3 b m) (b5:∀m,m<37->td k m->a3 many m) (b1:∀m,m<37->a3 many m\/a3 k m) (hr:∀b,a' b->b=k\/a5 b):Pend nx n a6 a3 m0 P0 a5:=fun p q m hp hq hm e b3=>by
 have a0:∀x,x<n->x∉L->nth a6 x=nth bl x:=fun x hx hn=>by rw[c.bl x hx,if_neg hn]
 have a2:∀x,x<n->x∈L->nth a6 x=many:=fun x hx hn=>by rw[c.bl x hx,if_pos hn]
 have a4:∀x,x∈L->nth bl x=k:=fun x hx=>((hL x).1 hx).2.1
 have a1:nth bl p=nth bl q/\(p∈L↔q∈L):=by
  by_cases h1:p∈L
  ·by_cases h2:q∈L
   ·exact⟨by rw[a4 p h1,a4 q h2],by simp[h1,h2]⟩
   rw[a2 p hp h1,a0 q hq h2]at e;have:=hB.lt q hq;omega
  by_cases h2:q∈L
  ·rw[a0 p hp h1,a2 q hq h2]at e;have:=hB.lt p hp;omega
  rw[a0 p hp h1,a0 q hq h2]at e;exact⟨e,by simp[h1,h2]⟩
 have hx:=b2 p m hp hm;have hy:=b2 q m hq hm;have hh:=h p q m hp hq hm a1.1;generalize nx p m=x at *;generalize nx q m=y at *;have b0:∀z,z<n->td (nth bl z) m->a3 (nth a6 z) m:=fun z hz a9=>by
  by_cases h1:z∈L
  ·rw[a2 z hz h1];rw[a4 z h1]at a9;exact b5 m hm a9
  rw[a0 z hz h1];exact ht _ _ a9
 by_cases a7:nth bl x=nth bl y
 ·by_cases h1:x∈L
  ·by_cases h2:y∈L
   ·exact absurd (by rw[a2 x hx h1,a2 y hy h2]) b3
   have e1:=a4 x h1;rw[a2 x hx h1,a0 y hy h2,<-a7,e1];exact .inl (b1 m hm)
  by_cases h2:y∈L
  ·have e1:=a4 y h2;rw[a2 y hy h2,a0 x hx h1,a7,e1];exact .inl ((b1 m hm).symm)
  exact absurd (by rw[a0 x hx h1,a0 y hy h2,a7]) b3
 rcases hh a7 with(h1|h1)|⟨h1,h2,h3⟩
 ·exact .inl (.inl (b0 x hx h1))
 ·exact .inl (.inr (b0 y hy h1))
 by_cases a8:nth bl p=k
 ·exact absurd ⟨fun a=>((hL q).1 (a1.2.1 ((hL p).2 ⟨hp,a8,a⟩))).2.2,fun a=>((hL p).1 (a1.2.2 ((hL q).2 ⟨hq,by rw[<-a1.1];exact a8,a⟩))).2.2⟩ h2
 have b6:p∉L:=fun a=>a8 (a4 p a)
 rcases hr _ h3 with h4|h4
 ·exact absurd h4 a8
 exact .inr ⟨h1,h2,by rw[a0 p hp b6];exact h4⟩
theorem Blk.final{nx:Nat->Nat->Nat}{tl:Nat->Nat}{n:Nat}{bl:List Nat}{st:Nat->List Nat}{many:Nat}(h:Blk nx tl n bl st many)(ht:Todo nx n bl fun _ _=>False)(a0:∀p m,p<n->m<37->nx p m<n)(p q:Nat)(hp:p<n)(hq:q<n):nth bl p=nth bl q↔Alike nx tl p q:=by
 refine⟨fun e w=>?_,h.alike p q hp hq⟩
 induction w generalizing p q with
 |nil=>exact fun _=>h.told p q hp hq e
 |cons m w ih=>
  intro hw;have hm:=hw m (by simp);refine ih (nx p m) (nx q m) (a0 p m hp hm) (a0 q m hq hm) (Ja fun a1=>?_) fun x hx=>hw x (by simp[hx])
  rcases ht p q m hp hq hm e a1 with h1|h1<;>exact h1
section
variable(cl:Nat→Nat)(nx:Nat→Nat→Nat)
def xg(F:List Nat)(t:Nat):Option Nat:=F.findIdx? fun o=>cl o==cl t
def fnI(F:List Nat)(t:Nat):Nat:=(xg cl F t).getD F.length
def fnF(F:List Nat)(t:Nat):List Nat:=if(xg cl F t).isSome=true then F else F++[t]
def iK(p:Nat)(F:List Nat):Nat->List Nat×List Nat
 |0=>(F,[])
 |m+1=>(fnF cl (iK p F m).1 (nx p m),(iK p F m).2++[fnI cl (iK p F m).1 (nx p m)])
end
theorem AU{cl:Nat->Nat}{F:List Nat}{t k:Nat}(h:xg cl F t=some k):k<F.length/\cl (nth F k)=cl t:=by
 obtain⟨h1,h2,_⟩:=JU.1 h;exact⟨h1,by rw[aC h1];simpa using h2⟩
theorem AW{cl:Nat->Nat}{F:List Nat}{t:Nat}(h:xg cl F t=none):∀o∈F,cl o≠cl t:=by
 intro o ho e;have:=Kf.1 h o ho;simp[e]at this
theorem D6(cl:Nat->Nat)(F:List Nat)(t:Nat):∃r,fnF cl F t=F++r:=by
 unfold fnF
 split
 ·exact⟨[],by simp⟩
 exact⟨_,rfl⟩
theorem F5(cl:Nat->Nat)(F:List Nat)(t:Nat):fnI cl F t<(fnF cl F t).length/\cl (nth (fnF cl F t) (fnI cl F t))=cl t:=by
 unfold fnI fnF
 cases h:xg cl F t with
 |some k=>exact AU h
 |none=>
  simp only[Option.getD_none,Option.isSome_none,Bool.false_eq_true,if_false];exact⟨by simp,by rw[aA,if_neg zo,JY,ao]⟩
structure Reps(cl:Nat->Nat)(n:Nat)(F:List Nat):Prop where
 lt:∀o∈F,o<n
 nd:F.Pairwise fun a b=>cl a≠cl b
theorem Reps.add{cl:Nat->Nat}{n:Nat}{F:List Nat}(h:Reps cl n F){t:Nat}(ht:t<n):Reps cl n (fnF cl F t):=by
 unfold fnF
 cases hf:xg cl F t with
 |some k=>exact h
 |none=>
  have a0:=AW hf
  exact⟨fun o ho=>by
   rcases IZ.1 ho with ho|ho
   ·exact h.lt o ho
   rw[I1.1 ho];exact ht,List.pairwise_append.2 ⟨h.nd,by simp,fun a ha b hb=>by rw[I1.1 hb];exact a0 a ha⟩⟩
theorem Reps.len{cl:Nat->Nat}{n:Nat}{F:List Nat}(h:Reps cl n F):F.length<=n:=
 fO (h.nd.imp fun {a b} a0 e=>a0 (by rw[e])) h.lt
structure RowR(cl:Nat->Nat)(nx:Nat->Nat->Nat)(n p:Nat)(F F' r:List Nat)(m:Nat):Prop where
 pre:∃q,F'=F++q
 len:r.length=m
 lt:∀j,j<m->nth r j<F'.length/\cl (nth F' (nth r j))=cl (nx p j)
 reps:Reps cl n F'
theorem qe{cl:Nat->Nat}{nx:Nat->Nat->Nat}{n p:Nat}{F:List Nat}(hF:Reps cl n F)(a3:∀m,m<37->nx p m<n):∀m,m<=37->RowR cl nx n p F (iK cl nx p F m).1 (iK cl nx p F m).2 m
 |0,_=>⟨⟨[],by simp[iK]⟩,rfl,fun j hj=>absurd hj (I4 j),hF⟩
 |m+1,hm=>by
  have ih:=qe hF a3 m zo;unfold iK;generalize iK cl nx p F m=R at *;obtain⟨F1,r⟩:=R;dsimp only at ih ⊢;obtain⟨q,hq⟩:=ih.pre;obtain⟨q2,a0⟩:=D6 cl F1 (nx p m);have a5:=F5 cl F1 (nx p m);have a4:=ih.len;have a6:F1.length<=(fnF cl F1 (nx p m)).length:=by rw[a0];simp
  refine⟨⟨q++q2,by rw[a0,hq,Jk]⟩,by simp[a4],fun j hj=>?_,ih.reps.add (a3 m zo)⟩;rw[aA]
  by_cases e:j<r.length
  ·rw[if_pos e];obtain⟨a1,a2⟩:=ih.lt j zo;exact⟨zo,by rw[a0,aA,if_pos a1];exact a2⟩
  rw[if_neg e,show j-r.length=0 from by omega,ao];obtain rfl:j=m:=zo;exact a5
def fo(cl:Nat->Nat)(nx:Nat->Nat->Nat)(tl:Nat->Nat):Nat->Nat->List Nat->List (List Nat)->List Nat->List (List Nat)×List Nat
 |0,_,_,rows,tls=>(rows,tls)
 |n+1,i,F,rows,tls=>
  if i<F.length then fo cl nx tl n (i+1) (iK cl nx (nth F i) F 37).1 (rows++[(iK cl nx (nth F i) F 37).2]) (tls++[tl (nth F i)])
  else(rows,tls)
def nxD(rows:List (List Nat))(q m:Nat):Nat:=nth (nth rows q) m
def aP(cl:Nat->Nat)(rows:List (List Nat))(a0:List Nat):List (List Nat)×List Nat:=fo cl (nxD rows) (nth a0) (rows.length+1) 0 [0] [] []
structure LI(cl:Nat->Nat)(nx:Nat->Nat->Nat)(tl:Nat->Nat)(n i:Nat)(F:List Nat)(rows:List (List Nat))(tls:List Nat):Prop where
 le:i<=F.length
 rl:rows.length=i
 tln:tls.length=i
 p0:0<F.length
 fst:nth F 0=0
 reps:Reps cl n F
 row:∀j,j<i->(nth rows j).length=37/\∀m,m<37->nth (nth rows j) m<F.length/\cl (nth F (nth (nth rows j) m))=cl (nx (nth F j) m)
 tel:∀j,j<i->nth tls j=tl (nth F j)
theorem mD{cl:Nat->Nat}{nx:Nat->Nat->Nat}{tl:Nat->Nat}{n:Nat}(h0:0<n):LI cl nx tl n 0 [0] [] []:=⟨zd,rfl,rfl,zd,ao _ _,⟨fun o ho=>by rw[I1.1 ho];exact h0,by simp⟩,fun j hj=>absurd hj (I4 j),fun j hj=>absurd hj (I4 j)⟩
theorem LI.next{cl:Nat->Nat}{nx:Nat->Nat->Nat}{tl:Nat->Nat}{n i:Nat}{F:List Nat}{rows:List (List Nat)}{a3:List Nat}(h:LI cl nx tl n i F rows a3)(hi:i<F.length)(a4:∀p m,p<n->m<37->nx p m<n):
  LI cl nx tl n (i+1) (iK cl nx (nth F i) F 37).1 (rows++[(iK cl nx (nth F i) F 37).2]) (a3++[tl (nth F i)]):=by
 have hr:=qe (p:=nth F i) h.reps (fun m hm=>a4 (nth F i) m (h.reps.lt _ (aJ hi)) hm) 37 (I8 _);generalize iK cl nx (nth F i) F 37=R at *;obtain⟨F1,r⟩:=R;dsimp only at hr ⊢;obtain⟨q,hq⟩:=hr.pre;have a0:∀k,k<F.length->nth F1 k=nth F k:=fun k hk=>by rw[hq,aA,if_pos hk]
 have a5:F.length<=F1.length:=by rw[hq];simp
 have h1:=h.rl;have h2:=h.tln;have h3:=h.p0;refine⟨zo,by simp[h1],by simp[h2],zo,by rw[a0 0 h3];exact h.fst,hr.reps,fun j hj=>?_,fun j hj=>?_⟩
 ·rw[aA]
  by_cases e:j<rows.length
  ·rw[if_pos e];obtain⟨a1,a2⟩:=h.row j zo;refine⟨a1,fun m hm=>?_⟩;obtain⟨b1,b2⟩:=a2 m hm;exact⟨zo,by rw[a0 _ b1,a0 j zo];exact b2⟩
  rw[if_neg e,show j-rows.length=0 from by omega,ao];obtain rfl:j=i:=zo;refine⟨hr.len,fun m hm=>?_⟩;obtain⟨b1,b2⟩:=hr.lt m hm;exact⟨b1,by rw[a0 j hi];exact b2⟩
 rw[aA]
 by_cases e:j<a3.length
 ·rw[if_pos e,a0 j zo];exact h.tel j zo
 rw[if_neg e,show j-a3.length=0 from by omega,ao];obtain rfl:j=i:=zo;rw[a0 j hi]
theorem fS{cl:Nat->Nat}{nx:Nat->Nat->Nat}{tl:Nat->Nat}{n:Nat}(a1:∀p m,p<n->m<37->nx p m<n):∀(f i:Nat) (F:List Nat) (rows:List (List Nat)) (a0:List Nat),LI cl nx tl n i F rows a0->n+1<=i+f->∃F',LI cl nx tl n F'.length F' (fo cl nx tl f i F rows a0).1 (fo cl nx tl f i F rows a0).2
 |0,i,F,rows,a0,h,hf=>by have:=h.le;have:=h.reps.len;omega
 |f+1,i,F,rows,a0,h,hf=>by
  unfold fo
  split
  ·rename_i hi;exact fS a1 f (i+1) _ _ _ (h.next hi a1) zo
  rename_i hi;have:=h.le;obtain rfl:i=F.length:=zo;exact⟨F,h⟩
def Ip(F:Lw)(cs:Array ix)(i:Nat)(_:Nat)(O:Nat->Nat)(w:ln)(l:List Nat)(q:Nat->Bool):Prop:=
 ∀x∈l,∀(O':Nat->Nat) (W:ln),IK (fun k=>k=i) O w O' W->Kd J6 F ([nI (x:Nat)]++cs.toList) W fun v W'=>v=.bool (q x)/\JX W W'
theorem oo{F:Lw}(hF:∀(args:Array ix) (w:ln),(callFunc F args).run J6 w=.ok (.enter F args) w)(cs:Array ix)(B:Nat)(O:Nat->Nat)(w:ln)(i:Nat)(sv:ix)(l:List Nat)(q:Nat->Bool)(hi:i≠0)(_:JG B O w)(hr:J1 aR 3 1 O w i sv l)(hq:Ip F cs i B O w l q):
  Kd J6 242 [sv,.func (.func F) #[] cs] w fun v w'=>v=nI (dA (fun j=>q (nth l j)) l.length)/\JX w w':=by
 have hl:=hr.sl.len_le;refine IE func242 ntmps242 rfl rfl ?_;refine zh ?_;refine zvH (bj hr.sl.sh I6 rfl) ?_;refine zlp (fun x:Nat×ln=>[(0,sv),(1,.func (.func F) #[] cs),(7,nI l.length),(8,nI x.1)]) (fun x=>x.2) (fun x=>x.1<=l.length/\JX w x.2/\∀j,j<x.1->q (nth l j)=false) (fun x=>l.length-x.1) (0,w) (⟨I0 _,IF _,fun i hi=>absurd hi (I4 i)⟩) ?_;rintro⟨k,w1⟩ ⟨hk,hE,a1⟩;dsimp only at hk hE a1 ⊢;have h1:=hr.sl.ext hE;refine zh ?_;refine zC ?_ ?_
 ·intro a0;replace a0:k<l.length:=dT a0;have m1:w1.cell? (adr sv 1 k)=some (nI ((nth l k:Nat):Int)):=by have:=h1.cell (j:=0) a0 rfl;rwa[ax]at this
  refine zh ?_;refine dt rfl hF rfl (hq _ (aJ a0) O w1 (aa (fun e=>hi e.symm) O hE)) rfl ?_
  rintro v w2 ⟨rfl,a3⟩;refine zh ?_;refine zC ?_ ?_
  ·intro hy;refine zh ?_;refine ae rfl rfl (⟨by rw[ck (q:=fun j=>q (nth l j)) a0 hy a1],hE.trans a3⟩)
  intro hy;refine zh ?_;refine zxd (k+1,w2) (⟨a0,hE.trans a3,fun i hi=>(Nat.lt_succ_iff_lt_or_eq.1 hi).elim (a1 i) (fun e=>by rw[e];exact hy)⟩)
 intro a2;replace a2:l.length<=k:=dF a2;refine zh ?_;refine ae rfl rfl (⟨by rw[cg (q:=fun j=>q (nth l j)) fun i hi=>a1 i zo],hE⟩)
def gh(q:Nat->Bool)(l:List Nat):List Nat:=l.filter fun x=>!q x
theorem ir{q:Nat->Bool}{l:List Nat}{j:Nat}(h:j<l.length):gh q (l.take (j+1))=gh q (l.take j)++if q (nth l j)=true then []else [nth l j]:=by
 unfold gh;rw[aM h,Jj,JE]
 cases q (nth l j)<;>rfl
theorem oz{F:Lw}(hF:∀(args:Array ix) (w:ln),(callFunc F args).run J6 w=.ok (.enter F args) w)(cs:Array ix)(B:Nat)(O:Nat->Nat)(w:ln)(i:Nat)(sv:ix)(l:List Nat)(q:Nat->Bool)(hi:i≠0)(hR:JG B O w)(hr:J1 aR 3 1 O w i sv l)(hq:Ip F cs i B O w l q):
  Kd J6 257 [sv,.func (.func F) #[] cs] w fun v w'=>J1 aR 3 1 O w' i v (gh q l)/\IK (fun k=>k=i) O w O w':=by
 have hl:=hr.sl.len_le;have hz:¬(fun k=>k=i) 0:=fun e=>hi e.symm
 refine IE func257 ntmps257 rfl rfl ?_;refine zh ?_
 refine zc call242 (oo hF cs B O w i sv l q hi hR hr hq) ?_;rintro _ w1 ⟨rfl,d1⟩;have d0:IK (fun k=>k=i) O w O w1:=aa hz O d1;have c5:J1 aR 3 1 O w1 i sv l:=hr.upd (aa (S:=fun _=>False) (fun h=>h) O d1) hi fun h=>h
 refine zh ?_
 by_cases a':iG (fun j=>q (nth l j)) l.length=true
 ·obtain⟨j0,b1,b5,a9⟩:∃j0,j0<l.length/\q (nth l j0)=true/\∀j,j<j0->q (nth l j)=false:=by
   have hf:=(firstN_any (q:=fun j=>q (nth l j)) (n:=l.length)).trans a'
   cases c9:(Ji l.length).find? (fun j=>q (nth l j))with
   |none=>rw[dA,c9]at hf;exact absurd hf zd
   |some k=>
    obtain⟨a1,a2,a3⟩:=List.find?_range_eq_some.1 c9;exact⟨k,IV.1 a2,a1,fun j hj=>by simpa using a3 j hj⟩
  have b7:dA (fun j=>q (nth l j)) l.length=(j0:Int):=ck b1 b5 a9;rw[b7];have c8:∀j,j<=j0->gh q (l.take j)=l.take j:=fun j=>by
   induction j with
   |zero=>intro _;rfl
   |succ j ih=>
    intro hj;rw[ir zo,ih zo,a9 j zo,aM zo];rfl
  refine zFH rfl ((by rw[beq_eq_false_iff_ne];omega)) ?_;refine zlp (fun z:Nat×Nat×ln×List Nat=>[(0,sv),(1,.func (.func F) #[] cs),(5,nI z.1),(6,nI z.2.1)]) (fun z=>z.2.2.1) (fun z=>z.2.1<=l.length/\z.1<z.2.1/\z.1=(gh q (l.take z.2.1)).length/\z.2.2.2.length=l.length/\z.2.2.2.take z.1=gh q (l.take z.2.1)/\(∀j,z.2.1<=j->j<l.length->nth z.2.2.2 j=nth l j)/\J1 aR 3 1 O z.2.2.1 i sv z.2.2.2/\IK (fun k=>k=i) O w O z.2.2.1) (fun z=>l.length-z.2.1) (j0,j0+1,w1,l) (⟨b1,Nat.lt_succ_self _,by dsimp only;rw[ir b1,b5,if_pos rfl,IN,c8 j0 (I8 _)];simp;omega,rfl,by dsimp only;rw[ir b1,b5,if_pos rfl,IN,c8 j0 (I8 _)],fun _ _ _=>rfl,c5,d0⟩) ?_
  rintro⟨a,j,w2,l2⟩ ⟨hj,d6,ha,b6,a7,a0,b0,b3⟩;dsimp only at hj d6 ha b6 a7 a0 b0 b3 ⊢;have b':=b0.sl;refine zh ?_;refine zC ?_ ?_
  ·intro a4;replace a4:j<l.length:=dT a4;have d3:=a0 j (I8 _) a4;have m1:w2.cell? (adr sv 1 j)=some (nI ((nth l j:Nat):Int)):=by have:=b'.cell (i:=j) (j:=0) zo rfl;rw[ax,d3]at this;exact this
   have a6:=ir (q:=q) a4;refine zh ?_;refine dt rfl hF rfl (hq _ (aJ a4) O w2 b3) rfl ?_;rintro v w3 ⟨rfl,d8⟩;have c':IK (fun _=>False) O w2 O w3:=aa (fun h=>h) O d8;have a5:=b0.upd c' hi fun h=>h
   have b2:=b3.trans (c'.mono (fun _ h=>h.elim) hz);refine zh ?_
   cases c6:q (nth l j)with
   |true=>
    rw[c6,if_pos rfl,IN]at a6;refine zFH rfl rfl ?_;refine zxd (a,j+1,w3,l2) (⟨a4,by dsimp only;omega,by dsimp only;rw[a6];exact ha,b6,by dsimp only;rw[a6];exact a7,fun x h1 h2=>a0 x (by dsimp only at h1;omega) h2,a5,b2⟩)
   |false=>
    rw[c6,if_neg zd]at a6;have b9:=a5.sl;refine zTH rfl rfl ?_;refine JK a5 a zo (nth l j) (IS _) rfl hi rfl rfl rfl rfl ?_;intro w4 d2 d7;refine zh ?_;refine zxd (a+1,j+1,w4,l2.set a (nth l j)) (⟨a4,by dsimp only;omega,by dsimp only;rw[a6,IT,<-ha];rfl,by dsimp only;rw[I7];exact b6,?_,fun x h1 h2=>?_,d2,b2.trans d7⟩)
    ·dsimp only;have d5:a<(l2.set a (nth l j)).length:=by rw[I7];omega
     rw[a6,List.take_succ_eq_append_getElem d5,List.getElem_set_self,List.take_set_of_le (I8 _),a7]
    dsimp only at h1 ⊢;rw[aW zo,if_neg zo];exact a0 x zo h2
  intro d4;obtain rfl:j=l.length:=dF d4;rw[II]at ha a7;refine zh ?_;refine zv (pN b' I6 (IS _) rfl rfl a rfl zo) ?_;refine tk b0 a zo (0:Nat) hi I6 (JQ) rfl rfl rfl rfl ?_;intro w3 l3 a5 b4 d9 b2;have b8:=a5.short (n:=a) zo;rw[b4,a7]at b8;have b9:=a5.sl;refine zh ?_;refine zvH (yM b9 I6 (IS _) rfl rfl a rfl zo) ?_;refine ae rfl rfl (⟨b8,b3.trans b2⟩)
 have c7:=cm.1 (by simpa using a');have b7:dA (fun j=>q (nth l j)) l.length = -1:=cg c7;rw[b7];have a8:gh q l=l:=List.filter_eq_self.2 fun x hx=>by
  obtain⟨j,hj,rfl⟩:=cn hx;rw[c7 j hj];rfl
 rw[a8];refine zTH rfl rfl ?_;refine ae rfl rfl (⟨c5,d0⟩)
theorem Gq:KeyL J6 328 dP:=BE JH Kg zk zk
theorem GE:cF J6 327 #[(0,2),(2,1),(3,1),(4,1),(5,1),(6,1)]:=⟨_,underlying327,fun w=>by kernel_rfl⟩
theorem oV(B:Nat)(O:Nat->Nat)(w:ln)(sb tr:Nat)(td:List ((Int×Int)×Bool))(hR:JG B O w)(hc:L1 O w (nA sb 5) (.map (some tr))\/(O (nA sb 5).block=1/\w.cell? (nA sb 5)=some (.map (some tr))))(hm:Jg dP IX O w 4 tr td):
  Kd J6 236 [nP sb] w fun v w'=>
   (td=[]/\v=.tuple #[dP (0,0),.bool false]/\IK (fun q=>q=4) O w O w'/\Jg dP IX O w' 4 tr td)\/
   ∃b4 k x b3,td=b4++(k,x)::b3/\v=.tuple #[dP k,.bool true]/\IK (fun q=>q=4) O w O w'/\Jg dP IX O w' 4 tr (oE td k):=by
 obtain⟨T0,d',c'⟩:=hR.bound;obtain⟨T,e3⟩:∃T,T=T0+10:=⟨_,rfl⟩
 have hT:∀b,O b<T:=fun b=>by have:=c' b;omega
 have d4:=hm.tag;have a2:w.cell? (nA sb 5)=some (.map (some tr)):=by
  rcases hc with h|h
  ·exact h.c
  exact h.2
 have d5:O (nA sb 5).block=0\/O (nA sb 5).block=1:=by
  rcases hc with h|h
  ·exact .inl h.z
  exact .inr h.1
 have a3:∀ {S:Nat->Prop} {O':Nat->Nat} {W:ln},IK S O w O' W->¬S 1->W.cell? (nA sb 5)=some (.map (some tr)):=fun {S O' W} u hS=>by
  refine gH (u.blk _ (Kh w _ a2) ?_) a2
  rcases d5 with h|h
  ·rw[h];exact u.z
  rw[h];exact hS
 refine IE func236 ntmps236 rfl rfl ?_;refine zh ?_
 refine au hR T zo (Jz _) rfl ?_;intro cb w1 O1 a1 c9 e2 e6;have d9:=hm.upd c9 zd zo;have c1:=a3 c9 zo;refine zh ?_
 refine nM d9 JI e2 (T+1) zo zd rfl rfl ?_;intro q w2 O2 d3 d0 b0 e1;have a5:IK (fun k=>T<=k) O w O2 w2:=(c9.mono (fun _ h=>zo) zo).trans (b0.mono (fun _ h=>zo) zo);have c2:=a3 a5 zo;refine zh ?_
 refine zlp (fun x:Unit=>[(0,nP sb),(2,nP cb),(9,nP q)]) (fun x=>w2) (fun x=>True) (fun x=>0) () (trivial) ?_;rintro⟨⟩ -;refine zh ?_
 refine pM d3 zo zo rfl rfl ?_ ?_
 ·intro h0;refine zh ?_;refine zFH rfl rfl ?_;refine zv (eG JH (IS _) (Jz _) rfl rfl) ?_;refine zsa (us:=#[nI 0,nI 0]) (a1.upd b0 zo zo) (JN _) ?_;have a8:=a1.upd b0 zo zo;have b8:=a8.setRow (us:=#[nI 0,nI 0]);have a9:IK (fun k=>T<=k) O2 w2 O2 (w2.setRow cb #[nI 0,nI 0]):=IU zo a8.tag (I8 _);have b9:=a5.trans a9;refine zh ?_;refine bf rfl rfl rfl (b8.cellsAdd) (KO _) (JN _) (.inl ⟨h0,rfl,b9.fgt (fun b h=>by have:=hT b;omega) zd,(d0.upd a9 zd zo).fgt hm.tag⟩)
 intro b4 k x b3 w3 d2 b5 a';obtain⟨k1,k2⟩:=k;refine zh ?_;refine zTH rfl rfl ?_;refine zvH (RV.entry b5 rfl) ?_;have c8:IK (fun k=>T<=k) O w O2 w3:=a5.trans (a'.mono (fun _ h=>zo) zo);have e0:=e1.upd a';have d8:=d0.upd a' zo zo;refine au e0 (T+2) zo (Jz _) rfl ?_;intro eb w4 O4 a0 b2 e4 e5;have d7:=d8.upd b2 zo zo;refine zsa (us:=#[nI k1,nI k2]) a0 (JN _) ?_;have a6:=a0.setRow (us:=#[nI k1,nI k2]);have d1:IK (fun k=>T<=k) O4 w4 O4 (w4.setRow eb #[nI k1,nI k2]):=IU zo a0.tag zo;have b6:=d7.upd d1 zd zo;have a7:=(((a1.upd b0 zo zo).upd a' zo zo).upd b2 zo zo)
 have c6:IK (fun k=>T+1<=k) O2 w3 O4 (w4.setRow eb #[nI k1,nI k2]):=(b2.mono (fun _ h=>zo) zo).trans (IU zo a0.tag zo);have a7:=((a1.upd b0 zo zo).upd a' zo zo).upd c6 zo zo;have b1:=(c8.trans (b2.mono (fun _ h=>zo) zo)).trans d1;generalize w4.setRow eb #[nI k1,nI k2]=w5 at *;have c5:=a3 b1 zo;refine zh ?_;refine L5 5 rfl rfl zk zk ?_;refine zh ?_;refine zw (ah (us:=[nI k1,nI k2]) a6.drew.cellsAdd (KO _) (JN _) rfl) ?_;refine Lr ?_;have hm5d:Jg dP IX O4 w5.drew 4 tr td:=⟨b6.blk,b6.tag,b6.born⟩
 refine WL.delete hm5d JI Gq zd (k1,k2) rfl rfl rfl ?_;intro w6 d6 b';have b7:=a6.drew.upd b' zo zo;have a4:=a7.drew.upd b' zo zo;have c7:IK (fun k=>k=4\/T<=k) O w O4 w6:=(b1.drew.mono (fun _ h=>.inr h) zo).trans (b'.mono (fun _ h=>.inl h) zo);refine zh ?_
 refine zv (ah (us:=[nI k1,nI k2]) b7.cellsAdd (KO _) (JN _) rfl) ?_;refine zsa (us:=#[nI k1,nI k2]) a4 (JN _) ?_
 have b8:=a4.setRow (us:=#[nI k1,nI k2]);have a9:IK (fun k=>k=T) O4 w6 O4 (w6.setRow cb #[nI k1,nI k2]):=IU zo a4.tag rfl;have b9:=c7.trans (a9.mono (fun _ h=>.inr zo) zo);refine zh ?_;refine bf rfl rfl rfl (b8.cellsAdd) (KO _) (JN _) (.inr ⟨b4,(k1,k2),x,b3,d2,rfl,b9.priv hT zd,(d6.upd a9 zd zo).fgt hm.tag⟩)
end Go.Proofs.YteolbhblkgjbhaaGreatDoor
section
namespace Go.Proofs.YteolbhblkgjbhaaGreatDoor
open Go.VL Go.Proofs
set_option maxRecDepth 10000
abbrev KVR:=Int×ix×List Nat
abbrev sH(e:KVR):Int×ix:=(e.1,e.2.1)
theorem uY(E:List KVR)(k:Int)(v:ix)(l:List Nat):(cp E k (v,l)).map sH=cp (E.map sH) k v:=by
 induction E with
 |nil=>rfl
 |cons e r ih=>
  simp only[cp,J2,sH]
  by_cases h:e.1=k
  ·rw[if_pos h,if_pos h];rfl
  rw[if_neg h,if_neg h,J2,ih]
theorem CR(E:List KVR)(k:Int):bm (E.map sH) k=(bm E k).map (·.1):=by
 induction E with
 |nil=>rfl
 |cons e r ih=>
  simp only[bm,J2,sH]
  by_cases h:e.1=k
  ·rw[if_pos h,if_pos h];rfl
  rw[if_neg h,if_neg h];exact ih
structure MpR(base i:Nat)(O:Nat->Nat)(w:ln)(r:Nat)(E:List KVR):Prop where
 map:Jg (fun k:Int=>nI k) (fun v:ix=>v) O w i r (E.map sH)
 row:∀k,k<E.length->J1 aR 3 1 O w (base+k) (nth E k).2.1 (nth E k).2.2
theorem MpR.upd{base i:Nat}{S:Nat->Prop}{O O':Nat->Nat}{w w':ln}{r:Nat}{E:List KVR}(h:MpR base i O w r E)(u:IK S O w O' w')(hi:i≠0)(hb:0<base)(hS:¬S i)(a0:∀k,¬S (base+k)):MpR base i O' w' r E:=
 ⟨h.map.upd u hi hS,fun k hk=>(h.row k hk).upd u zo (a0 k)⟩
def kH(E:List KVR)(k:Int):Nat:=(iz E k).getD E.length
def dh(E:List KVR)(k:Int):List Nat:=((bm E k).map (·.2)).getD []
def BG(E:List KVR)(k:Int):ix:=((bm E k).map (·.1)).getD (nS)
theorem MpR.at{base i:Nat}{O:Nat->Nat}{w:ln}{r:Nat}{E:List KVR}(h:MpR base i O w r E)(k:Int):J1 aR 3 1 O w (base+kH E k) (BG E k) (dh E k):=by
 unfold kH BG dh;rw[ky]
 cases ha:iz E k with
 |none=>exact Je _ _ _ _ _ _
 |some j=>
  obtain⟨x,hx⟩:=gO ha;obtain⟨hj,a0⟩:=Jc.1 hx;have h1:=h.row j hj;rw[aC hj,a0]at h1;simp only[Option.bind_some,hx,Option.map_some,Option.getD_some];exact h1
theorem MpR.put{base i:Nat}{O O' O2:Nat->Nat}{w w' w2:ln}{r:Nat}{E:List KVR}(h:MpR base i O w r E)(k:Int){v:ix}{l:List Nat}(_:i≠0)(hb:i<base)(u:IK (fun q=>q=base+kH E k) O w O' w')(hr:J1 aR 3 1 O' w' (base+kH E k) v l) 
  (hm:Jg (fun k:Int=>nI k) (fun v:ix=>v) O2 w2 i r (cp (E.map sH) k v)) (u2:IK (fun q=>q=i) O' w' O2 w2):MpR base i O2 w2 r (cp E k (v,l)):=by
 refine⟨by rw[uY];exact hm,fun n hn=>?_⟩;have a0:=hr.upd u2 zo zo;have old:∀n,n<E.length->n≠kH E k->J1 aR 3 1 O2 w2 (base+n) (nth E n).2.1 (nth E n).2.2:=fun n hn a1=>((h.row n hn).upd u zo zo).upd u2 zo zo
 rw[dZ]at hn ⊢
 cases ha:iz E k with
 |none=>
  rw[ha]at hn;dsimp only at hn ⊢;have hs:kH E k=E.length:=by unfold kH;rw[ha];rfl
  rw[hs]at a0 old;rw[IT,IJ]at hn
  by_cases he:n=E.length
  ·subst he;rw[aA,if_neg zo,JY,show nth [((k,v,l):KVR)] 0=(k,v,l)from by rw[aC (Nat.zero_lt_one)];rfl];exact a0
  rw[aA,if_pos zo];exact old n zo he
 |some j=>
  rw[ha]at hn;dsimp only at hn ⊢;have hs:kH E k=j:=by unfold kH;rw[ha];rfl
  rw[hs]at a0 old;rw[I7]at hn;obtain⟨x,hx⟩:=gO ha;obtain⟨hj,_⟩:=Jc.1 hx;rw[aW hj]
  by_cases he:n=j
  ·rw[if_pos he];subst he;exact a0
  rw[if_neg he];exact old n hn he
theorem dL(E:List KVR)(k k':Int)(v:ix)(l:List Nat):dh (cp E k (v,l)) k'=if k=k' then l else dh E k':=by
 unfold dh;rw[aU]
 split<;>rfl
theorem ku(E:List KVR)(k:Int)(x:ix×List Nat):(cp E k x).map (·.1)=if k∈E.map (·.1)then E.map (·.1)else E.map (·.1)++[k]:=by
 induction E with
 |nil=>rfl
 |cons e r ih=>
  simp only[cp]
  by_cases h:e.1=k
  ·rw[if_pos h,if_pos (by simp[h])];simp[h]
  rw[if_neg h,J2,ih];have h':¬k=e.1:=fun e=>h e.symm
  by_cases hm:k∈r.map (·.1)
  ·rw[if_pos hm,if_pos (by rw[J2];exact J0 _ hm)];rfl
  rw[if_neg hm,if_neg (by rw[J2,IQ];exact fun h=>h.elim h' hm)];rfl
theorem yH{E:List KVR}(h:(E.map (·.1)).Nodup)(k:Int)(x:ix×List Nat):((cp E k x).map (·.1)).Nodup:=by
 rw[ku]
 split
 ·exact h
 rename_i hk;refine KI.2 ⟨h,by simp,fun a ha b hb e=>?_⟩;rw[I1]at hb;subst hb;subst e;exact hk ha
end Go.Proofs.YteolbhblkgjbhaaGreatDoor
namespace Go.VL
open Go.Proofs
theorem gS{P:JW}{N:Nat}{ops:Array Kz}{S:ln->Prop}{Q:KW->Ly->ln->Prop}{a1:Nat}{a0:Array Bool}{st:St}{w:ln} 
  {T E:Jr} {o:Op} {sz a2:Nat} {α:Type} {enc:α->List ix} {y:KG} {t t':Jr} {p p':String} {e e':Array Lx} {d d':Nat} {v xv:ix}
  (i j:Nat) (he:Lb P T E sz a2) (u:α) (hi:ops[i]? = some ⟨some d,o,t,p,e,none⟩) (hj:ops[j]? = some ⟨some d',.buildSlice T 1 #[(0,y)],t',p',e',none⟩)
  (hr:IW .any ops a0=[i,j]) (a':IW .any ops (a0.setIfInBounds i true)=[j]) (a9:IW .any ops (a0.setIfInBounds j true)=[i])
  (a4:(a0.setIfInBounds j true).setIfInBounds i true=(a0.setIfInBounds i true).setIfInBounds j true)
  (hv:∀w',JX w w'->RV P N o t st w' v) (hS:∀w',JX w w'->S w')
  (hy:ev st y=some xv) (a5:xv.cells.toList=enc u) (a6:(enc u).length=sz) (hs:sz<=16777216) (hd:JJ d N=true) (a7:JJ d' N=true) (b0:JD d d'=false) (hf:(cf st d').isNone=true) (a8:ev ((d,v)::st) y=some xv)
  (h:∀sv w',Sl enc sz w' sv [u]->JX w w'->WH P N ops S Q a1 ((a0.setIfInBounds i true).setIfInBounds j true) ((d',sv)::(d,v)::st) w'):WH P N ops S Q (a1+2) a0 st w:=by
 refine bZ i j hr hi hj ?_ ?_
 ·refine lL (hv w (IF w)) hd (I3 (af (hS w (IF w)) (I9 j a' hj ?_)));refine cU he u a8 a5 a6 hs a7 fun sv w' a3 hE=>I3 (af (hS w' hE) (h sv w' a3 hE))
 refine cU he u hy a5 a6 hs a7 fun sv w' a3 hE=>I3 (af (hS w' hE) (I9 i a9 hi ?_))
 refine lL (fun a ha=>hv w' hE a (ha.fresh hf)) hd (I3 (af (hS w' hE) ?_));rw[a4];exact fun a ha=>h sv w' a3 hE a (ha.swap b0)
end Go.VL
end
namespace Go.Proofs.YteolbhblkgjbhaaGreatDoor
structure LeadsI(bl xs:List Nat)(E:List KVR):Prop where
 nd:(E.map (·.1)).Nodup
 row:∀k,dh E k=xs.filter fun i=>decide (((nth bl i:Nat):Int)=k)
 key:∀k,k∈E.map (·.1)↔∃i∈xs,((nth bl i:Nat):Int)=k
theorem LeadsI.nil(bl:List Nat):LeadsI bl [] []:=⟨KU,fun _=>rfl,fun k=>by simp⟩
theorem LeadsI.push{bl xs:List Nat}{E:List KVR}(h:LeadsI bl xs E)(i:Nat)(v:ix):LeadsI bl (xs++[i]) (cp E ((nth bl i:Nat):Int) (v,dh E ((nth bl i:Nat):Int)++[i])):=by
 refine⟨yH h.nd _ _,fun k=>?_,fun k=>?_⟩
 ·rw[dL,Jj,h.row,h.row]
  by_cases hk:((nth bl i:Nat):Int)=k
  ·rw[if_pos hk,hk,List.filter_cons_of_pos (by simpa using hk)];rfl
  rw[if_neg hk,List.filter_cons_of_neg (by simpa using hk)];simp
 rw[ku]
 constructor
 ·intro hm
  split at hm
  ·obtain⟨x,hx,e⟩:=(h.key k).1 hm;exact⟨x,JP _ hx,e⟩
  rcases IZ.1 hm with hm|hm
  ·obtain⟨x,hx,e⟩:=(h.key k).1 hm;exact⟨x,JP _ hx,e⟩
  exact⟨i,by simp,(I1.1 hm).symm⟩
 rintro⟨x,hx,e⟩
 rcases IZ.1 hx with hx|hx
 ·have:=(h.key k).2 ⟨x,hx,e⟩
  split
  ·exact this
  exact JP _ this
 obtain rfl:=I1.1 hx;subst e
 split
 ·assumption
 exact List.mem_append_right _ (I1.2 rfl)
def dI(n:Nat)(nx:Nat->Nat)(to:Nat):List Nat:=(Ji n).filter fun x=>decide (nx x=to)
theorem gz{n:Nat}{nx:Nat->Nat}{to x:Nat}:x∈dI n nx to↔x<n/\nx x=to:=by
 simp[dI,IV]
theorem CF(n:Nat)(nx:Nat->Nat)(to:Nat):(dI n nx to).Nodup:=K5.sublist Jt
theorem gy{n:Nat}{nx:Nat->Nat}{l:List Nat}{x:Nat}:x∈l.flatMap (dI n nx)↔x<n/\nx x∈l:=by
 rw[List.mem_flatMap]
 constructor
 ·rintro⟨a,ha,hx⟩;obtain⟨h1,rfl⟩:=gz.1 hx;exact⟨h1,ha⟩
 rintro⟨h1,h2⟩;exact⟨_,h2,gz.2 ⟨h1,rfl⟩⟩
theorem qC{n:Nat}{nx:Nat->Nat}:∀ {l:List Nat},l.Nodup->(l.flatMap (dI n nx)).Nodup
 |[],_=>KU
 |a::r,h=>by
  obtain⟨h1,h2⟩:=K8.1 h;rw[JC];refine KI.2 ⟨CF n nx a,qC h2,fun x hx y hy e=>?_⟩;subst e;have a1:=(gz.1 hx).2;have a0:=(gy.1 hy).2;rw[a1]at a0;exact h1 a0
theorem LeadsI.mem{n b:Nat}{nx:Nat->Nat}{bl st:List Nat}{E:List KVR}(h:LeadsI bl (st.flatMap (dI n nx)) E)(a1:∀x,x<n->nx x<n)(a0:∀x,x∈st↔x<n/\nth bl x=b)(k x:Nat):x∈dh E (k:Int)↔x<n/\nth bl x=k/\nth bl (nx x)=b:=by
 rw[h.row,Jh,gy,a0,decide_eq_true_eq]
 constructor
 ·rintro⟨⟨h1,_,h2⟩,h3⟩;exact⟨h1,zo,h2⟩
 rintro⟨h1,h2,h3⟩;exact⟨⟨h1,a1 x h1,h3⟩,zo⟩
theorem LeadsI.rnd{n:Nat}{nx:Nat->Nat}{bl st:List Nat}{E:List KVR}(h:LeadsI bl (st.flatMap (dI n nx)) E)(a0:st.Nodup)(k:Int):(dh E k).Nodup:=by
 rw[h.row];exact(qC a0).sublist Jt
theorem LeadsI.ne{bl xs:List Nat}{E:List KVR}(h:LeadsI bl xs E){k:Int}(hk:k∈E.map (·.1)):dh E k≠[]:=fun e=>by
 obtain⟨i,hi,hb⟩:=(h.key k).1 hk;have:i∈dh E k:=by rw[h.row];exact Jh.2 ⟨hi,decide_eq_true hb⟩
 rw[e]at this;exact absurd this (by simp)
structure FromO(O:Nat->Nat)(w:ln)(i:Nat)(fv:ix)(n:Nat)(nx:Nat->Nat->Nat):Prop where
 ex:∃(ms:List ix) (vss:List (List ix)),J1 yQ 130 1 O w i fv ms/\ms.length=37/\∀m,m<37->J1 yQ 22 1 O w i (nth ms m) (nth vss m)/\(nth vss m).length=n/\
  ∀t,t<n->J1 aR 3 1 O w i (nth (nth vss m) t) (dI n (fun x=>nx x m) t)
theorem FromO.upd{S:Nat->Prop}{O O':Nat->Nat}{w w':ln}{i:Nat}{fv:ix}{n:Nat}{nx:Nat->Nat->Nat}(h:FromO O w i fv n nx)(u:IK S O w O' w')(hi:i≠0)(hS:¬S i):FromO O' w' i fv n nx:=by
 obtain⟨ms,a0,h1,h2,h3⟩:=h.ex;exact⟨ms,a0,h1.upd u hi hS,h2,fun m hm=>⟨(h3 m hm).1.upd u hi hS,(h3 m hm).2.1,fun t ht=>((h3 m hm).2.2 t ht).upd u hi hS⟩⟩
structure SpO(O:Nat->Nat)(w:ln)(sb:Nat)(nv tv fv bv:ix)(sr tr n:Nat)(nx:Nat->Nat->Nat)(bl:List Nat)(E:List KVR)(td:List ((Int×Int)×Bool))(many:Nat):Prop where
 blk:Ju O w 1 sb #[nv,tv,fv,bv,.map (some sr),.map (some tr),nI (many:Nat)] 327
 row:J1 aR 3 1 O w 2 bv bl
 st:MpR 10 3 O w sr E
 todo:Jg dP IX O w 4 tr td
 frm:FromO O w 5 fv n nx
theorem SpO.upd{S:Nat->Prop}{O O':Nat->Nat}{w w':ln}{sb:Nat}{nv tv fv bv:ix}{sr tr n:Nat}{nx:Nat->Nat->Nat}{bl:List Nat}{E:List KVR}{td:List ((Int×Int)×Bool)}{many:Nat}(h:SpO O w sb nv tv fv bv sr tr n nx bl E td many) 
  (u:IK S O w O' w') (hS:∀k,0<k->k<10+E.length->¬S k):SpO O' w' sb nv tv fv bv sr tr n nx bl E td many:=
 ⟨h.blk.upd u zd (hS 1 zo zo),h.row.upd u zd (hS 2 zo zo),⟨h.st.map.upd u zd (hS 3 zo zo),fun k hk=>(h.st.row k hk).upd u zo (hS _ zo zo)⟩,h.todo.upd u zd (hS 4 zo zo),h.frm.upd u zd (hS 5 zo zo)⟩
theorem lu(E:List KVR)(k:Int):Fe (fun v:ix=>v) (nS) (bm (E.map sH) k)=BG E k:=by
 unfold BG;rw[CR]
 cases bm E k<;>rfl
theorem uC(B:Nat)(O:Nat->Nat)(w:ln)(sb:Nat)(nv tv fv bv:ix)(sr tr n:Nat)(nx:Nat->Nat->Nat)(bl:List Nat)(E:List KVR)(td:List ((Int×Int)×Bool))(many b m:Nat)(hR:JG B O w)(hS:SpO O w sb nv tv fv bv sr tr n nx bl E td many) 
  (hE:E.length<=1000) (hm:m<37) (d4:∀x∈dh E (b:Nat),x<n) (hn:n<=1000) (g0:bl.length=n) (d5:(dh E (b:Nat)).Nodup) (_:∀q,O q<2000) :
  Kd J6 237 [nP sb,nI (b:Nat),nI (m:Nat)] w fun v w'=>
   ∃r O' G,v=.map (some r)/\IK (fun q=>2000<=q) O w O' w'/\JG B O' w'/\MpR 3000 2000 O' w' r G/\LeadsI bl ((dh E (b:Nat)).flatMap (dI n fun x=>nx x m)) G:=by
 obtain⟨ms,b2,e5,f6,a8⟩:=hS.frm.ex;refine IE func237 ntmps237 rfl rfl ?_;refine zh ?_;refine aZ (fun k:Int=>nI k) (fun v:ix=>v) hR 2000 zd rfl ?_;intro r w1 O1 e0 c8 e9;have b6:=hS.upd c8 zo;have c3:w1.cell? (nA sb 4)=some (.map (some sr)):=b6.blk.cell 4 rfl;have d7:=b6.st.at (b:Int);have d6:=hS.st.at (b:Int);refine zh ?_;refine zv (Jo b6.st.map IP oZ (Jm _) (b:Int) rfl rfl rfl (lu E _)) ?_;refine zvH (bj d7.sl.sh I6 rfl) ?_;refine zlp (fun z:Nat×(Nat->Nat)×World×List KVR=>[(0,nP sb),(2,nI (m:Nat)),(7,.map (some r)),(18,BG E (b:Nat)),(19,nI (dh E (b:Nat)).length),(20,nI z.1)]) (fun z=>z.2.2.1) (fun z=>z.1<=(dh E (b:Nat)).length/\IK (fun q=>2000<=q) O w z.2.1 z.2.2.1/\JG B z.2.1 z.2.2.1/\MpR 3000 2000 z.2.1 z.2.2.1 r z.2.2.2/\LeadsI bl (((dh E (b:Nat)).take z.1).flatMap (dI n fun x=>nx x m)) z.2.2.2) (fun z=>(dh E (b:Nat)).length-z.1) (0,O1,w1,[]) (⟨I0 _,c8.mono (fun _ h=>zo) zd,e9,⟨e0,fun k hk=>absurd hk (I4 k)⟩,LeadsI.nil _⟩) ?_;rintro⟨q,O2,w2,G⟩ ⟨hq,a3,b8,hG,hL⟩;dsimp only at hq a3 b8 hG hL ⊢;have c':=hS.upd a3 zo;have c6:=(c'.st.at (b:Int)).sl;have f8:=c6.len_le;refine zh ?_;refine zC ?_ ?_
 ·intro a2;replace a2:q<(dh E (b:Nat)).length:=dT a2;have m1:w2.cell? (adr (BG E (b:Nat)) 1 q)=some (nI ((nth (dh E (b:Nat)) q:Nat):Int)):=by have:=c6.cell (i:=q) (j:=0) a2 rfl;rwa[ax]at this
  obtain⟨to,a7⟩:∃to,to=nth (dh E (b:Nat)) q:=⟨_,rfl⟩
  have c5:to<n:=by rw[a7];exact d4 _ (aJ a2)
  rw[<-a7]at m1;have e7:=(e5.upd a3 zd zo).sl;have e6:=((a8 m hm).1.upd a3 zd zo).sl;have f':=(((a8 m hm).2.2 to c5).upd a3 zd zo).sl;have f5:=(a8 m hm).2.1;have c1:w2.cell? (nA sb 2)=some fv:=c'.blk.cell 2 rfl;have m2:w2.cell? (adr fv 1 m)=some (nth ms m):=by have:=e7.cell (i:=m) (j:=0) zo rfl;rwa[ax]at this
  have m3:w2.cell? (adr (nth ms m) 1 to)=some (nth (nth b2 m) to):=by have:=e6.cell (i:=to) (j:=0) zo rfl;rwa[ax]at this
  refine zh ?_;refine zlp (fun y:Nat×(Nat->Nat)×World×List KVR=>[(0,nP sb),(2,nI (m:Nat)),(7,.map (some r)),(18,BG E (b:Nat)),(19,nI (dh E (b:Nat)).length),(20,nI q),(33,nth (nth b2 m) to),(34,nI (dI n (fun x=>nx x m) to).length),(35,nI y.1)]) (fun y=>y.2.2.1) (fun y=>y.1<=(dI n (fun x=>nx x m) to).length/\IK (fun q=>2000<=q) O w y.2.1 y.2.2.1/\JG B y.2.1 y.2.2.1/\MpR 3000 2000 y.2.1 y.2.2.1 r y.2.2.2/\LeadsI bl (((dh E (b:Nat)).take q).flatMap (dI n fun x=>nx x m)++(dI n (fun x=>nx x m) to).take y.1) y.2.2.2) (fun y=>(dI n (fun x=>nx x m) to).length-y.1) (0,O2,w2,G) (⟨I0 _,a3,b8,hG,by dsimp only;rw[KT,IN];exact hL⟩) ?_
  rintro⟨j,O3,w3,G3⟩ ⟨hj,a5,b7,b',a6⟩;dsimp only at hj a5 b7 b' a6 ⊢;have b5:=hS.upd a5 zo;have c7:=(((a8 m hm).2.2 to c5).upd a5 zd zo).sl;have f7:=c7.len_le;refine zh ?_;refine zC ?_ ?_
  ·intro a4;replace a4:j<(dI n (fun x=>nx x m) to).length:=dT a4;obtain⟨i,hi⟩:∃i,i=nth (dI n (fun x=>nx x m) to) j:=⟨_,rfl⟩
   have f9:i<n:=by rw[hi];exact(gz.1 (aJ a4)).1
   have k1:w3.cell? (adr (nth (nth b2 m) to) 1 j)=some (nI (i:Int)):=by have:=c7.cell (i:=j) (j:=0) a4 rfl;rw[ax]at this;rw[hi];exact this
   refine zh ?_;have a0:=b5.row.sl;have d1:w3.drew.cell? (nA sb 3)=some bv:=b5.blk.cell 3 rfl;have d2:w3.drew.cell? (adr bv 1 i)=some (nI ((nth bl i:Nat):Int)):=by have:=a0.cell (i:=i) (j:=0) zo rfl;rwa[ax]at this
   have a':IK (fun _=>False) O3 w3 O3 w3.drew:=aa (fun h=>h) O3 (IF w3).drew;have d3:=b'.upd a' zd zd (fun h=>h) (fun _ h=>h);refine aK (fun W=>W.cell? (nA sb 3)=some bv/\W.cell? (adr bv 1 i)=some (nI ((nth bl i:Nat):Int))) 21 rfl zk ?_;refine zin ⟨d1,d2⟩ fun zS=>?_
   refine zrm 0 rfl zS rfl ?_;refine zrm 1 rfl zS rfl ?_
   refine zr 2 rfl zS (fun _=>ak rfl) ?_;refine zrf 3 rfl zS rfl ?_
   refine zt 4 rfl zS (fun w1 a1=>RV.ld a1.1 rfl) ?_;refine zrm 5 rfl zS rfl ?_
   refine zr 6 rfl zS (fun _=>az a0.sh I6 (IS _) rfl rfl i rfl zo) ?_;refine zt 7 rfl zS (fun w1 a1=>RV.ld a1.2 rfl) ?_
   refine zrm 8 rfl zS rfl ?_;refine zrm 9 rfl zS rfl ?_
   refine zr 10 rfl zS (fun _=>ak rfl) ?_;refine zrf 11 rfl zS rfl ?_
   refine zt 12 rfl zS (fun w1 a1=>RV.ld a1.1 rfl) ?_;refine zrm 13 rfl zS rfl ?_
   refine zr 14 rfl zS (fun _=>az a0.sh I6 (IS _) rfl rfl i rfl zo) ?_;refine zt 15 rfl zS (fun w1 a1=>RV.ld a1.2 rfl) ?_
   refine zrm 17 rfl zS rfl ?_;refine gS 16 18 ke (enc:=aR) i rfl rfl zk zk zk zk (fun W hE=>Jo (d3.upd (aa (S:=fun _=>False) (fun h=>h) O3 hE) zd zd (fun h=>h) (fun _ h=>h)).map IP oZ (Jm _) ((nth bl i:Nat):Int) rfl rfl rfl (lu G3 _)) (fun W hE=>⟨hE.cell d1,hE.cell d2⟩) rfl rfl rfl zd rfl rfl rfl rfl rfl ?_
   intro f4 w4 b3 f3;have a9:IK (fun _=>False) O3 w3.drew O3 w4:=aa (fun h=>h) O3 f3;have b9:=d3.upd a9 zd zd (fun h=>h) (fun _ h=>h);have g1:(dh G3 ((nth bl i:Nat):Int)).length<=n:=by
    have d9:(((dh E (b:Nat)).take q).flatMap (dI n fun x=>nx x m)++(dI n (fun x=>nx x m) to)).Nodup:=by
     have:=qC (n:=n) (nx:=fun x=>nx x m) (d5.sublist (KH (q+1) _))
     rwa[aM a2,Js,<-a7,JC,KL,IN]at this
    rw[a6.row];refine fO ((d9.sublist (L7 (KH j _) _)).sublist Jt) fun x hx=>?_
    rcases IZ.1 (Jh.1 hx).1 with h1|h1
    ·exact(gy.1 h1).1
    exact(gz.1 (Ku h1)).1
   refine I9 19 zk rfl ?_;refine aB ke (b9.at ((nth bl i:Nat):Int)) ((b7.upd a').upd a9) b3 (by simp) rfl rfl (by simp) (by simp[I5]) (by rw[IJ];omega) (by rw[IJ];omega) zo rfl ?_
   intro v5 w5 O5 d8 b1 e8;have b4:=((b5.upd a' (fun _ _ _ h=>h)).upd a9 (fun _ _ _ h=>h)).upd b1 zo;have e2:w5.cell? (adr bv 1 i)=some (nI ((nth bl i:Nat):Int)):=by have:=b4.row.sl.cell (i:=i) (j:=0) zo rfl;rwa[ax]at this
   refine zh ?_;refine af (⟨b4.blk.cell 3 rfl,e2⟩) ?_
   refine I9 20 zk rfl ?_;refine J5 (b9.map.upd b1 zd zo) IP oZ zd ((nth bl i:Nat):Int) v5 rfl rfl rfl rfl rfl ?_
   intro w6 d' b0;have c9:=b4.upd b0 zo;have e3:w6.cell? (adr bv 1 i)=some (nI ((nth bl i:Nat):Int)):=by have:=c9.row.sl.cell (i:=i) (j:=0) zo rfl;rwa[ax]at this
   have e':=b9.put ((nth bl i:Nat):Int) zd zd b1 d8 d' b0;have d0:=a6.push i v5;rw[Jk,hi,<-aM a4,<-hi]at d0;refine zh ?_;refine af (⟨c9.blk.cell 3 rfl,e3⟩) ?_;refine Jd zk ?_;refine zh ?_;refine zxd (j+1,O5,w6,cp G3 ((nth bl i:Nat):Int) (v5,dh G3 ((nth bl i:Nat):Int)++[i])) (⟨a4,(((a5.trans (a'.mono (fun _ h=>h.elim) zd)).trans (a9.mono (fun _ h=>h.elim) zd)).trans (b1.mono (fun _ h=>zo) zd)).trans (b0.mono (fun _ h=>zo) zd),e8.upd b0,e',d0⟩)
  intro e1;obtain rfl:j=(dI n (fun x=>nx x m) to).length:=dF e1;rw[II]at a6;refine zh ?_;refine zxd (q+1,O3,w3,G3) (⟨a2,a5,b7,b',by dsimp only;rw[aM a2,Js,<-a7,JC,KL,IN];exact a6⟩)
 intro e4;obtain rfl:q=(dh E (b:Nat)).length:=dF e4;rw[II]at hL;refine zh ?_;refine ae rfl rfl (⟨r,O2,G,rfl,a3,b8,hG,hL⟩)
theorem CN(c k:Nat):((c:Int)==(k:Int))=(c==k):=by
 by_cases h:c=k
 ·subst h;simp
 rw[beq_eq_false_iff_ne.2 h,beq_eq_false_iff_ne.2 zo]
theorem sy(w:ln)(xb yb sb i c k len:Nat)(bv:ix)(a0:Shape bv len)(hi:i<len)(c1:w.cell? ⟨xb,0,none⟩=some (nP sb))(c2:w.cell? (nA sb 3)=some bv)(c3:w.cell? (adr bv 1 i)=some (nI (c:Nat)))(c4:w.cell? ⟨yb,0,none⟩=some (nI (k:Nat))):
  Kd J6 258 [nI (i:Nat),nP xb,nP yb] w fun v w'=>v=.bool (c==k)/\JX w w':=by
 refine IE func258 ntmps258 rfl rfl ?_;refine zh ?_
 refine Ls zk zk ?_;refine zh ?_
 refine zwH (az a0 I6 (IS _) rfl rfl i rfl zo) ?_;refine WS.nil ?_
 refine zh ?_;refine ae rfl rfl (⟨by rw[CN c k],(IF w).drew⟩)
def tdL(td:List ((Int×Int)×Bool))(b many:Nat)(lt:Bool):Nat->List ((Int×Int)×Bool)
 |0=>td
 |m+1=>cp (tdL td b many lt m) (((if(bm (tdL td b many lt m) ((b:Int),(m:Int))).getD false=true then(many:Int)else if lt=true then(b:Int)else(many:Int)),(m:Int))) true
theorem Bl(td:List ((Int×Int)×Bool))(k:Int×Int):Fe IX (.bool false) (bm td k)=.bool ((bm td k).getD false):=by
 cases bm td k<;>rfl
def cx(bl:List Nat)(k:Nat)(L:List Nat):List Nat:=L.foldl (fun bl x=>bl.set x k) bl
theorem ib(k:Nat):∀(L bl:List Nat),(cx bl k L).length=bl.length
 |[],_=>rfl
 |x::L,bl=>by rw[cx,KQ];exact(ib k L (bl.set x k)).trans I7
theorem tY{bl:List Nat}{k:Nat}{L:List Nat}{j:Nat}(h:j<L.length):cx bl k (L.take (j+1))=(cx bl k (L.take j)).set (nth L j) k:=by
 unfold cx;rw[aM h,JB];rfl
theorem kR(k:Nat):∀(L bl:List Nat) (x:Nat),x<bl.length->nth (cx bl k L) x=if x∈L then k else nth bl x
 |[],_,_,_=>by simp[cx]
 |y::L,bl,x,hx=>by
  rw[cx,KQ];have:=kR k L (bl.set y k) x (by rw[I7];exact hx);rw[cx]at this;rw[this]
  by_cases h1:x∈L
  ·rw[if_pos h1,if_pos (J0 _ h1)]
  rw[if_neg h1]
  by_cases h2:x=y
  ·subst h2;rw[if_pos (JS ..),aW hx,if_pos rfl]
  rw[if_neg (fun h=>(IQ.1 h).elim h2 h1)]
  by_cases hy:y<bl.length
  ·rw[aW hy,if_neg h2]
  rw[List.set_eq_of_length_le zo]
def tdP(td:List ((Int×Int)×Bool))(b m:Nat):Prop:=bm td ((b:Int),(m:Int))=some true
theorem qi{a b c d:Int}(h:b≠d):¬((a,b)=(c,d)):=fun e=>h (Kj e).2
theorem ze(td:List ((Int×Int)×Bool))(b many:Nat)(lt:Bool)(c j:Nat):∀m,m<=j->bm (tdL td b many lt m) ((c:Int),(j:Int))=bm td ((c:Int),(j:Int))
 |0,_=>rfl
 |m+1,h=>by
  unfold tdL;rw[aU,if_neg (qi zo)];exact ze td b many lt c j m zo
theorem BV{td:List ((Int×Int)×Bool)}{c j:Nat}(q:Int×Int)(h:tdP td c j):tdP (cp td q true) c j:=by
 unfold tdP;rw[aU]
 split
 ·rfl
 exact h
theorem vE{td:List ((Int×Int)×Bool)}{b many:Nat}{lt:Bool}{c j:Nat}(h:tdP td c j):∀m,tdP (tdL td b many lt m) c j
 |0=>h
 |m+1=>BV _ (vE h m)
theorem vD{td:List ((Int×Int)×Bool)}{b many:Nat}{lt:Bool}{j:Nat}(h:tdP td b j):∀m,j<m->tdP (tdL td b many lt m) many j
 |0,hj=>absurd hj (I4 j)
 |m+1,hj=>by
  unfold tdP tdL;rw[aU]
  by_cases e:j=m
  ·subst e;rw[ze td b many lt b j j (I8 _),show bm td ((b:Int),(j:Int))=some true from h];simp
  rw[if_neg (qi zo)];exact vD h m zo
theorem C0{td:List ((Int×Int)×Bool)}{b many:Nat}{lt:Bool}{j:Nat}:∀m,j<m->tdP (tdL td b many lt m) many j\/tdP (tdL td b many lt m) b j
 |0,hj=>absurd hj (I4 j)
 |m+1,hj=>by
  by_cases e:j=m
  ·subst e;unfold tdP;rw[show tdL td b many lt (j+1)=cp (tdL td b many lt j) (((if(bm (tdL td b many lt j) ((b:Int),(j:Int))).getD false=true then(many:Int)else if lt=true then(b:Int)else(many:Int)),(j:Int))) true from rfl];rw[aU,aU]
   split
   ·exact .inl (if_pos rfl)
   split
   ·exact .inr (if_pos rfl)
   exact .inl (if_pos rfl)
  have:=C0 (td:=td) (b:=b) (many:=many) (lt:=lt) (j:=j) m zo;unfold tdP at this ⊢;rw[show tdL td b many lt (m+1)=cp (tdL td b many lt m) (((if(bm (tdL td b many lt m) ((b:Int),(m:Int))).getD false=true then(many:Int)else if lt=true then(b:Int)else(many:Int)),(m:Int))) true from rfl];rw[aU,aU,if_neg (qi zo),if_neg (qi zo)];exact this
section
variable{κ ν:Type}[DecidableEq κ]
theorem qO(k:κ)(x:ν):∀(l:List (κ×ν)),(cp l k x).length<=l.length+1
 |[]=>I8 _
 |(a,y)::r=>by
  unfold cp
  split
  ·simp
  simp only[J4];exact Nat.succ_le_succ (qO k x r)
theorem qN(k:κ)(x:ν):∀(l:List (κ×ν)) (e:κ×ν),e∈cp l k x->e∈l\/e=(k,x)
 |[],e,h=>.inr (I1.1 h)
 |(a,y)::r,e,h=>by
  unfold cp at h
  split at h
  ·rcases IQ.1 h with h|h
   ·exact .inr h
   exact .inl (J0 _ h)
  rcases IQ.1 h with h|h
  ·exact .inl (by rw[h];exact JS ..)
  rcases qN k x r e h with h|h
  ·exact .inl (J0 _ h)
  exact .inr h
theorem xx(k:κ):∀(l:List (κ×ν)) (e:κ×ν),e∈oE l k->e∈l
 |[],e,h=>h
 |(a,y)::r,e,h=>by
  unfold oE at h
  split at h
  ·exact J0 _ h
  rcases IQ.1 h with h|h
  ·rw[h];exact JS ..
  exact J0 _ (xx k r e h)
theorem xy(k:κ)(x:ν):∀(l:List (κ×ν)),(k,x)∈l->(oE l k).length+1=l.length
 |(a,y)::r,h=>by
  unfold oE
  split
  ·rfl
  rename_i hn
  rcases IQ.1 h with h|h
  ·exact absurd (Kj h).1.symm hn
  simp only[J4];rw[xy k x r h]
theorem pJ{k k':κ}(hne:k'≠k):∀(l:List (κ×ν)),bm (oE l k) k'=bm l k'
 |[]=>rfl
 |(a,y)::r=>by
  unfold oE
  split
  ·rename_i e;subst e;rw[show bm ((a,y)::r) k'=if a=k' then some y else bm r k' from rfl,if_neg (fun e=>hne e.symm)]
  rw[show bm ((a,y)::r) k'=if a=k' then some y else bm r k' from rfl,show bm ((a,y)::oE r k) k'=if a=k' then some y else bm (oE r k) k' from rfl,pJ hne r]
end
theorem zf(td:List ((Int×Int)×Bool))(b many:Nat)(lt:Bool):∀m,(tdL td b many lt m).length<=td.length+m
 |0=>I8 _
 |m+1=>by
  have:=qO (((if(bm (tdL td b many lt m) ((b:Int),(m:Int))).getD false=true then(many:Int)else if lt=true then(b:Int)else(many:Int)),(m:Int))) true (tdL td b many lt m);have h2:=zf td b many lt m;unfold tdL;omega
def tdR(td:List ((Int×Int)×Bool))(many:Nat):Prop:=∀e∈td,∃c j:Nat,c<many/\j<37/\e.1=((c:Int),(j:Int))
theorem zb{td:List ((Int×Int)×Bool)}{b many:Nat}{lt:Bool}(h:tdR td many)(hb:b<many):∀m,m<=37->tdR (tdL td b many lt m) (many+1)
 |0,_=>fun e he=>by
  obtain⟨c,j,h1,h2,h3⟩:=h e he;exact⟨c,j,zo,h2,h3⟩
 |m+1,hm=>fun e he=>by
  unfold tdL at he
  rcases qN _ _ _ _ he with he|he
  ·exact zb h hb m zo e he
  rw[he]
  split
  ·exact⟨many,m,zo,zo,rfl⟩
  split
  ·exact⟨b,m,zo,zo,rfl⟩
  exact⟨many,m,zo,zo,rfl⟩
theorem tdR.del{td:List ((Int×Int)×Bool)}{many:Nat}(h:tdR td many)(k:Int×Int):tdR (oE td k) many:=fun e he=>h e (xx k td e he)
def KeysE(E:List KVR)(many:Nat):Prop:=E.map (·.1)=(Ji many).map fun(k:Nat)=>(k:Int)
theorem KeysE.len{E:List KVR}{many:Nat}(h:KeysE E many):E.length=many:=by
 have:=congrArg List.length h;simpa using this
theorem KeysE.mem{E:List KVR}{many:Nat}(h:KeysE E many){k:Nat}:(k:Int)∈E.map (·.1)↔k<many:=by
 rw[h,Kl]
 constructor
 ·rintro⟨a,ha,e⟩;have:=IV.1 ha;omega
 intro hk;exact⟨k,IV.2 hk,rfl⟩
theorem KeysE.idx{E:List KVR}{many:Nat}(h:KeysE E many){k:Nat}(hk:k<many):iz E (k:Int)=some k:=by
 rw[<-dQ,h];refine JU.2 ⟨by simpa using hk,by simp,fun j hj=>?_⟩;simp;omega
theorem KeysE.idxN{E:List KVR}{many:Nat}(h:KeysE E many){k:Nat}(hk:many<=k):iz E (k:Int)=none:=by
 rw[<-dQ,h];refine Kf.2 fun x hx=>?_
 obtain⟨a,ha,rfl⟩:=Kl.1 hx;have:=IV.1 ha;simp;omega
theorem KeysE.slot{E:List KVR}{many:Nat}(h:KeysE E many){k:Nat}(hk:k<many):kH E (k:Int)=k:=by
 unfold kH;rw[h.idx hk];rfl
theorem KeysE.add{E:List KVR}{many:Nat}(h:KeysE E many)(x:ix×List Nat):cp E (many:Int) x=E++[((many:Int),x)]:=by
 rw[dZ,h.idxN (I8 _)]
theorem KeysE.put{E:List KVR}{many:Nat}(h:KeysE E many){k:Nat}(hk:k<many)(x:ix×List Nat):cp E (k:Int) x=E.set k ((k:Int),x):=by
 rw[dZ,h.idx hk]
theorem KeysE.more{E:List KVR}{many:Nat}(h:KeysE E many)(x:ix×List Nat):KeysE (cp E (many:Int) x) (many+1):=by
 unfold KeysE;rw[ku,if_neg (fun hm=>by have:=h.mem.1 hm;omega),h,K7,Jq];rfl
theorem KeysE.same{E:List KVR}{many:Nat}(h:KeysE E many){k:Nat}(hk:k<many)(x:ix×List Nat):KeysE (cp E (k:Int) x) many:=by
 unfold KeysE;rw[ku,if_pos (h.mem.2 hk)];exact h
theorem vF(E:List KVR)(k:Int):kH E k<=E.length:=by
 unfold kH
 cases h:iz E k with
 |none=>exact I8 _
 |some j=>
  obtain⟨x,hx⟩:=gO h;exact Nat.le_of_lt (Jc.1 hx).1
theorem F9{n many b:Nat}{bl:List Nat}{E:List KVR}{L:List Nat}{ov v':ix}(hb:b<many)(a0:bl.length=n)(a1:∀x,x∈dh E (b:Int)↔x<n/\nth bl x=b):
  Cut n bl (cx bl many L) (fun k=>dh E (k:Int)) (fun k=>dh (cp (cp E (many:Int) (ov,L)) (b:Int) (v',gh (fun x=>nth (cx bl many L) x==many) (dh E (b:Int)))) (k:Int)) many b L:=by
 have a2:=ib many L bl;refine⟨by rw[a2,a0],fun x hx=>kR many L bl x zo,?_,?_,fun c h1 h2=>?_⟩
 ·rw[dL,if_neg zo,dL,if_pos rfl]
 ·rw[dL,if_pos rfl];unfold gh;refine KJ fun x hx=>?_
  obtain⟨h1,h2⟩:=(a1 x).1 hx;show(!(nth (cx bl many L) x==many)) = !(L.contains x);rw[kR many L bl x zo]
  by_cases hL:x∈L
  ·rw[if_pos hL];simp[hL]
  rw[if_neg hL,h2];simp[hL];omega
 rw[dL,if_neg zo,dL,if_neg zo]
end Go.Proofs.YteolbhblkgjbhaaGreatDoor
section
namespace Go.VL
open Go.Proofs
def reF(f:Nat->Nat)(O:Nat->Nat):Nat->Nat:=fun b=>f (O b)
theorem Upd.re{S:Nat->Prop}{O O':Nat->Nat}{w w':ln}(h:IK S O w O' w')(f:Nat->Nat)(f0:f 0=0)(hf:∀b,O b≠0->f (O b)=O b):IK S O w (reF f O') w':=
 ⟨h.os,h.tape,h.output,h.size,h.blk,fun b hb=>by unfold reF;rw[h.tag b hb];exact hf b hb,fun b hb=>h.new b fun e=>hb (by unfold reF;rw[e];exact f0),h.z⟩
theorem Rng.re{B:Nat}{O:Nat->Nat}{w:ln}(h:JG B O w)(f:Nat->Nat)(f0:f 0=0):JG B (reF f O) w:=⟨h.le,fun b hb=>h.rng b fun e=>hb (by unfold reF;rw[e];exact f0)⟩
theorem RowT.re{α:Type}{enc:α->List ix}{E:Jr}{sz:Nat}{O:Nat->Nat}{w:ln}{i:Nat}{v:ix}{l:List α}(h:J1 enc E sz O w i v l)(f:Nat->Nat){j:Nat}(hj:f i=j):J1 enc E sz (reF f O) w j v l:=
 ⟨⟨h.1.row,fun g hg=>by unfold reF;rw[h.1.tag g hg];exact hj⟩,h.2⟩
theorem BlkO.re{O:Nat->Nat}{w:ln}{i b:Nat}{cs:Array ix}{E:Jr}(h:Ju O w i b cs E)(f:Nat->Nat){j:Nat}(hj:f i=j):Ju (reF f O) w j b cs E:=⟨h.blk,by unfold reF;rw[h.tag];exact hj⟩
theorem MapO.re{κ ν:Type}{kv:κ->ix}{vv:ν->ix}{O:Nat->Nat}{w:ln}{i r:Nat}{l:List (κ×ν)}(h:Jg kv vv O w i r l)(f:Nat->Nat){j:Nat}(hj:f i=j):Jg kv vv (reF f O) w j r l:=⟨h.blk,by unfold reF;rw[h.tag];exact hj,h.born⟩
theorem RangeO.re{κ ν:Type}{kv:κ->ix}{vv:ν->ix}{O:Nat->Nat}{w:ln}{i j r q:Nat}{left:List (κ×ν)}{a0:Option (κ×ν)}(h:RangeO kv vv O w i j r q left a0)(f:Nat->Nat){i' j':Nat}(hi:f i=i')(hj:f j=j'):RangeO kv vv (reF f O) w i' j' r q left a0:=
 ⟨h.ex,by unfold reF;rw[h.tag];exact hi,by unfold reF;rw[h.tagq];exact hj⟩
theorem MapO.lowT{κ ν:Type}{kv:κ->ix}{vv:ν->ix}{O:Nat->Nat}{w:ln}{i r:Nat}{l:List (κ×ν)}(h:Jg kv vv O w i r l){T:Nat}(hi:i<T):Jg kv vv (Go.VL.lowT O T) w i r l:=⟨h.blk,by unfold Go.VL.lowT;rw[h.tag,if_neg zo],h.born⟩
def DP(a b:Nat):Nat->Nat:=fun t=>if t=a then b else t
theorem Ad(a b:Nat):DP a b a=b:=if_pos rfl
theorem qm{a b t:Nat}(h:t≠a):DP a b t=t:=if_neg h
end Go.VL
namespace Go.Proofs.YteolbhblkgjbhaaGreatDoor
open Go.VL Go.Proofs
set_option maxRecDepth 10000
theorem FromO.re{O:Nat->Nat}{w:ln}{i:Nat}{fv:ix}{n:Nat}{nx:Nat->Nat->Nat}(h:FromO O w i fv n nx)(f:Nat->Nat){j:Nat}(hj:f i=j):FromO (reF f O) w j fv n nx:=by
 obtain⟨ms,a0,h1,h2,h3⟩:=h.ex;exact⟨ms,a0,h1.re f hj,h2,fun m hm=>⟨(h3 m hm).1.re f hj,(h3 m hm).2.1,fun t ht=>((h3 m hm).2.2 t ht).re f hj⟩⟩
theorem SpO.cut{S:Nat->Prop}{O O':Nat->Nat}{w w':ln}{sb:Nat}{nv tv fv bv:ix}{sr tr n:Nat}{nx:Nat->Nat->Nat}{bl a4:List Nat}{E:List KVR}{td a0:List ((Int×Int)×Bool)}{many b tg:Nat}{ov v':ix}{L L':List Nat} 
  (h:SpO O w sb nv tv fv bv sr tr n nx bl E td many) (hk:KeysE E many) (hb:b<many) (a7:10+many<=tg) (a5:J1 aR 3 1 O w tg ov L)
  (u:IK S O w O' w') (hS:∀q,S q->1<=q/\q<=4\/q=10+b)
  (h1:Ju O' w' 1 sb #[nv,tv,fv,bv,.map (some sr),.map (some tr),nI ((many+1:Nat):Int)] 327) (h2:J1 aR 3 1 O' w' 2 bv a4)
  (h3:Jg (fun k:Int=>nI k) (fun v:ix=>v) O' w' 3 sr (cp (cp (E.map sH) (many:Nat) ov) (b:Nat) v')) (h4:J1 aR 3 1 O' w' (10+b) v' L') (h5:Jg dP IX O' w' 4 tr a0) :
  SpO (reF (DP tg (10+many)) O') w' sb nv tv fv bv sr tr n nx a4 (cp (cp E (many:Int) (ov,L)) (b:Int) (v',L')) a0 (many+1):=by
 have n1:∀ {t:Nat},t<10+many->DP tg (10+many) t=t:=fun h=>qm zo
 have a6:=hk.len;have a2:=hk.more (ov,L);have a1:=a2.len;refine⟨h1.re _ (n1 zo),h2.re _ (n1 zo),⟨?_,fun k a3=>?_⟩,h5.re _ (n1 zo),(h.frm.upd u zd (fun hs=>by rcases hS _ hs with h|h<;>omega)).re _ (n1 zo)⟩
 ·rw[uY,uY];exact h3.re _ (n1 zo)
 rw[a2.put zo]at a3 ⊢;rw[I7]at a3;rw[aW zo]
 by_cases e1:k=b
 ·rw[if_pos e1];subst e1;exact h4.re _ (n1 zo)
 rw[if_neg e1,hk.add,aA]
 by_cases e2:k<E.length
 ·rw[if_pos e2];exact((h.st.row k e2).upd u zo (fun hs=>by rcases hS _ hs with h|h<;>omega)).re _ (n1 zo)
 rw[if_neg e2,show k-E.length=0 from by omega,ao];obtain rfl:k=many:=zo;exact(a5.upd u zo (fun hs=>by rcases hS _ hs with h|h<;>omega)).re _ (Ad _ _)
end Go.Proofs.YteolbhblkgjbhaaGreatDoor
end
namespace Go.Proofs.YteolbhblkgjbhaaGreatDoor
theorem uA(B:Nat)(O:Nat → Nat)(w:ln)(sb:Nat)(nv tv fv bv:ix)(sr tr n:Nat)(nx:Nat → Nat → Nat)(bl:List Nat)(E:List KVR)(td:List ((Int×Int)×Bool))(many b tg:Nat)(ov:ix)(L:List Nat)(hR:JG B O w)(hS:SpO O w sb nv tv fv bv sr tr n nx bl E td many)
  (hov:J1 aR 3 1 O w tg ov L) (hk:KeysE E many) (htg:10 + many ≤ tg) (hL:∀x ∈ L, x < bl.length) (hmany:many ≤ 1000) (hbm:b < many) (hbs:∀x ∈ dh E (b:Nat), x < bl.length) :
  Kd J6 238 [nP sb, nI (b:Nat), ov] w fun _ w' =>
   ∃v' O', IK (fun q => 1 ≤ q ∧ q ≤ 4 ∨ q = 10 + b) O w O' w' ∧ JG B O' w' ∧ Ju O' w' 1 sb #[nv, tv, fv, bv, .map (some sr), .map (some tr), nI ((many + 1:Nat):Int)] 327 ∧
    J1 aR 3 1 O' w' 2 bv (cx bl many L) ∧ Jg (fun k:Int => nI k) (fun v:ix => v) O' w' 3 sr (cp (cp (E.map sH) (many:Nat) ov) (b:Nat) v') ∧
    J1 aR 3 1 O' w' (10 + b) v' (gh (fun x => nth (cx bl many L) x == many) (dh E (b:Nat))) ∧ Jg dP IX O' w' 4 tr (tdL td b many (decide ((gh (fun x => nth (cx bl many L) x == many) (dh E (b:Nat))).length < L.length)) 37) := by
 have hElen := hk.len
 obtain⟨T0, hT00, hT0'⟩ := hR.bound
 obtain⟨T, hTd⟩:∃T, T = T0 + 10 + tg := ⟨_, rfl⟩
 have hT:∀b, O b < T := fun b => by have := hT0' b; omega
 have hSl := hk.slot hbm
 have hrb0 := hS.st.at (b:Int)
 rw[hSl]at hrb0
 refine IE func238 ntmps238 rfl rfl ?_
 refine IG ?_
 refine I2 ?_
 refine aH hR T (by omega) rfl rfl ?_
 intro xb w1 O1 hx1 hU1 hR1 hE1
 have hS1 := hS.upd hU1 (by omega)
 have x1:w1.cell? ⟨xb, 0, none⟩ = some (nP sb) := hx1.cell 0 rfl
 have c1:w1.cell? (nA sb 6) = some (nI (many:Nat)) := hS1.blk.cell 6 rfl
 refine I3 ?_
 refine aq ?_
 refine IG ?_
 refine I2 ?_
 refine zv (RV.ld x1 rfl) ?_
 refine zv (ak rfl) ?_
 refine zv (RV.fa rfl) ?_
 refine zv (RV.ld c1 rfl) ?_
 refine au hR1 (T + 1) (by omega) (JQ _) rfl ?_
 intro yb w2 O2 hy2 hU2 hR2 hE2
 have x2:w2.cell? ⟨xb, 0, none⟩ = some (nP sb) := (hx1.upd hU2 (by omega) (by omega)).cell 0 rfl
 have hS2 := hS1.upd hU2 (by omega)
 refine aj (j := 0) hy2 rfl (IS _) rfl rfl rfl rfl ?_
 have hU3:IK (fun j => j = T + 1) O2 w2 O2 (w2.setCell ⟨yb, 0, none⟩ (nI (many:Nat))) := Jn (by omega) hy2.tag rfl
 have hy3:Ju O2 (w2.setCell ⟨yb, 0, none⟩ (nI (many:Nat))) (T + 1) yb #[nI (many:Nat)] 3 := hy2.set 0 _
 have hx3 := (hx1.upd hU2 (by omega) (by omega)).upd hU3 (by omega) (by omega)
 have hR3 := hR2.upd hU3
 have hS3 := hS2.upd hU3 (by omega)
 have hov3 := ((hov.upd hU1 (by omega) (by omega)).upd hU2 (by omega) (by omega)).upd hU3 (by omega) (by omega)
 have hU03:IK (fun q => (1 ≤ q ∧ q ≤ 4 ∨ q = 10 + b) ∨ T ≤ q) O w O2 (w2.setCell ⟨yb, 0, none⟩ (nI (many:Nat))) := ((hU1.mono (fun _ h => .inr (by omega)) (by omega)).trans (hU2.mono (fun _ h => .inr (by omega)) (by omega))).trans (hU3.mono (fun _ h => .inr (by omega)) (by omega))
 generalize w2.setCell ⟨yb, 0, none⟩ (nI (many:Nat)) = w3 at *
 have x3:w3.cell? ⟨xb, 0, none⟩ = some (nP sb) := hx3.cell 0 rfl
 have c3:w3.cell? (nA sb 6) = some (nI (many:Nat)) := hS3.blk.cell 6 rfl
 refine I3 ?_
 refine aq ?_
 refine IG ?_
 refine I2 ?_
 refine zv (RV.ld x3 rfl) ?_
 refine zv (ak rfl) ?_
 refine zv (RV.fa rfl) ?_
 refine zv (RV.ld c3 rfl) ?_
 refine zv (Kr rfl rfl (K1 (by omega))) ?_
 refine zv (ak rfl) ?_
 refine zv (RV.fa rfl) ?_
 refine aj (j := 6) hS3.blk rfl (IS _) rfl rfl rfl rfl ?_
 have hU4:IK (fun j => j = 1) O2 w3 O2 (w3.setCell ⟨sb, 6, none⟩ (nI ((many:Int) + 1))) := Jn (by decide) hS3.blk.tag rfl
 have hb4:Ju O2 (w3.setCell ⟨sb, 6, none⟩ (nI ((many:Int) + 1))) 1 sb #[nv, tv, fv, bv, .map (some sr), .map (some tr), nI ((many:Int) + 1)] 327 := hS3.blk.set 6 _
 have hx4 := hx3.upd hU4 (by omega) (by omega)
 have hy4 := hy3.upd hU4 (by omega) (by omega)
 have hR4 := hR3.upd hU4
 have hrow4 := hS3.row.upd hU4 (by decide) (by omega)
 have hst4 := hS3.st.map.upd hU4 (by decide) (by omega)
 have htd4 := hS3.todo.upd hU4 (by decide) (by omega)
 have hov4 := hov3.upd hU4 (by omega) (by omega)
 have hrb4 := (((hrb0.upd hU1 (by omega) (by omega)).upd hU2 (by omega) (by omega)).upd hU3 (by omega) (by omega)).upd hU4 (by omega) (by omega)
 have hU04 := hU03.trans (hU4.mono (fun _ h => .inl (.inl (by omega))) (by omega))
 generalize w3.setCell ⟨sb, 6, none⟩ (nI ((many:Int) + 1)) = w4 at *
 have hLl := hov4.sl.len_le
 have hsh := hov4.sl
 refine I3 ?_
 refine aq ?_
 refine IG ?_
 refine IG ?_
 refine I2 ?_
 refine zv (IH rfl) ?_
 refine zv (bj hsh.sh I6 rfl) ?_
 refine zv (IH rfl) ?_
 refine I3 ?_
 refine aq ?_
 refine JF ?_
 refine zlp (fun z:Nat×ln => [(1, nI (b:Nat)), (2, ov), (3, nP xb), (6, nP yb), (22, ov), (23, nI L.length), (24, nI z.1)]) (fun z => z.2) (fun z => z.1 ≤ L.length ∧ IK (fun q => q = 2) O2 w4 O2 z.2 ∧ J1 aR 3 1 O2 z.2 2 bv (cx bl many (L.take z.1))) (fun z => L.length - z.1) (0, w4) (⟨I0 _, Jp (by decide) _ _, hrow4⟩) ?_
 rintro⟨j, w5⟩ ⟨hj, hU5, hrow5⟩
 dsimp only at hj hU5 hrow5 ⊢
 have hov5 := hov4.upd hU5 (by omega) (by omega)
 have hx5 := hx4.upd hU5 (by omega) (by omega)
 have hy5 := hy4.upd hU5 (by omega) (by omega)
 have hb5 := hb4.upd hU5 (by omega) (by omega)
 have x5:w5.cell? ⟨xb, 0, none⟩ = some (nP sb) := hx5.cell 0 rfl
 have y5:w5.cell? ⟨yb, 0, none⟩ = some (nI (many:Nat)) := hy5.cell 0 rfl
 refine IG ?_
 refine I2 ?_
 refine zv (KK rfl rfl) ?_
 refine I3 ?_
 refine aq ?_
 refine IG ?_
 refine zC ?_ ?_
 ·intro hlt
  replace hlt:j < L.length := by have := of_decide_eq_true hlt; omega
  have hs5 := hov5.sl
  have m1:w5.cell? (adr ov 1 j) = some (nI ((nth L j:Nat):Int)) := by have := hs5.cell (i := j) (j := 0) hlt rfl; rwa[ax]at this
  have c5:w5.cell? (nA sb 3) = some bv := hb5.cell 3 rfl
  obtain⟨i, hi⟩:∃i, i = nth L j := ⟨_, rfl⟩
  have hil:i < (cx bl many (L.take j)).length := by rw[ib, hi]; exact hL _ (aJ hlt)
  rw[← hi]at m1
  refine JL ?_
  refine aq ?_
  refine IG ?_
  refine JF ?_
  refine IG ?_
  refine I2 ?_
  refine zv (Jy (by first | exact hs5) I6 (IS _) rfl rfl _ rfl (by omega)) ?_
  refine zv (RV.ld m1 rfl) ?_
  refine zv (J9 rfl) ?_
  refine I3 ?_
  refine aq ?_
  refine L5 7 rfl rfl (by kernel_rfl) (by kernel_rfl) ?_
  refine zw (RV.ld x5 rfl) ?_
  refine zw (ak rfl) ?_
  refine zw (RV.fa rfl) ?_
  refine zw (RV.ld c5 rfl) ?_
  refine zw (IH rfl) ?_
  refine zw (RV.ld y5 rfl) ?_
  refine zw (az hrow5.sl.sh I6 (IS _) rfl rfl i rfl hil) ?_
  refine Lr ?_
  refine JK hrow5.drew i hil many (IS _) rfl (by decide) rfl rfl rfl rfl ?_
  intro w6 hrow6 hU6
  refine I3 ?_
  refine bQ ?_
  refine aq ?_
  refine I2 ?_
  refine zv (Kr rfl rfl (K1 (by omega))) ?_
  refine zv (IH rfl) ?_
  refine I3 ?_
  refine zxd (j + 1, w6) (⟨hlt, hU5.drew.trans hU6, by dsimp only; rw[tY hlt, ← hi]; exact hrow6⟩)
 ·intro hge
  obtain rfl:j = L.length := by have := of_decide_eq_false hge; omega
  rw[II]at hrow5
  have c5:w5.cell? (nA sb 4) = some (.map (some sr)) := hb5.cell 4 rfl
  have hst5 := hst4.upd hU5 (by decide) (by decide)
  refine KP ?_
  refine bP ?_
  refine bP ?_
  refine dK ?_
  refine aq ?_
  refine IG ?_
  refine L5 6 rfl rfl (by kernel_rfl) (by kernel_rfl) ?_
  refine zw (RV.ld x5 rfl) ?_
  refine zw (ak rfl) ?_
  refine zw (RV.fa rfl) ?_
  refine zw (RV.ld c5 rfl) ?_
  refine zw (RV.ld y5 rfl) ?_
  refine zw (IH rfl) ?_
  refine Lr ?_
  refine J5 (O := O2) (i := 3) (⟨hst5.blk, hst5.tag, hst5.born⟩:Jg (fun k:Int => nI k) (fun v:ix => v) O2 w5.drew 3 sr (E.map sH)) IP oZ (by decide) (many:Int) ov rfl rfl rfl rfl rfl ?_
  intro w6 hst6 hU6'
  have hU6:IK (fun q => q = 3) O2 w5 O2 w6 := hU6'.ofDrew
  have hU46:IK (fun q => q = 2 ∨ q = 3) O2 w4 O2 w6 := (hU5.mono (fun _ h => .inl h) (by decide)).trans (hU6.mono (fun _ h => .inr h) (by decide))
  have hov6 := hov4.upd hU46 (by omega) (by omega)
  have hx6 := hx4.upd hU46 (by omega) (by omega)
  have hy6 := hy4.upd hU46 (by omega) (by omega)
  have hb6 := hb4.upd hU46 (by omega) (by omega)
  have hrow6 := hrow5.upd hU6 (by decide) (by decide)
  have hrb6 := hrb4.upd hU46 (by omega) (by omega)
  have htd6 := htd4.upd hU46 (by decide) (by decide)
  have hR6 := hR4.upd hU46
  have x6:w6.cell? ⟨xb, 0, none⟩ = some (nP sb) := hx6.cell 0 rfl
  have y6:w6.cell? ⟨yb, 0, none⟩ = some (nI (many:Nat)) := hy6.cell 0 rfl
  have c6:w6.cell? (nA sb 4) = some (.map (some sr)) := hb6.cell 4 rfl
  have hbl' := ib many L bl
  obtain⟨bl', hbe⟩:∃bl', bl' = cx bl many L := ⟨_, rfl⟩
  rw[← hbe]at hrow6 hbl' ⊢
  refine I3 ?_
  refine aq ?_
  refine IG ?_
  refine aK (fun W => W.cell? ⟨xb, 0, none⟩ = some (nP sb) ∧ W.cell? (nA sb 4) = some (.map (some sr))) 14 rfl (by kernel_rfl) ?_
  refine zin ⟨x6, c6⟩ fun zS => ?_
  refine zt 0 rfl zS (fun w1 hw1 => RV.ld hw1.1 rfl) ?_
  refine zr 1 rfl zS (fun _ => ak rfl) ?_
  refine zrf 2 rfl zS rfl ?_
  refine zt 3 rfl zS (fun w1 hw1 => RV.ld hw1.2 rfl) ?_
  refine zrm 4 rfl zS rfl ?_
  refine zt 5 rfl zS (fun w1 hw1 => RV.ld hw1.1 rfl) ?_
  refine zr 6 rfl zS (fun _ => ak rfl) ?_
  refine zrf 7 rfl zS rfl ?_
  refine zt 8 rfl zS (fun w1 hw1 => RV.ld hw1.2 rfl) ?_
  refine zrm 9 rfl zS rfl ?_
  refine zr 11 rfl zS (fun _ => du rfl rfl) ?_
  refine I9 10 (by kernel_rfl) rfl ?_
  refine zv (Jo (O := O2) (i := 3) (⟨hst6.blk, hst6.tag, hst6.born⟩:Jg (fun k:Int => nI k) (fun v:ix => v) O2 w6.drew 3 sr (cp (E.map sH) (many:Int) ov)) IP oZ (Jm _) (b:Int) rfl rfl rfl ((congrArg (Fe (fun v:ix => v) (nS)) ((aU (E.map sH) (many:Int) (b:Int) ov).trans (if_neg (by omega)))).trans (lu E _))) ?_
  refine I3 ?_
  refine af (⟨x6, c6⟩) ?_
  refine I9 12 (by kernel_rfl) rfl ?_
  refine zc call257 (oz call258 #[nP xb, nP yb] B O2 w6.drew (10 + b) (BG E (b:Nat)) (dh E (b:Nat)) (fun x => nth bl' x == many) (by omega) hR6.drew hrb6.drew (fun x hx O' W u => sy W xb yb sb x (nth bl' x) many bl'.length bv hrow6.sl.sh (by rw[hbl']; exact hbs x hx) ((hx6.drew.upd u (by omega) (by omega)).cell 0 rfl) ((hb6.drew.upd u (by omega) (by omega)).cell 3 rfl) (by have := (hrow6.drew.upd u (by decide) (by omega)).sl.cell (i := x) (j := 0) (by rw[hbl']; exact hbs x hx) rfl; rwa[ax]at this) ((hy6.drew.upd u (by omega) (by omega)).cell 0 rfl))) ?_
  rintro v7 w7 ⟨hkeep7, hU7'⟩
  have hU7:IK (fun q => q = 10 + b) O2 w6 O2 w7 := hU7'.ofDrew
  have hst7 := hst6.upd hU7 (by decide) (by omega)
  have x7:w7.cell? ⟨xb, 0, none⟩ = some (nP sb) := (hx6.upd hU7 (by omega) (by omega)).cell 0 rfl
  have c7:w7.cell? (nA sb 4) = some (.map (some sr)) := (hb6.upd hU7 (by omega) (by omega)).cell 4 rfl
  refine I3 ?_
  refine af (⟨x7, c7⟩) ?_
  refine I9 13 (by kernel_rfl) rfl ?_
  refine J5 hst7 IP oZ (by decide) (b:Int) v7 rfl rfl rfl rfl rfl ?_
  intro w8 hst8 hU8
  have hU68:IK (fun q => q = 10 + b ∨ q = 3) O2 w6 O2 w8 := (hU7.mono (fun _ h => .inl h) (by omega)).trans (hU8.mono (fun _ h => .inr h) (by omega))
  have hov8 := hov6.upd hU68 (by omega) (by omega)
  have hx8 := hx6.upd hU68 (by omega) (by omega)
  have hy8 := hy6.upd hU68 (by omega) (by omega)
  have hb8 := hb6.upd hU68 (by omega) (by omega)
  have hrow8 := hrow6.upd hU68 (by decide) (by omega)
  have htd8 := htd6.upd hU68 (by decide) (by omega)
  have hkeep8 := hkeep7.upd hU8 (by omega) (by omega)
  refine I3 ?_
  refine af (⟨hx8.cell 0 rfl, hb8.cell 4 rfl⟩) ?_
  have hU08 := (hU04.trans (hU46.mono (S' := fun q => (1 ≤ q ∧ q ≤ 4 ∨ q = 10 + b) ∨ T ≤ q) (fun _ h => .inl (by omega)) (by omega))).trans (hU68.mono (fun _ h => .inl (by omega)) (by omega))
  obtain⟨lt, hlt⟩:∃lt, lt = decide ((gh (fun x => nth bl' x == many) (dh E (b:Nat))).length < L.length) := ⟨_, rfl⟩
  rw[← hlt]
  obtain⟨kp, hkp⟩:∃kp, kp = gh (fun x => nth bl' x == many) (dh E (b:Nat)) := ⟨_, rfl⟩
  rw[← hkp]at hkeep8 hlt ⊢
  refine Jd (by kernel_rfl) ?_
  refine aq ?_
  refine IG ?_
  refine I2 ?_
  refine zv (IH rfl) ?_
  refine I3 ?_
  refine aq ?_
  refine JF ?_
  refine zlp (fun z:Nat×ln => [(1, nI (b:Nat)), (2, ov), (3, nP xb), (6, nP yb), (55, nI z.1)]) (fun z => z.2) (fun z => z.1 ≤ 37 ∧ IK (fun q => q = 4) O2 w8 O2 z.2 ∧ Jg dP IX O2 z.2 4 tr (tdL td b many lt z.1)) (fun z => 37 - z.1) (0, w8) (⟨I0 _, Jp (by decide) _ _, htd8⟩) ?_
  rintro⟨m, w9⟩ ⟨hm, hU9, htd9⟩
  dsimp only at hm hU9 htd9 ⊢
  have hov9 := (hov8.upd hU9 (by omega) (by omega)).sl
  have hx9 := hx8.upd hU9 (by omega) (by omega)
  have hy9 := hy8.upd hU9 (by omega) (by omega)
  have hb9 := hb8.upd hU9 (by omega) (by omega)
  have hst9 := hst8.upd hU9 (by decide) (by omega)
  have hkeep9 := (hkeep8.upd hU9 (by omega) (by omega)).sl
  refine IG ?_
  refine I2 ?_
  refine zv (KK rfl rfl) ?_
  refine I3 ?_
  refine aq ?_
  refine IG ?_
  refine zC ?_ ?_
  ·intro hlm
   replace hlm:m < 37 := by have := of_decide_eq_true hlm; omega
   have x9:w9.cell? ⟨xb, 0, none⟩ = some (nP sb) := hx9.cell 0 rfl
   have y9:w9.cell? ⟨yb, 0, none⟩ = some (nI (many:Nat)) := hy9.cell 0 rfl
   have c9:w9.cell? (nA sb 4) = some (.map (some sr)) := hb9.cell 4 rfl
   have d9:w9.cell? (nA sb 5) = some (.map (some tr)) := hb9.cell 5 rfl
   refine JL ?_
   refine aq ?_
   refine IG ?_
   refine JF ?_
   refine IG ?_
   refine I2 ?_
   refine zv (IH rfl) ?_
   refine zv (J9 rfl) ?_
   refine I3 ?_
   refine aq ?_
   refine IG ?_
   refine I2 ?_
   refine zv (RV.ld y9 rfl) ?_
   refine zv (J9 rfl) ?_
   refine I3 ?_
   refine aq ?_
   refine IG ?_
   refine IG ?_
   refine I2 ?_
   refine zv (RV.ld x9 rfl) ?_
   refine zv (ak rfl) ?_
   refine zv (RV.fa rfl) ?_
   refine zv (RV.ld c9 rfl) ?_
   refine zv (IH rfl) ?_
   refine zv (Jo hst9 IP oZ (Jm _) (b:Int) rfl rfl rfl (congrArg (Fe (fun v:ix => v) (nS)) ((aU _ (b:Int) (b:Int) v7).trans (if_pos rfl)))) ?_
   refine zv (bj hkeep9.sh I6 rfl) ?_
   refine zv (IH rfl) ?_
   refine zv (bj hov9.sh I6 rfl) ?_
   refine zv (KK rfl rfl) ?_
   refine I3 ?_
   refine aq ?_
   refine lP (fun z:Int => [(1, nI (b:Nat)), (2, ov), (3, nP xb), (6, nP yb), (55, nI (m:Nat)), (9, nI (m:Nat)), (10, nI z)]) (fun z:Int => w9) (fun z:Int => z = if lt = true then(b:Int)else(many:Int)) ?_ ?_
   ·intro hN
    refine zC ?_ ?_
    ·intro h1
     refine I2 ?_
     refine zv (IH rfl) ?_
     refine zv (J9 rfl) ?_
     refine I3 ?_
     exact gV (hN ((b:Int)) (by rw[if_pos (by rw[hlt]; have := of_decide_eq_true h1; exact decide_eq_true (by omega))])) ⟨rfl, rfl, rfl, rfl, rfl, rfl, rfl, trivial⟩ rfl
    ·intro h1
     refine JL ?_
     exact gV (hN ((many:Int)) (by rw[if_neg (by rw[hlt]; have := of_decide_eq_false h1; simp; omega)])) ⟨rfl, rfl, rfl, rfl, rfl, rfl, rfl, trivial⟩ rfl
   rintro z hz
   refine aq ?_
   refine IG ?_
   refine IG ?_
   refine I2 ?_
   refine zv (RV.ld x9 rfl) ?_
   refine zv (ak rfl) ?_
   refine zv (RV.fa rfl) ?_
   refine zv (RV.ld d9 rfl) ?_
   refine zv (IH rfl) ?_
   refine zv (IH rfl) ?_
   refine zv (eG JH (IS _) (Jz _) rfl rfl) ?_
   refine zv (Jo htd9 JI Gq (zeroValue4 _) ((b:Int), (m:Int)) rfl rfl rfl (Bl _ _)) ?_
   refine I3 ?_
   refine aq ?_
   refine lP (fun y:Int => [(1, nI (b:Nat)), (2, ov), (3, nP xb), (6, nP yb), (55, nI (m:Nat)), (9, nI (m:Nat)), (10, nI y)]) (fun y:Int => w9) (fun y:Int => y = if(bm (tdL td b many lt m) ((b:Int), (m:Int))).getD false = true then(many:Int)else z) ?_ ?_
   ·intro hN
    refine zC ?_ ?_
    ·intro h1
     refine I2 ?_
     refine zv (RV.ld y9 rfl) ?_
     refine zv (J9 rfl) ?_
     refine I3 ?_
     exact gV (hN ((many:Int)) (by rw[if_pos h1])) ⟨rfl, rfl, rfl, rfl, rfl, rfl, rfl, trivial⟩ rfl
    ·intro h1
     refine JL ?_
     exact gV (hN (z) (by rw[if_neg (by rw[h1]; decide)])) ⟨rfl, rfl, rfl, rfl, rfl, rfl, rfl, trivial⟩ rfl
   rintro y hy
   refine aq ?_
   refine I2 ?_
   refine zv (RV.ld x9 rfl) ?_
   refine zv (ak rfl) ?_
   refine zv (RV.fa rfl) ?_
   refine zv (RV.ld d9 rfl) ?_
   refine zv (IH rfl) ?_
   refine zv (IH rfl) ?_
   refine zv (eG JH (IS _) (Jz _) rfl rfl) ?_
   refine J5 htd9 JI Gq (by decide) (y, (m:Int)) true rfl rfl rfl rfl rfl ?_
   intro w10 htd10 hU10
   refine I3 ?_
   refine bQ ?_
   refine aq ?_
   refine I2 ?_
   refine zv (Kr rfl rfl (K1 (by omega))) ?_
   refine zv (IH rfl) ?_
   refine I3 ?_
   refine zxd (m + 1, w10) (⟨hlm, hU9.trans hU10, by dsimp only; unfold tdL; rw[← hz, ← hy]; exact htd10⟩)
  ·intro hgm
   obtain rfl:m = 37 := by have := of_decide_eq_false hgm; omega
   refine KP ?_
   refine bP ?_
   refine bP ?_
   refine dK ?_
   have hR9 := ((hR6.upd hU68).upd hU9).lowT T
   refine aD rfl (⟨v7, lowT O2 T, (hU08.trans (hU9.mono (fun _ h => .inl (by omega)) (by omega))).lowT hT (fun b h => by have := hT b; omega) (by omega), hR9, hb9.lowT (by omega), (hrow8.upd hU9 (by decide) (by decide)).lowT (by omega), hst9.lowT (by omega), (hkeep8.upd hU9 (by omega) (by omega)).lowT (by omega), htd9.lowT (by omega)⟩)
structure FI(tl:Nat->Nat)(n i:Nat)(D:List (Int×Int))(bl:List Nat)(E:List KVR)(many:Nat):Prop where
 blen:bl.length=n
 val:∀j,j<i->bm D ((tl j:Nat):Int)=some ((nth bl j:Nat):Int)
 inj:∀u u' b,bm D u=some b->bm D u'=some b->u=u'
 rng:∀u b,bm D u=some b->∃k:Nat,b=(k:Int)/\k<many
 keys:KeysE E many
 row:∀k:Nat,dh E (k:Int)=(Ji i).filter fun x=>nth bl x==k
 ne:∀k,k<many->dh E (k:Int)≠[]
 mi:many<=i
theorem CW(tl:Nat->Nat)(n:Nat):FI tl n 0 [] (IM n 0) [] 0:=
 ⟨by simp,fun j hj=>absurd hj (I4 j),fun u u' b h=>absurd h (by simp[bm]),fun u b h=>absurd h (by simp[bm]),rfl,fun k=>rfl,fun k hk=>absurd hk (I4 k),I8 _⟩
theorem FI.rowsN{tl:Nat->Nat}{n i:Nat}{D:List (Int×Int)}{bl:List Nat}{E:List KVR}{many:Nat}(h:FI tl n i D bl E many)(k:Nat):(dh E (k:Int)).length<=i:=by
 rw[h.row];exact K0 (JM _ _) (by simp)
theorem px{bl:List Nat}{i b k:Nat}(hi:i<bl.length):(Ji (i+1)).filter (fun x=>nth (bl.set i b) x==k)=(Ji i).filter (fun x=>nth bl x==k)++if b=k then [i]else []:=by
 rw[K7,Jj];have h1:(Ji i).filter (fun x=>nth (bl.set i b) x==k)=(Ji i).filter (fun x=>nth bl x==k):=KJ fun x hx=>by
  have:=IV.1 hx;rw[aW hi,if_neg zo]
 rw[h1];congr 1;rw[JE,aW hi,if_pos rfl]
 by_cases e:b=k
 ·subst e;simp
 rw[if_neg e,if_neg (by simpa using e)];rfl
theorem FI.old{tl:Nat->Nat}{n i:Nat}{D:List (Int×Int)}{bl:List Nat}{E:List KVR}{many:Nat}(h:FI tl n i D bl E many)(hi:i<n){b:Int}(hb:bm D ((tl i:Nat):Int)=some b)(v:ix):
  ∃k:Nat,b=(k:Int)/\k<many/\FI tl n (i+1) D (bl.set i k) (cp E (k:Int) (v,dh E (k:Int)++[i])) many:=by
 obtain⟨k,rfl,hk⟩:=h.rng _ _ hb;have a0:=h.blen;refine⟨k,rfl,hk,by rw[I7];exact a0,fun j hj=>?_,h.inj,h.rng,h.keys.same hk _,fun c=>?_,fun c hc=>?_,by have:=h.mi;omega⟩
 ·rw[aW zo]
  by_cases e:j=i
  ·rw[if_pos e,e];exact hb
  rw[if_neg e];exact h.val j zo
 ·rw[dL,px zo]
  by_cases e:k=c
  ·subst e;rw[if_pos rfl,if_pos rfl,h.row]
  rw[if_neg zo,if_neg e,IN,h.row]
 rw[dL]
 split
 ·simp
 exact h.ne c hc
theorem FI.new{tl:Nat->Nat}{n i:Nat}{D:List (Int×Int)}{bl:List Nat}{E:List KVR}{many:Nat}(h:FI tl n i D bl E many)(hi:i<n)(hb:bm D ((tl i:Nat):Int)=none)(v:ix):
  FI tl n (i+1) (cp D ((tl i:Nat):Int) (many:Int)) (bl.set i many) (cp E (many:Int) (v,dh E (many:Int)++[i])) (many+1):=by
 have a1:=h.blen;have a0:∀u b,bm D u=some b->b<many:=fun u b hu=>by
  obtain⟨k,rfl,hk⟩:=h.rng u b hu;omega
 refine⟨by rw[I7];exact a1,fun j hj=>?_,fun u u' b h1 h2=>?_,fun u b h1=>?_,h.keys.more _,fun c=>?_,fun c hc=>?_,by have:=h.mi;omega⟩
 ·rw[aU,aW zo]
  by_cases e:j=i
  ·rw[if_pos (by rw[e]),if_pos e]
  rw[if_neg e];have:=h.val j zo;rw[if_neg (fun e2=>by rw[<-e2,hb]at this;cases this)];exact this
 ·rw[aU]at h1 h2
  split at h1
  ·split at h2
   ·rename_i e1 e2;rw[<-e1,<-e2]
   cases h1
   have:=a0 _ _ h2;omega
  split at h2
  ·cases h2
   have:=a0 _ _ h1;omega
  exact h.inj u u' b h1 h2
 ·rw[aU]at h1
  split at h1
  ·cases h1;exact⟨many,rfl,zo⟩
  obtain⟨k,e,hk⟩:=h.rng u b h1;exact⟨k,e,zo⟩
 ·rw[dL,px zo]
  by_cases e:many=c
  ·subst e;rw[if_pos rfl,if_pos rfl,h.row]
  rw[if_neg zo,if_neg e,IN,h.row]
 rw[dL]
 split
 ·simp
 exact h.ne c zo
theorem FI.blk{tl:Nat->Nat}{n:Nat}{D:List (Int×Int)}{bl:List Nat}{E:List KVR}{many:Nat}(h:FI tl n n D bl E many)(nx:Nat->Nat->Nat):Blk nx tl n bl (fun k=>dh E (k:Int)) many:=by
 refine⟨h.blen,fun i hi=>?_,fun b _ x=>?_,fun b _=>?_,fun b hb=>h.ne b hb,fun p q hp hq e=>?_,fun p q hp hq ha=>?_⟩
 ·obtain⟨k,e,hk⟩:=h.rng _ _ (h.val i hi);omega
 ·rw[h.row,Jh,IV];simp
 ·rw[h.row];exact K5.sublist Jt
 ·have:=h.inj _ _ _ (h.val p hp) (by rw[e];exact h.val q hq);omega
 have e:tl p=tl q:=ha [] fun m hm=>absurd hm (by simp)
 have h1:=h.val p hp;rw[e,h.val q hq]at h1;have:=La h1;omega
structure TdI(td:List ((Int×Int)×Bool))(many b m:Nat):Prop where
 rng:tdR td many
 all:∀c j,c<b\/c=b/\j<m->j<37->tdP td c j
 len:td.length<=b*37+m
theorem Bx(many:Nat):TdI [] many 0 0:=⟨fun e he=>absurd he (by simp),fun c j h _=>zo,I8 _⟩
theorem TdI.put{td:List ((Int×Int)×Bool)}{many b m:Nat}(h:TdI td many b m)(hb:b<many)(hm:m<37):TdI (cp td ((b:Int),(m:Int)) true) many b (m+1):=by
 refine⟨fun e he=>?_,fun c j hc hj=>?_,?_⟩
 ·rcases qN _ _ _ _ he with he|he
  ·exact h.rng e he
  exact⟨b,m,hb,hm,by rw[he]⟩
 ·unfold tdP;rw[aU]
  split
  ·rfl
  rename_i hne;refine h.all c j ?_ hj
  rcases hc with hc|⟨rfl,hc⟩
  ·exact .inl hc
  exact .inr ⟨rfl,by
   have:¬j=m:=fun e=>hne (by rw[e])
   omega⟩
 have:=qO ((b:Int),(m:Int)) true td;have:=h.len;omega
theorem TdI.next{td:List ((Int×Int)×Bool)}{many b:Nat}(h:TdI td many b 37):TdI td many (b+1) 0:=⟨h.rng,fun c j hc hj=>h.all c j zo hj,by have:=h.len;omega⟩
structure BO(nx:Nat->Nat->Nat)(tl:Nat->Nat)(n:Nat)(bl:List Nat)(E:List KVR)(td:List ((Int×Int)×Bool))(many:Nat):Prop where
 blk:Blk nx tl n bl (fun k=>dh E (k:Int)) many
 keys:KeysE E many
 tdr:tdR td many
 todo:Todo nx n bl (tdP td)
structure BI(nx:Nat->Nat->Nat)(tl:Nat->Nat)(n:Nat)(bl0:List Nat)(m0 b0 many0:Nat)(left:List (Int×ix))(bl:List Nat)(E:List KVR)(td:List ((Int×Int)×Bool))(many:Nat):Prop where
 blk:Blk nx tl n bl (fun k=>dh E (k:Int)) many
 keys:KeysE E many
 tdr:tdR td many
 le:many0<=many
 pend:Pend nx n bl (tdP td) m0 (fun p=>nth bl0 (nx p m0)=b0) (fun b=>(b:Int)∈left.map (·.1))
 same:∀k:Nat,(k:Int)∈left.map (·.1)->k<many0/\∀x,x<n->(nth bl x=k↔nth bl0 x=k)
 nd:(left.map (·.1)).Nodup
theorem BO.take{nx:Nat->Nat->Nat}{tl:Nat->Nat}{n:Nat}{bl:List Nat}{E:List KVR}{td:List ((Int×Int)×Bool)}{many:Nat}(h:BO nx tl n bl E td many)(b0 m0:Nat)(_:m0<37)(_:∀p m,p<n->m<37->nx p m<n)(left:List (Int×ix)) 
  (hl:∀k,k∈left.map (·.1)↔∃i,i<n/\nth bl (nx i m0)=b0/\((nth bl i:Nat):Int)=k) (hn:(left.map (·.1)).Nodup):BI nx tl n bl m0 b0 many left bl E (oE td ((b0:Int),(m0:Int))) many:=by
 refine⟨h.blk,h.keys,h.tdr.del _,I8 _,?_,fun k hk=>?_,hn⟩
 ·refine h.todo.take b0 m0 (fun b m hb=>?_) _ fun p hp e=>(hl _).2 ⟨p,hp,e,rfl⟩
  by_cases e:b=b0/\m=m0
  ·exact .inr e
  refine .inl ?_;unfold tdP;rw[pJ (fun e2=>e ?_)]
  ·exact hb
  have:=Kj e2;omega
 obtain⟨i,hi,_,e⟩:=(hl _).1 hk;have:=h.blk.lt i hi;exact⟨zo,fun x _=>Iff.rfl⟩
theorem qp{a1 a0:List (Int×ix)}{k:Int}{v:ix}(hn:((a1++(k,v)::a0).map (·.1)).Nodup):((a1++a0).map (·.1)).Nodup/\k∉(a1++a0).map (·.1)/\∀b,b∈(a1++(k,v)::a0).map (·.1)->b=k\/b∈(a1++a0).map (·.1):=by
 simp only[Jq,J2]at hn ⊢;have hp:=(List.perm_middle (a:=k) (l₁:=a1.map (·.1)) (l₂:=a0.map (·.1)))
 have h2:=hp.nodup_iff.1 hn;obtain⟨h3,h4⟩:=K8.1 h2;exact⟨h4,h3,fun b hb=>IQ.1 (hp.mem_iff.1 hb)⟩
section
variable{nx:Nat→Nat→Nat}{tl:Nat→Nat}{n:Nat}{bl0:List Nat}{m0 b0 many0:Nat}{pre suf:List (Int×ix)}{k:Nat}{v:ix}{bl:List Nat}{E:List KVR}{td:List ((Int×Int)×Bool)}{many:Nat}{L:List Nat}
theorem BI.here(h:BI nx tl n bl0 m0 b0 many0 (pre++((k:Int),v)::suf) bl E td many)(hL:∀x,x∈L↔x<n/\nth bl0 x=k/\nth bl0 (nx x m0)=b0):k<many/\∀x,x∈L↔x<n/\nth bl x=k/\nth bl0 (nx x m0)=b0:=by
 obtain⟨h1,h2⟩:=h.same k (by simp);refine⟨by have:=h.le;omega,fun x=>?_⟩;rw[hL]
 constructor
 ·rintro⟨a,b,c⟩;exact⟨a,(h2 x a).2 b,c⟩
 rintro⟨a,b,c⟩;exact⟨a,(h2 x a).1 b,c⟩
theorem BI.skip(h:BI nx tl n bl0 m0 b0 many0 (pre++((k:Int),v)::suf) bl E td many)(hL:∀x,x∈L↔x<n/\nth bl0 x=k/\nth bl0 (nx x m0)=b0)(a4:L.Nodup)(a5:(dh E (k:Int)).length<=L.length):BI nx tl n bl0 m0 b0 many0 (pre++suf) bl E td many:=by
 obtain⟨hk,a1⟩:=h.here hL;obtain⟨r1,r2,r3⟩:=qp h.nd;refine⟨h.blk,h.keys,h.tdr,h.le,?_,fun c hc=>h.same c ?_,r1⟩
 ·refine h.pend.whole (k:=k) (fun p hp e=>?_) fun b hb=>?_
  ·refine Ja fun hn=>?_
   have a2:p∉L:=fun hx=>hn ((a1 p).1 hx).2.2
   have a3:(p::L).Nodup:=K8.2 ⟨a2,a4⟩;have a0:(p::L) ⊆ dh E (k:Int):=fun x hx=>by
    rcases IQ.1 hx with rfl|hx
    ·exact(h.blk.mem k hk _).2 ⟨hp,e⟩
    exact(h.blk.mem k hk x).2 ⟨((a1 x).1 hx).1,((a1 x).1 hx).2.1⟩
   have:=a3.length_le_of_subset a0;simp only[J4]at this;omega
  rcases r3 _ hb with h1|h1
  ·exact .inl zo
  exact .inr h1
 simp only[Jq,J2,IZ,IQ]at hc ⊢
 rcases hc with hc|hc
 ·exact .inl hc
 exact .inr (.inr hc)
theorem BI.cut(h:BI nx tl n bl0 m0 b0 many0 (pre++((k:Int),v)::suf) bl E td many)(a3:∀p m,p<n->m<37->nx p m<n)(h0:∀p q,p<n->q<n->Alike nx tl p q->nth bl0 p=nth bl0 q)(a4:m0<37) 
  (hL:∀x,x∈L↔x<n/\nth bl0 x=k/\nth bl0 (nx x m0)=b0) (a8:L.Nodup) (a6:L≠[]) (a7:L.length<(dh E (k:Int)).length) (ov v':ix) (lt:Bool) :
  BI nx tl n bl0 m0 b0 many0 (pre++suf) (cx bl many L) (cp (cp E (many:Int) (ov,L)) (k:Int) (v',gh (fun x=>nth (cx bl many L) x==many) (dh E (k:Int)))) (tdL td k many lt 37) (many+1):=by
 obtain⟨hk,a1⟩:=h.here hL;obtain⟨r1,r2,r3⟩:=qp h.nd;have hc:=F9 (L:=L) (ov:=ov) (v':=v') hk h.blk.len (h.blk.mem k hk);refine⟨?_,?_,zb h.tdr hk 37 (I8 _),by have:=h.le;omega,?_,fun c a0=>?_,r1⟩
 ·refine h.blk.cut hc hk (fun x hx=>⟨((a1 x).1 hx).1,((a1 x).1 hx).2.1⟩) a8 a6 a7 fun p q hp hq ha a5=>?_
  obtain⟨_,e1,e2⟩:=(hL p).1 a5;refine(hL q).2 ⟨hq,by rw[<-h0 p q hp hq ha];exact e1,?_⟩;rw[<-h0 (nx p m0) (nx q m0) (a3 p m0 hp a4) (a3 q m0 hq a4) (ha.step a4)];exact e2
 ·exact(h.keys.more _).same zo _
 ·refine Pend.cut h.blk h.pend hc hk a3 a1 (fun b m hb=>vE hb 37) (fun m hm hb=>vD hb 37 hm) (fun m hm=>C0 37 hm) fun b hb=>?_
  rcases r3 _ hb with h1|h1
  ·exact .inl zo
  exact .inr h1
 have a9:c≠k:=fun e=>r2 (by rw[<-e];exact a0)
 obtain⟨h1,h2⟩:=h.same c (by
  simp only[Jq,J2,IZ,IQ]at a0 ⊢
  rcases a0 with a0|a0
  ·exact .inl a0
  exact .inr (.inr a0))
 refine⟨h1,fun x hx=>?_⟩;rw[<-h2 x hx,hc.bl x hx];have:=h.le
 by_cases a2:x∈L
 ·rw[if_pos a2];have:=((a1 x).1 a2).2.1
  constructor<;>omega
 rw[if_neg a2]
end
theorem BI.done{nx:Nat->Nat->Nat}{tl:Nat->Nat}{n:Nat}{a1:List Nat}{m0 b0 a0:Nat}{bl:List Nat}{E:List KVR}{td:List ((Int×Int)×Bool)}{many:Nat}(h:BI nx tl n a1 m0 b0 a0 [] bl E td many):BO nx tl n bl E td many:=
 ⟨h.blk,h.keys,h.tdr,h.pend.done fun b hb=>absurd hb (by simp)⟩
theorem BO.final{nx:Nat->Nat->Nat}{tl:Nat->Nat}{n:Nat}{bl:List Nat}{E:List KVR}{many:Nat}(h:BO nx tl n bl E [] many)(a0:∀p m,p<n->m<37->nx p m<n)(p q:Nat)(hp:p<n)(hq:q<n):nth bl p=nth bl q↔Alike nx tl p q:=by
 refine h.blk.final (fun p q m a b c d e=>?_) a0 p q hp hq
 rcases h.todo p q m a b c d e with h1|h1<;>cases h1
theorem FI.bo{nx:Nat->Nat->Nat}{tl:Nat->Nat}{n:Nat}{D:List (Int×Int)}{bl:List Nat}{E:List KVR}{many:Nat}{td:List ((Int×Int)×Bool)}(h:FI tl n n D bl E many)(ht:TdI td many many 0)(a0:∀p m,p<n->m<37->nx p m<n):BO nx tl n bl E td many:=by
 have hb:=h.blk nx;exact⟨hb,h.keys,ht.rng,fun p q m hp hq hm e a1=>.inl (ht.all _ m (.inl (hb.lt _ (a0 p m hp hm))) hm)⟩
theorem GU:KeyL J6 24 (fun n:Int=>Value.int .u64 n):=Lj underlying24
theorem uD(B:Nat)(O:Nat->Nat)(w:ln)(sb:Nat)(nv tv bv:ix)(sr tr:Nat)(a0:List Nat)(hR:JG B O w)(hB:Ju O w 1 sb #[nv,tv,nS,bv,.map (some sr),.map (some tr),nI 0] 327) 
  (e6:J1 aR 3 1 O w 2 bv (IM a0.length 0)) (g':MpR 10 3 O w sr []) (g9:Jg dP IX O w 4 tr []) (g2:Sl iw 1 w tv a0) (e':K6 O w tv) (hn:a0.length<=1000) (_:∀q,O q<2000) :
  Kd J6 234 [nP sb] w fun _ w'=>
   ∃O' D bl E many td,IK (fun q=>1<=q/\q<=4\/10<=q) O w O' w'/\JG B O' w'/\Ju O' w' 1 sb #[nv,tv,nS,bv,.map (some sr),.map (some tr),nI ((many:Nat):Int)] 327/\
    J1 aR 3 1 O' w' 2 bv bl/\MpR 10 3 O' w' sr E/\Jg dP IX O' w' 4 tr td/\FI (nth a0) a0.length a0.length D bl E many/\TdI td many many 0:=by
 refine IE func234 ntmps234 rfl rfl ?_;refine zh ?_
 refine aZ (fun k:Int=>.int .u64 k) (fun v:Int=>nI v) hR 2000 zd rfl ?_;intro r w1 O1 i2 c9 h';have g6:=hB.upd c9 zd zd;have c1:w1.cell? ((nA sb 0).add 1)=some tv:=g6.cell 1 rfl;have g8:=g2.upd e' c9;have h5:=e'.upd c9;refine zh ?_
 refine zlp (fun z:Nat×(Nat->Nat)×World×List (Int×Int)×List Nat×List KVR×Nat=>[(0,nP sb),(2,.map (some r)),(14,tv),(15,nI a0.length),(16,nI z.1)]) (fun z=>z.2.2.1) (fun z=>z.1<=a0.length/\IK (fun q=>1<=q/\q<=3\/10<=q) O w z.2.1 z.2.2.1/\JG B z.2.1 z.2.2.1/\Ju z.2.1 z.2.2.1 1 sb #[nv,tv,nS,bv,.map (some sr),.map (some tr),nI ((z.2.2.2.2.2.2:Nat):Int)] 327/\J1 aR 3 1 z.2.1 z.2.2.1 2 bv z.2.2.2.2.1/\MpR 10 3 z.2.1 z.2.2.1 sr z.2.2.2.2.2.1/\Jg (fun k:Int=>.int .u64 k) (fun v:Int=>nI v) z.2.1 z.2.2.1 2000 r z.2.2.2.1/\FI (nth a0) a0.length z.1 z.2.2.2.1 z.2.2.2.2.1 z.2.2.2.2.2.1 z.2.2.2.2.2.2) (fun z=>a0.length-z.1) (0,O1,w1,[],IM a0.length 0,[],0) (⟨I0 _,c9.mono (fun _ h=>zo) zd,h',g6,e6.upd c9 zd zd,⟨g'.map.upd c9 zd zd,fun k hk=>absurd hk (I4 k)⟩,i2,CW _ _⟩) ?_;rintro⟨i,O2,w2,D,bl,E,many⟩ ⟨hi,c8,d9,b3,a1,a8,d3,hF⟩;dsimp only at hi c8 d9 b3 a1 a8 d3 hF ⊢;have e1:=g2.upd e' c8;have i4:=hF.blen;have g4:many<=i:=hF.mi;refine zh ?_
 refine zC ?_ ?_
 ·intro a3;replace a3:i<a0.length:=dT a3;have m1:w2.cell? (adr tv 1 i)=some (.int .u64 ((nth a0 i:Nat):Int)):=by have:=e1.cell (i:=i) (j:=0) a3 rfl;rwa[ax]at this
  have g3:=hF.rowsN;refine zh ?_
  cases d0:bm D ((nth a0 i:Nat):Int)with
  |some b=>
   have e8:=hF.old a3 d0;obtain⟨k,rfl,hk,_⟩:=hF.old a3 d0 (nS);have f9:∀v,FI (nth a0) a0.length (i+1) D (bl.set i k) (cp E (k:Int) (v,dh E (k:Int)++[i])) many:=fun v=>by
    obtain⟨k',e,_,h⟩:=e8 v;obtain rfl:k=k':=zo;exact h
   have h1:=g3 k;have h0:=vF E (k:Int);have h6:=hF.keys.len;refine zvH (cE (u:=.tuple #[nI (k:Int),.bool true]) d3 Kv GU (JQ _) ((nth a0 i:Nat):Int) rfl rfl rfl (by rw[d0];rfl)) ?_;refine aT rfl rfl ?_;have e0:=Lo a1;have i3:KZ w2 (nA sb 3)=some bv:=Lc b3 3 rfl;refine zh ?_;refine JK a1 i zo (k:Nat) (IS _) rfl zd rfl rfl rfl rfl ?_;intro wa a' b0;have d7:=Ll b3 b0 zd zd;have b8:=MpR.upd a8 b0 zd zd zd (fun _=>zo);have f6:=Lt d9 b0;have c7:=Li d3 b0 zd zd;refine zh ?_;have d1:wa.drew.cell? (nA sb 4)=some (.map (some sr)):=d7.cell 4 rfl;have a5:IK (fun _=>False) O2 wa O2 wa.drew:=aa (fun h=>h) O2 (IF wa).drew;have d2:=b8.upd a5 zd zd (fun h=>h) (fun _ h=>h);refine aK (fun W=>W.cell? (nA sb 4)=some (.map (some sr))) 15 rfl zk ?_;refine zrm 0 rfl d1 rfl ?_;refine zr 1 rfl d1 (fun _=>ak rfl) ?_;refine zrf 2 rfl d1 rfl ?_;refine zt 3 rfl d1 (fun w1 b4=>RV.ld b4 rfl) ?_;refine zrm 4 rfl d1 rfl ?_;refine zrm 5 rfl d1 rfl ?_;refine zr 6 rfl d1 (fun _=>ak rfl) ?_;refine zrf 7 rfl d1 rfl ?_;refine zt 8 rfl d1 (fun w1 b4=>RV.ld b4 rfl) ?_;refine zrm 9 rfl d1 rfl ?_;refine zrm 11 rfl d1 rfl ?_
   refine gS 10 12 ke (enc:=aR) i rfl rfl zk zk zk zk (fun W hE=>Jo (d2.upd (aa (S:=fun _=>False) (fun h=>h) O2 hE) zd zd (fun h=>h) (fun _ h=>h)).map IP oZ (Jm _) ((k:Nat):Int) rfl rfl rfl (lu E _)) (fun W hE=>hE.cell d1) rfl rfl rfl zd rfl rfl rfl rfl rfl ?_;intro g7 wb b7 f';have a4:IK (fun _=>False) O2 wa.drew O2 wb:=aa (fun h=>h) O2 f';have b':=d2.upd a4 zd zd (fun h=>h) (fun _ h=>h);refine I9 13 zk rfl ?_
   refine aB ke (b'.at ((k:Nat):Int)) ((f6.upd a5).upd a4) b7 (by simp) rfl rfl (by simp) (by simp[I5]) (by rw[IJ];omega) (by rw[IJ];omega) zo rfl ?_;intro vc wc Oc e7 a7 f5;have d6:=((d7.upd a5 zd (fun h=>h)).upd a4 zd (fun h=>h)).upd a7 zd zo;refine zh ?_
   refine af (d6.cell 4 rfl) ?_;refine I9 14 zk rfl ?_
   refine J5 (b'.map.upd a7 zd zo) IP oZ zd ((k:Nat):Int) vc rfl rfl rfl rfl rfl ?_;intro wd e9 a6;have d5:=d6.upd a6 zd zd;have b9:=b'.put ((k:Nat):Int) zd zd a7 e7 e9 a6;refine zh ?_
   refine af (d5.cell 4 rfl) ?_;have f3:IK (fun q=>1<=q/\q<=3\/10<=q) O2 w2 Oc wd:=((((b0.mono (fun _ h=>zo) zd).trans (a5.mono (fun _ h=>h.elim) zd)).trans (a4.mono (fun _ h=>h.elim) zd)).trans (a7.mono (fun _ h=>zo) zd)).trans (a6.mono (fun _ h=>zo) zd);have a9:=(((a'.upd a5 zd (fun h=>h)).upd a4 zd (fun h=>h)).upd a7 zd zo).upd a6 zd zd;have c5:=(((c7.upd a5 zd (fun h=>h)).upd a4 zd (fun h=>h)).upd a7 zd zo).upd a6 zd zd;refine Jd zk ?_
   refine zh ?_;refine zxd (i+1,Oc,wd,D,bl.set i k,cp E ((k:Nat):Int) (vc,dh E ((k:Nat):Int)++[i]),many) (⟨a3,c8.trans f3,f5.upd a6,d5,a9,b9,c5,f9 vc⟩)
  |none=>
   have f9:=hF.new a3 d0;have h1:=g3 many;have h0:=vF E (many:Int);have h6:=hF.keys.len;refine zvH (cE (u:=.tuple #[nI 0,.bool false]) d3 Kv GU (JQ _) ((nth a0 i:Nat):Int) rfl rfl rfl (by rw[d0];rfl)) ?_;refine aS rfl rfl ?_;have c6:w2.cell? (nA sb 6)=some (nI (many:Nat)):=b3.cell 6 rfl;refine zh ?_;refine J5 d3 Kv GU zd ((nth a0 i:Nat):Int) (many:Int) rfl rfl rfl rfl rfl ?_;intro w3 i1 a2;have d':=b3.upd a2 zd zd;have c':=a1.upd a2 zd zd;have e5:MpR 10 3 O2 w3 sr E:=⟨a8.map.upd a2 zd zd,fun k hk=>(a8.row k hk).upd a2 zo (by have:=hF.keys.len;omega)⟩
   have h9:=d9.upd a2;have i5:w3.cell? (nA sb 6)=some (nI (many:Nat)):=d'.cell 6 rfl;refine zh ?_;refine aj (j:=6) d' rfl (IS _) rfl rfl rfl rfl ?_;have b1:IK (fun j=>j=1) O2 w3 O2 (w3.setCell ⟨sb,6,none⟩ (nI ((many:Int)+1))):=Jn zd d'.tag rfl;have g5:Ju O2 (w3.setCell ⟨sb,6,none⟩ (nI ((many:Int)+1))) 1 sb #[nv,tv,nS,bv,.map (some sr),.map (some tr),nI ((many+1:Nat):Int)] 327:=d'.set 6 _;have b2:=c'.upd b1 zd zd;have e4:=e5.upd b1 zd zd zd (fun _=>zo);have h8:=h9.upd b1;have i0:=i1.upd b1 zd zd;have f4:=(c8.trans (a2.mono (fun _ h=>zo) zd)).trans (b1.mono (fun _ h=>zo) zd);generalize w3.setCell ⟨sb,6,none⟩ (nI ((many:Int)+1))=w4 at *;have e0:=Lo b2;have i3:KZ w4 (nA sb 3)=some bv:=Lc g5 3 rfl;refine zh ?_;refine JK b2 i zo (many:Nat) (IS _) rfl zd rfl rfl rfl rfl ?_;intro wa a' b0;have d7:=Ll g5 b0 zd zd;have b8:=MpR.upd e4 b0 zd zd zd (fun _=>zo);have f6:=Lt h8 b0;have c7:=Li i0 b0 zd zd;refine zh ?_;have d1:wa.drew.cell? (nA sb 4)=some (.map (some sr)):=d7.cell 4 rfl;have a5:IK (fun _=>False) O2 wa O2 wa.drew:=aa (fun h=>h) O2 (IF wa).drew;have d2:=b8.upd a5 zd zd (fun h=>h) (fun _ h=>h);refine aK (fun W=>W.cell? (nA sb 4)=some (.map (some sr))) 15 rfl zk ?_;refine zrm 0 rfl d1 rfl ?_;refine zr 1 rfl d1 (fun _=>ak rfl) ?_;refine zrf 2 rfl d1 rfl ?_;refine zt 3 rfl d1 (fun w1 b4=>RV.ld b4 rfl) ?_;refine zrm 4 rfl d1 rfl ?_;refine zrm 5 rfl d1 rfl ?_
   refine zr 6 rfl d1 (fun _=>ak rfl) ?_;refine zrf 7 rfl d1 rfl ?_
   refine zt 8 rfl d1 (fun w1 b4=>RV.ld b4 rfl) ?_;refine zrm 9 rfl d1 rfl ?_
   refine zrm 11 rfl d1 rfl ?_;refine gS 10 12 ke (enc:=aR) i rfl rfl zk zk zk zk (fun W hE=>Jo (d2.upd (aa (S:=fun _=>False) (fun h=>h) O2 hE) zd zd (fun h=>h) (fun _ h=>h)).map IP oZ (Jm _) ((many:Nat):Int) rfl rfl rfl (lu E _)) (fun W hE=>hE.cell d1) rfl rfl rfl zd rfl rfl rfl rfl rfl ?_
   intro g7 wb b7 f';have a4:IK (fun _=>False) O2 wa.drew O2 wb:=aa (fun h=>h) O2 f';have b':=d2.upd a4 zd zd (fun h=>h) (fun _ h=>h);refine I9 13 zk rfl ?_;refine aB ke (b'.at ((many:Nat):Int)) ((f6.upd a5).upd a4) b7 (by simp) rfl rfl (by simp) (by simp[I5]) (by rw[IJ];omega) (by rw[IJ];omega) zo rfl ?_;intro vc wc Oc e7 a7 f5;have d6:=((d7.upd a5 zd (fun h=>h)).upd a4 zd (fun h=>h)).upd a7 zd zo;refine zh ?_;refine af (d6.cell 4 rfl) ?_;refine I9 14 zk rfl ?_;refine J5 (b'.map.upd a7 zd zo) IP oZ zd ((many:Nat):Int) vc rfl rfl rfl rfl rfl ?_;intro wd e9 a6;have d5:=d6.upd a6 zd zd;have b9:=b'.put ((many:Nat):Int) zd zd a7 e7 e9 a6;refine zh ?_;refine af (d5.cell 4 rfl) ?_;have f3:IK (fun q=>1<=q/\q<=3\/10<=q) O2 w4 Oc wd:=((((b0.mono (fun _ h=>zo) zd).trans (a5.mono (fun _ h=>h.elim) zd)).trans (a4.mono (fun _ h=>h.elim) zd)).trans (a7.mono (fun _ h=>zo) zd)).trans (a6.mono (fun _ h=>zo) zd);have a9:=(((a'.upd a5 zd (fun h=>h)).upd a4 zd (fun h=>h)).upd a7 zd zo).upd a6 zd zd;have c5:=(((c7.upd a5 zd (fun h=>h)).upd a4 zd (fun h=>h)).upd a7 zd zo).upd a6 zd zd;refine Jd zk ?_;refine zh ?_;refine zxd (i+1,Oc,wd,(cp D ((nth a0 i:Nat):Int) (many:Int)),bl.set i many,cp E ((many:Nat):Int) (vc,dh E ((many:Nat):Int)++[i]),(many+1)) (⟨a3,f4.trans f3,f5.upd a6,d5,a9,b9,c5,f9 vc⟩)
 intro h3;obtain rfl:i=a0.length:=dF h3;have c6:w2.cell? (nA sb 6)=some (nI (many:Nat)):=b3.cell 6 rfl;have e3:=g9.upd c8 zd zo;refine zh ?_;refine zlp (fun z:Nat×ln×List ((Int×Int)×Bool)=>[(0,nP sb),(68,nI (many:Nat)),(69,nI z.1)]) (fun z=>z.2.1) (fun z=>z.1<=many/\IK (fun q=>q=4) O2 w2 O2 z.2.1/\Jg dP IX O2 z.2.1 4 tr z.2.2/\TdI z.2.2 many z.1 0) (fun z=>many-z.1) (0,w2,[]) (⟨I0 _,Jp zd _ _,e3,Bx _⟩) ?_;rintro⟨b,w3,g1⟩ ⟨hb,a2,b6,f8⟩;dsimp only at hb a2 b6 f8 ⊢;refine zh ?_;refine zC ?_ ?_
 ·intro a3;replace a3:b<many:=dT a3;refine zh ?_;refine zlp (fun y:Nat×ln×List ((Int×Int)×Bool)=>[(0,nP sb),(68,nI (many:Nat)),(69,nI (b:Nat)),(7,nI (b:Nat)),(72,nI y.1)]) (fun y=>y.2.1) (fun y=>y.1<=37/\IK (fun q=>q=4) O2 w2 O2 y.2.1/\Jg dP IX O2 y.2.1 4 tr y.2.2/\TdI y.2.2 many b y.1) (fun y=>37-y.1) (0,w3,g1) (⟨I0 _,a2,b6,f8⟩) ?_;rintro⟨m,w4,g0⟩ ⟨hm,b1,b5,f7⟩;dsimp only at hm b1 b5 f7 ⊢;refine zh ?_;refine zC ?_ ?_
  ·intro d8;replace d8:m<37:=dT d8;have d4:w4.cell? (nA sb 5)=some (.map (some tr)):=(b3.upd b1 zd zd).cell 5 rfl;refine zh ?_;refine zv (eG JH (IS _) (Jz _) rfl rfl) ?_;refine J5 b5 JI Gq zd ((b:Int),(m:Int)) true rfl rfl rfl rfl rfl ?_;intro w5 e2 h7;refine zh ?_;refine zxd (m+1,w5,cp g0 ((b:Int),(m:Int)) true) (⟨d8,b1.trans h7,e2,f7.put a3 d8⟩)
  intro h2;obtain rfl:m=37:=dF h2;refine zh ?_;refine zxd (b+1,w4,g0) (⟨a3,b1,b5,f7.next⟩)
 intro h4;obtain rfl:b=many:=dF h4;refine zh ?_;refine aD rfl (⟨O2,D,bl,E,b,g1,(c8.mono (fun _ h=>zo) zd).trans (a2.mono (fun _ h=>zo) zd),d9.upd a2,b3.upd a2 zd zd,a1.upd a2 zd zd,a8.upd a2 zd zd zd (fun _=>zo),b6,hF,f8⟩)
end Go.Proofs.YteolbhblkgjbhaaGreatDoor
section
namespace Go.VL
open Go.Proofs
theorem vg{P:JW}{N:Nat}{ops:Array Kz}{Q:KW->Ly->ln->Prop}{a0:List Kz}{st:St}{w:ln}{t:Jr}{p:String}{e:Array Lx}{d:Nat}{x y:KG} 
  {T E:Jr} {bytes:Nat} (he:Lb P T E 1 bytes) (z0:ix) (a3:(P.info? E).bind (·.zero)=some z0) (h1:z0.oneCell'=true) {B:Nat} {O:Nat->Nat} (r:JG B O w) (i:Nat) (a8:i≠0) (n:Nat) {kl kc:IntKind} {m1 m2:Int}
  (hx:ev st x=some (.int kl m1)) (hy:ev st y=some (.int kc m2)) (a7:m1=n) (a6:m2=n) (hb:bytes*n<=281474976710656) (b1:n<=9223372036854775807) (hd:JJ d N=true)
  (h:∀w' O' v,J1 (fun x:ix=>[x]) E 1 O' w' i v (IM n z0)->IK (fun k=>k=i) O w O' w'->JG B O' w'->JX w w'->WL P N ops Q a0 ((d,v)::st) w') :
  WL P N ops Q (⟨some d,.makeSlice T x y,t,p,e,none⟩::a0) st w:=by
 obtain⟨a2,z,hi,hz,a5,a',b2⟩:=he.parts;have a4:z=z0:=by rw[hi]at a3;simpa[hz]using a3
 subst a4;subst a7;subst a6;have a9:z.cells = #[z]:=by cases z<;>first|rfl|simp[I5]at h1
 have b0:(a2.bytes:Int)*(n:Int)<=281474976710656:=by
  have h:((a2.bytes*n:Nat):Int)<=281474976710656:=by rw[a'];omega
  rwa[Int.natCast_mul]at h
 have a1:=run_make (P:=P) w T E a2 _ he.ht hi hz kl kc n n zo (L8 _) b0 zo;simp only[Int.toNat_natCast,a5,Nat.mul_one,a9]at a1;have hz:¬(fun k=>k=i) 0:=fun h=>a8 h.symm
 have u:=Upd.alloc (S:=fun k=>k=i) hz r (.cells (madeCells #[z] n) E) i;refine L0 (v:=.slice (some ⟨w.heap.size,0,none⟩) n n) hd (fun a ha=>by simp only[execOp,ha.ev hx,ha.ev hy,Jw,a1,J7];rfl) (h _ _ _ ⟨⟨?_,fun g hg=>?_⟩,fun a _=>rfl⟩ u (r.upd u) (Lk _ _))
 ·rw[Kp];have:=World.ownsRow_lit (base:=0) (size:=1) (e:=E) w (madeCells #[z] n) n (I0 _) (by simpa[maxLen]using b1) (by rw[size_madeCells];omega);rw[toList_madeCells_one]at this;have e2:(IM n z).flatMap (fun x=>[x])=IM n z:=by
   induction n with
   |zero=>rfl
   |succ n ih=>simp only[KC,JC];congr 1;simp[List.flatMap_replicate]
  rw[e2];exact this
 simp only[Value.ownBlock,L9]at hg;subst hg;exact dS _ _ _
theorem Sl.free0{α:Type}[Inhabited α]{f:α->List ix}{sz:Nat}{w:ln}{v:ix}{xs:List α}(h:Sl f sz w v xs)(hf:∀a,f a≠[]):K6 (fun _=>0) w v:=fun a n c e hn=>by
 obtain⟨a',c',e1,_,_,e2⟩:=h.shape;subst e
 cases e1
 obtain⟨b,o,e3⟩:=e2 hn
 cases e3
 refine⟨rfl,?_⟩;have hl:0<xs.length:=Nat.pos_of_ne_zero hn
 cases hx:f xs[0]with
 |nil=>exact absurd hx (hf _)
 |cons u r=>
  have hc:=h.cells 0 hl 0 u (by rw[hx];rfl);have:=Kh _ _ hc;have hb:((adr (.slice (some ⟨b,o,none⟩) xs.length c) sz 0).add 0).block=b:=by simp only[adr,Addr.add];split<;>rfl
  rwa[hb]at this
end Go.VL
namespace Go.Proofs.YteolbhblkgjbhaaGreatDoor
open Go.VL Go.Proofs
set_option maxRecDepth 10000
def RowsF(O:Nat->Nat)(w:ln)(v:ix)(rows:List (List Nat)):Prop:=∃vs,Sl yQ 1 w v vs/\K6 O w v/\vs.length=rows.length/\∀i,i<rows.length->Sl aR 1 w (nth vs i) (nth rows i)/\K6 O w (nth vs i)
theorem RowsF.upd{S:Nat->Prop}{O O':Nat->Nat}{w w':ln}{v:ix}{rows:List (List Nat)}(h:RowsF O w v rows)(u:IK S O w O' w'):RowsF O' w' v rows:=by
 obtain⟨vs,h1,h2,h3,h4⟩:=h;exact⟨vs,h1.upd h2 u,h2.upd u,h3,fun i hi=>⟨(h4 i hi).1.upd (h4 i hi).2 u,(h4 i hi).2.upd u⟩⟩
theorem RowsN.free{w:ln}{v:ix}{rows:List (List Nat)}(h:RowsN w v rows):RowsF (fun _=>0) w v rows:=by
 obtain⟨vs,h1,h2,h3⟩:=h;exact⟨vs,h1,h1.free0 (fun a=>by simp),h2,fun i hi=>⟨h3 i hi,(h3 i hi).free0 (fun a=>by simp)⟩⟩
def RowsG(B:Nat)(w:ln)(v:ix)(rows:List (List Nat)):Prop:=∃vs,Sl yQ 1 w v vs/\NewV B v/\vs.length=rows.length/\∀i,i<rows.length->Sl aR 1 w (nth vs i) (nth rows i)/\NewV B (nth vs i)
theorem RowsG.rows{B:Nat}{w:ln}{v:ix}{rows:List (List Nat)}(h:RowsG B w v rows):RowsN w v rows:=by
 obtain⟨vs,h1,h2,h3,h4⟩:=h;exact⟨vs,h1,h3,fun i hi=>(h4 i hi).1⟩
theorem RowsG.mono{B B':Nat}{w:ln}{v:ix}{rows:List (List Nat)}(h:RowsG B w v rows)(hb:B'<=B):RowsG B' w v rows:=by
 obtain⟨vs,h1,h2,h3,h4⟩:=h;exact⟨vs,h1,h2.mono hb,h3,fun i hi=>⟨(h4 i hi).1,(h4 i hi).2.mono hb⟩⟩
theorem RowsG.ext{B:Nat}{w w':ln}{v:ix}{rows:List (List Nat)}(h:RowsG B w v rows)(e:JX w w'):RowsG B w' v rows:=by
 obtain⟨vs,h1,h2,h3,h4⟩:=h;exact⟨vs,h1.ext e,h2,h3,fun i hi=>⟨(h4 i hi).1.ext e,(h4 i hi).2⟩⟩
theorem yl{n i:Nat}{nx:Nat->Nat}{to:Nat}(_:i<n):dI (i+1) nx to=dI i nx to++if nx i=to then [i]else []:=by
 unfold dI;rw[K7,Jj,JE]
 by_cases e:nx i=to
 ·rw[if_pos (by simpa using e),if_pos e];rfl
 rw[if_neg (by simpa using e),if_neg e];rfl
theorem AS(i:Nat)(nx:Nat->Nat)(to:Nat):(dI i nx to).length<=i:=by
 unfold dI;exact K0 (JM _ _) (by simp)
structure TuI(O:Nat->Nat)(W:ln)(sb:Nat)(nv tv fv bv:ix)(sr tr many n m:Nat)(nx:Nat->Nat->Nat)(ms:List ix)(vss:List (List ix)):Prop where
 blk:Ju O W 1 sb #[nv,tv,fv,bv,.map (some sr),.map (some tr),nI ((many:Nat):Int)] 327
 row:J1 yQ 130 1 O W 6 fv ms
 len:ms.length=m
 lenv:vss.length=m
 at_:∀j,j<m->J1 yQ 22 1 O W 5 (nth ms j) (nth vss j)/\(nth vss j).length=n/\∀t,t<n->J1 aR 3 1 O W 5 (nth (nth vss j) t) (dI n (fun x=>nx x j) t)
theorem TuI.upd{S:Nat->Prop}{O O':Nat->Nat}{w w':ln}{sb:Nat}{nv tv fv bv:ix}{sr tr many n m:Nat}{nx:Nat->Nat->Nat}{ms:List ix}{a0:List (List ix)}(h:TuI O w sb nv tv fv bv sr tr many n m nx ms a0) 
  (u:IK S O w O' w') (h1:¬S 1) (h5:¬S 5) (h6:¬S 6):TuI O' w' sb nv tv fv bv sr tr many n m nx ms a0:=
 ⟨h.blk.upd u zd h1,h.row.upd u zd h6,h.len,h.lenv,fun j hj=>⟨(h.at_ j hj).1.upd u zd h5,(h.at_ j hj).2.1,fun t ht=>((h.at_ j hj).2.2 t ht).upd u zd h5⟩⟩
theorem F8:Lb J6 325 130 1 24:=⟨underlying325,by kernel_rfl,zd⟩
theorem sx(B:Nat)(O:Nat->Nat)(w:ln)(sb:Nat)(nv tv bv:ix)(sr tr many:Nat)(rows:List (List Nat))(e2:List Nat)(hR:JG B O w)(hB:Ju O w 1 sb #[nv,tv,nS,bv,.map (some sr),.map (some tr),nI ((many:Nat):Int)] 327) 
  (hn:RowsF O w nv rows) (hr:RightD rows e2) (hT:∀q,O q<2000) (f8:∀q,O q≠6) :
  Kd J6 235 [nP sb] w fun _ w'=>
   ∃O' fv,IK (fun q=>q=1\/q=5\/q=6\/2000<=q) O w O' w'/\JG B O' w'/\Ju O' w' 1 sb #[nv,tv,fv,bv,.map (some sr),.map (some tr),nI ((many:Nat):Int)] 327/\FromO O' w' 5 fv rows.length (nxD rows):=by
 have g5:=hr.le;obtain⟨vs,b4,a',g4,c9⟩:=hn;refine IE func235 ntmps235 rfl rfl ?_;refine zh ?_;refine zlp (fun z:Nat×(Nat->Nat)×World×ix×List ix×List (List ix)=>[(0,nP sb),(6,nI z.1)]) (fun z=>z.2.2.1) (fun z=>z.1<=37/\IK (fun q=>q=1\/q=5\/q=6\/2000<=q) O w z.2.1 z.2.2.1/\JG B z.2.1 z.2.2.1/\TuI z.2.1 z.2.2.1 sb nv tv z.2.2.2.1 bv sr tr many rows.length z.1 (nxD rows) z.2.2.2.2.1 z.2.2.2.2.2) (fun z=>37-z.1) (0,O,w,nS,[],[]) (⟨I0 _,Jp zd _ _,hR,hB,Je _ _ _ _ _ _,rfl,rfl,fun j hj=>absurd hj (I4 j)⟩) ?_;rintro⟨m,O2,w2,fv,ms,c5⟩ ⟨hm,b8,d9,hI⟩;dsimp only at hm b8 d9 hI ⊢;refine zh ?_;refine zC ?_ ?_
 ·intro c6;replace c6:m<37:=dT c6;have e4:=b4.upd a' b8;have e6:=a'.upd b8;have c1:w2.cell? ((nA sb 0).add 0)=some nv:=hI.blk.cell 0 rfl;refine zh ?_;refine vg Dc (nS) zk rfl d9 2000 zd rows.length rfl rfl zo zo zo zo rfl ?_;intro w3 O3 d' d5 d7 g0 g7;have e1:=hI.upd d7 zd zd zd;have e3:=e4.upd e6 d7;have c3:w3.cell? ((nA sb 0).add 0)=some nv:=e1.blk.cell 0 rfl;refine zh ?_;refine zlp (fun y:Nat×(Nat->Nat)×World×List ix=>[(0,nP sb),(2,nI (m:Nat)),(3,d'),(6,nI (m:Nat)),(20,nv),(21,nI vs.length),(22,nI y.1)]) (fun y=>y.2.2.1) (fun y=>y.1<=rows.length/\IK (fun q=>q=1\/q=5\/q=6\/2000<=q) O w y.2.1 y.2.2.1/\JG B y.2.1 y.2.2.1/\TuI y.2.1 y.2.2.1 sb nv tv fv bv sr tr many rows.length m (nxD rows) ms c5/\J1 yQ 22 1 y.2.1 y.2.2.1 2000 d' y.2.2.2/\y.2.2.2.length=rows.length/\∀t,t<rows.length->J1 aR 3 1 y.2.1 y.2.2.1 (3000+t) (nth y.2.2.2 t) (dI y.1 (fun x=>nxD rows x m) t)) (fun y=>rows.length-y.1) (0,O3,w3,IM rows.length (nS)) (⟨I0 _,b8.trans (d7.mono (fun _ h=>zo) zd),g0,e1,d5,by simp,fun t ht=>by rw[aC (by simpa using ht)];simp only[List.getElem_replicate];exact Je _ _ _ _ _ _⟩) ?_;rintro⟨i,O4,w4,bs⟩ ⟨hi,b7,d8,a8,a0,b1,a6⟩;dsimp only at hi b7 d8 a8 a0 b1 a6 ⊢;have c8:=b4.upd a' b7;refine zh ?_;refine zC ?_ ?_
  ·intro b2;replace b2:i<rows.length:=dT b2;obtain⟨d2,b0⟩:=c9 i b2;have d1:=d2.upd b0 b7;obtain⟨r1,r2⟩:=hr.row i b2;obtain⟨to,b5⟩:∃to,to=nxD rows i m:=⟨_,rfl⟩
   have c':to<rows.length:=by rw[b5];exact r2 m c6
   have m1:w4.cell? (adr nv 1 i)=some (nth vs i):=by have:=c8.cell (i:=i) (j:=0) zo rfl;rwa[ax]at this
   refine zh ?_;have k1:w4.drew.cell? (adr (nth vs i) 1 m)=some (nI (to:Int)):=by have:=d1.cell (i:=m) (j:=0) zo rfl;rw[ax]at this;rw[b5];exact this
   have g1:w4.drew.cell? (adr d' 1 to)=some (nth bs to):=by have:=a0.sl.cell (i:=to) (j:=0) zo rfl;rwa[ax]at this
   have f7:IK (fun _=>False) O4 w4 O4 w4.drew:=aa (fun h=>h) O4 (IF w4).drew;refine aK (fun W=>W.cell? (adr (nth vs i) 1 m)=some (nI (to:Int))) 17 rfl zk ?_;refine zrm 0 rfl k1 rfl ?_;refine zrm 1 rfl k1 rfl ?_;refine zrm 2 rfl k1 rfl ?_;refine zr 3 rfl k1 (fun _=>az d1.sh I6 (IS _) rfl rfl m rfl zo) ?_;refine zt 4 rfl k1 (fun w1 c7=>RV.ld c7 rfl) ?_;refine zrm 5 rfl k1 rfl ?_;refine zrm 6 rfl k1 rfl ?_;refine zrm 7 rfl k1 rfl ?_;refine zr 8 rfl k1 (fun _=>az d1.sh I6 (IS _) rfl rfl m rfl zo) ?_;refine zt 9 rfl k1 (fun w1 c7=>RV.ld c7 rfl) ?_;refine zr 10 rfl k1 (fun _=>az a0.sl.sh IR (JT _) rfl rfl to rfl zo) ?_;refine zrm 12 rfl k1 rfl ?_;refine bN 11 13 ke (enc:=aR) i rfl rfl zk zk zk zk (fun W hE=>Ke (hE.cell g1) (isAgg22 _) rfl) (fun W hE=>hE.cell k1) rfl rfl rfl zd rfl rfl rfl rfl rfl ?_;intro g3 w5 d0 g2;have f6:IK (fun _=>False) O4 w4.drew O4 w5:=aa (fun h=>h) O4 g2;have a4:=f7.trans f6;have g6:=AS i (fun x=>nxD rows x m) to;refine I9 14 zk rfl ?_;refine aB ke ((a6 to c').upd a4 zo (fun h=>h)) (d8.upd a4) d0 (by simp) rfl rfl (by simp) (by simp[I5]) (by rw[IJ];omega) (by rw[IJ];omega) zo rfl ?_;intro v6 w6 O6 e0 a5 f9
   have a7:IK (fun q=>q=1\/q=5\/q=6\/2000<=q) O w O6 w6:=(b7.trans (a4.mono (fun _ h=>h.elim) zd)).trans (a5.mono (fun _ h=>zo) zd);have k6:w6.cell? (adr (nth vs i) 1 m)=some (nI (to:Int)):=by have:=(d2.upd b0 a7).cell (i:=m) (j:=0) zo rfl;rw[ax]at this;rw[b5];exact this
   have d4:=(a0.upd a4 zd (fun h=>h)).upd a5 zd zo;refine zh ?_;refine af (k6) ?_;refine zr 15 rfl (k6) (fun _=>az a0.sl.sh IR (JT _) rfl rfl to rfl zo) ?_;refine I9 16 zk rfl ?_;refine JK d4 to zo v6 (JT _) e0.one zd rfl rfl rfl rfl ?_;intro w7 d3 b6;have b9:IK (fun q=>q=1\/q=5\/q=6\/2000<=q) O w O6 w7:=a7.trans (b6.mono (fun _ h=>zo) zd);have k7:w7.cell? (adr (nth vs i) 1 m)=some (nI (to:Int)):=by have:=(d2.upd b0 b9).cell (i:=m) (j:=0) zo rfl;rw[ax]at this;rw[b5];exact this
   refine zh ?_;refine af (k7) ?_
   refine Jd zk ?_;refine zh ?_
   refine zxd (i+1,O6,w7,bs.set to v6) (⟨b2,b9,f9.upd b6,((a8.upd a4 (fun h=>h) (fun h=>h) (fun h=>h)).upd a5 zo zo zo).upd b6 zd zd zd,d3,by dsimp only;rw[I7];exact b1,fun t ht=>?_⟩)
   ·dsimp only;rw[yl b2,aW zo,<-b5]
    by_cases e:t=to
    ·subst e;rw[if_pos rfl,if_pos rfl];exact e0.upd b6 zo zo
    rw[if_neg e,if_neg (fun h=>e h.symm),IN];exact(((a6 t ht).upd a4 zo (fun h=>h)).upd a5 zo zo).upd b6 zo zo
  intro e9;obtain rfl:i=rows.length:=dF e9;obtain⟨ba,bc,e',_⟩:=a0.sl.shape;subst e';have e7:=a8.len;have f4:w4.cell? (nA sb 2)=some fv:=a8.blk.cell 2 rfl;refine zh ?_;refine Kq F8 a8.row d8 ((.slice ba bs.length bc:ix)) (fun _=>rfl) rfl rfl rfl (by simp[I5]) zo zo zo zd rfl rfl ?_;intro b' w5 O5 a9 b3 f';have d6:=a8.blk.upd b3 zd zd;refine zh ?_;refine aj (j:=2) d6 rfl (sizeOf325 _) a9.one rfl rfl rfl ?_;have a5:IK (fun j=>j=1) O5 w5 O5 (w5.setCell ⟨sb,2,none⟩ b'):=Jn zd d6.tag rfl;have f3:Ju O5 (w5.setCell ⟨sb,2,none⟩ b') 1 sb #[nv,tv,b',bv,.map (some sr),.map (some tr),nI ((many:Nat):Int)] 327:=d6.set 2 _;generalize w5.setCell ⟨sb,2,none⟩ b'=w6 at *;have a7:IK (fun q=>q=1\/q=5\/q=6\/2000<=q) O w O5 w6:=(b7.trans (b3.mono (fun _ h=>zo) zd)).trans (a5.mono (fun _ h=>zo) zd);obtain⟨f,hf⟩:∃f:Nat->Nat,f=fun t=>if 2000<=t then 5 else t:=⟨_,rfl⟩
  have f2:∀t,t<2000->f t=t:=fun t ht=>by rw[hf];exact if_neg zo
  have f5:∀t,2000<=t->f t=5:=fun t ht=>by rw[hf];exact if_pos ht
  refine zh ?_;refine zxd (m+1,reF f O5,w6,b',ms++[.slice ba bs.length bc],c5++[bs]) (⟨c6,a7.re f (f2 0 zd) (fun b _=>f2 _ (hT b)),(f'.upd a5).re f (f2 0 zd),⟨f3.re f (f2 1 zd),(a9.upd a5 zd zd).re f (f2 6 zd),by simp[e7],by simp[a8.lenv],fun j hj=>?_⟩⟩)
  ·have e5:=a8.lenv;rw[aA,aA]
   by_cases e:j<m
   ·rw[if_pos zo,if_pos zo];obtain⟨a1,a2,a3⟩:=a8.at_ j e;exact⟨((a1.upd b3 zd zd).upd a5 zd zd).re f (f2 5 zd),a2,fun t ht=>(((a3 t ht).upd b3 zd zd).upd a5 zd zd).re f (f2 5 zd)⟩
   obtain rfl:j=m:=zo;rw[if_neg zo,if_neg zo,show j-ms.length=0 from by omega,show j-c5.length=0 from by omega,ao,ao];exact⟨((a0.upd b3 zd zd).upd a5 zd zd).re f (f5 _ zd),b1,fun t ht=>(((a6 t ht).upd b3 zo zo).upd a5 zo zo).re f (f5 _ zo)⟩
 intro e8;obtain rfl:m=37:=dF e8;refine zh ?_;refine aD rfl (⟨reF (DP 6 5) O2,fv,b8.re _ rfl (fun b _=>qm (f8 b)),d9.re _ rfl,hI.blk.re _ rfl,⟨ms,c5,hI.row.re _ rfl,hI.len,fun m hm=>⟨(hI.at_ m hm).1.re _ rfl,(hI.at_ m hm).2.1,fun t ht=>((hI.at_ m hm).2.2 t ht).re _ rfl⟩⟩⟩)
end Go.Proofs.YteolbhblkgjbhaaGreatDoor
end
namespace Go.VL
theorem Fits.look{N:Nat}{a:Ly}{st a0:St}(h:Fits N a st)(hs:∀t,cf a0 t=cf st t):Fits N a a0:=⟨h.size,h.defers,fun t v hv=>h.get t v ((hs t).symm.trans hv)⟩
theorem fg{d1 d2 d3:Nat}(v1 v2 v3:ix)(st:St)(a2:JD d1 d2=false)(a1:JD d1 d3=false)(a0:JD d2 d3=false)(t:Nat):
  (cf ((d3,v3)::(d2,v2)::(d1,v1)::st) t=cf ((d2,v2)::(d3,v3)::(d1,v1)::st) t)/\(cf ((d3,v3)::(d2,v2)::(d1,v1)::st) t=cf ((d3,v3)::(d1,v1)::(d2,v2)::st) t)/\
  (cf ((d3,v3)::(d2,v2)::(d1,v1)::st) t=cf ((d1,v1)::(d3,v3)::(d2,v2)::st) t)/\(cf ((d3,v3)::(d2,v2)::(d1,v1)::st) t=cf ((d2,v2)::(d1,v1)::(d3,v3)::st) t)/\(cf ((d3,v3)::(d2,v2)::(d1,v1)::st) t=cf ((d1,v1)::(d2,v2)::(d3,v3)::st) t):=by
 simp only[cf]
 cases h1:JD d1 t<;>cases h2:JD d2 t<;>cases h3:JD d3 t<;>simp only[cond_true,cond_false,and_self] <;>
  first
  |(have e1:=IY h1;have e2:=IY h2;subst e1;subst e2;rw[Ko]at a2;cases a2)
  |(have e1:=IY h1;have e2:=IY h3;subst e1;subst e2;rw[Ko]at a1;cases a1)
  |(have e1:=IY h2;have e2:=IY h3;subst e1;subst e2;rw[Ko]at a0;cases a0)
theorem Bu{P:JW}{N:Nat}{ops:Array Kz}{S:ln->Prop}{Q:KW->Ly->ln->Prop}{st:St}{w:ln}{a1:Nat}{a0:Array Bool}(i j k:Nat){o o' o2:Kz}(hr:IW .any ops a0=[i,j,k])(hi:ops[i]? = some o)(hj:ops[j]? = some o')(hk:ops[k]? = some o2) 
  (h:WL P N ops (qU P ops S Q a1 (a0.setIfInBounds i true)) [o] st w) (h':WL P N ops (qU P ops S Q a1 (a0.setIfInBounds j true)) [o'] st w) (h2:WL P N ops (qU P ops S Q a1 (a0.setIfInBounds k true)) [o2] st w):WH P N ops S Q (a1+1) a0 st w:=
 WH.all [i,j,k] hr (by simp) fun m hm q hq=>by
  simp only[IQ,List.not_mem_nil,or_false]at hm
  rcases hm with rfl|rfl|rfl
  ·rw[hi]at hq;cases hq;exact h
  ·rw[hj]at hq;cases hq;exact h'
  rw[hk]at hq;cases hq;exact h2
theorem yL{P:JW}{N:Nat}{ops:Array Kz}{S:ln->Prop}{Q:KW->Ly->ln->Prop}{st:St}{w:ln}{b9:Nat}{a0:Array Bool}{T E T2 T3:Jr}{a5:Nat}{x y:KG} 
  {t t2 t3:Jr} {p p2 p3:String} {e e2 e3:Array Lx} {d1 d2 d3:Nat} (i j k:Nat) (he:Lb P T E 1 a5) {α:Type} {val:α->ix} (z0:α) (b1:(P.info? E).bind (·.zero)=some (val z0)) (h1:∀a,(val a).oneCell'=true)
  {κ ν κ' ν':Type} (kv:κ->ix) (vv:ν->ix) (a8:κ'->ix) (a6:ν'->ix) {B:Nat} {O:Nat->Nat} (r:JG B O w) (g1 g2 g3:Nat) (a3:g1≠0) (a2:g2≠0) (a1:g3≠0) (b0:g1≠g2) (a':g1≠g3) (a9:g2≠g3) (n:Nat)
  (hi:ops[i]? = some ⟨some d1,.makeSlice T x y,t,p,e,none⟩) (hj:ops[j]? = some ⟨some d2,.makeMap T2 none,t2,p2,e2,none⟩) (hk:ops[k]? = some ⟨some d3,.makeMap T3 none,t3,p3,e3,none⟩)
  (hr:IW .any ops a0=[i,j,k]) (d5:IW .any ops (a0.setIfInBounds i true)=[j,k]) (d4:IW .any ops (a0.setIfInBounds j true)=[i,k]) (d0:IW .any ops (a0.setIfInBounds k true)=[i,j])
  (b4:IW .any ops ((a0.setIfInBounds i true).setIfInBounds j true)=[k]) (b3:IW .any ops ((a0.setIfInBounds i true).setIfInBounds k true)=[j]) (b2:IW .any ops ((a0.setIfInBounds j true).setIfInBounds k true)=[i])
  (c':(a0.setIfInBounds j true).setIfInBounds i true=(a0.setIfInBounds i true).setIfInBounds j true) (c9:(a0.setIfInBounds k true).setIfInBounds i true=(a0.setIfInBounds i true).setIfInBounds k true) (c8:(a0.setIfInBounds k true).setIfInBounds j true=(a0.setIfInBounds j true).setIfInBounds k true)
  (q1:((a0.setIfInBounds i true).setIfInBounds k true).setIfInBounds j true=((a0.setIfInBounds i true).setIfInBounds j true).setIfInBounds k true) (q2:((a0.setIfInBounds j true).setIfInBounds k true).setIfInBounds i true=((a0.setIfInBounds i true).setIfInBounds j true).setIfInBounds k true)
  (hS:∀O' W,IK (fun q=>q=g1\/q=g2\/q=g3) O w O' W->S W) {m:Int} (hx:∀l,evs ((d2,l)::st) [x,y]=some [nI m,nI m]/\evs ((d3,l)::st) [x,y]=some [nI m,nI m]/\evs st [x,y]=some [nI m,nI m]/\(∀l',evs ((d3,l')::(d2,l)::st) [x,y]=some [nI m,nI m])/\∀l',evs ((d2,l')::(d3,l)::st) [x,y]=some [nI m,nI m])
  (hm:m=n) (hb:a5*n<=281474976710656) (b8:n<=9223372036854775807) (b7:JJ d1 N=true) (b6:JJ d2 N=true) (b5:JJ d3 N=true) (c6:JD d1 d2=false) (c5:JD d1 d3=false) (b':JD d2 d3=false)
  (h:∀bv sr tr W O',J1 (fun x=>[val x]) E 1 O' W g1 bv (IM n z0)->Jg kv vv O' W g2 sr []->Jg a8 a6 O' W g3 tr []->IK (fun q=>q=g1\/q=g2\/q=g3) O w O' W->JG B O' W->
   WH P N ops S Q b9 (((a0.setIfInBounds i true).setIfInBounds j true).setIfInBounds k true) ((d3,.map (some tr))::(d2,.map (some sr))::(d1,bv)::st) W):WH P N ops S Q (b9+3) a0 st w:=by
 have two:∀ {a7:St} {m:Int},evs a7 [x,y]=some [nI m,nI m]->ev a7 x=some (nI m)/\ev a7 y=some (nI m):=fun {a7 m} h=>by
  simp only[evs]at h
  cases h1:ev a7 x<;>cases h2:ev a7 y<;>rw[h1,h2]at h<;>simp at h ⊢
  exact h
 have c7:¬(fun q=>q=g1\/q=g2\/q=g3) 0:=by rintro(h|h|h)<;>omega
 have o1:∀ {O O':Nat->Nat} {w w':ln},IK (fun q=>q=g1) O w O' w'->IK (fun q=>q=g1\/q=g2\/q=g3) O w O' w':=fun h=>h.mono (fun _ h=>.inl h) c7
 have o2:∀ {O O':Nat->Nat} {w w':ln},IK (fun q=>q=g2) O w O' w'->IK (fun q=>q=g1\/q=g2\/q=g3) O w O' w':=fun h=>h.mono (fun _ h=>.inr (.inl h)) c7
 have o3:∀ {O O':Nat->Nat} {w w':ln},IK (fun q=>q=g3) O w O' w'->IK (fun q=>q=g1\/q=g2\/q=g3) O w O' w':=fun h=>h.mono (fun _ h=>.inr (.inr h)) c7
 refine Bu i j k hr hi hj hk ?_ ?_ ?_
 ·refine cW he z0 b1 h1 r g1 a3 n (two ((hx default).2.2.1)).1 (two ((hx default).2.2.1)).2 hm hm hb b8 b7 fun wr Or vr _ fr ur rr _=>I3 (af (hS Or wr (o1 ur)) ?_)
  refine bZ j k d5 hj hk ?_ ?_
  ·refine aZ kv vv rr g2 a2 b6 fun va wa Oa fa ua ra=>I3 (af (hS Oa wa ((o1 ur).trans (o2 ua))) ?_)
   refine I9 k b4 hk ?_;refine aZ a8 a6 ra g3 a1 b5 fun vb wb Ob fb ub rb=>I3 (af (hS Ob wb (((o1 ur).trans (o2 ua)).trans (o3 ub))) ?_)
   exact h vr va vb wb Ob ((fr.upd ua a3 b0).upd ub a3 a') (fa.upd ub a2 a9) fb (((o1 ur).trans (o2 ua)).trans (o3 ub)) rb
  refine aZ a8 a6 rr g3 a1 b5 fun vb wb Ob fb ub rb=>I3 (af (hS Ob wb ((o1 ur).trans (o3 ub))) ?_)
  refine I9 j b3 hj ?_;refine aZ kv vv rb g2 a2 b6 fun va wa Oa fa ua ra=>I3 (af (hS Oa wa (((o1 ur).trans (o3 ub)).trans (o2 ua))) ?_)
  exact by rw[q1];exact fun ac a4=>h vr va vb wa Oa ((fr.upd ub a3 a').upd ua a3 b0) fa (fb.upd ua a1 (fun h=>a9 h.symm)) (((o1 ur).trans (o3 ub)).trans (o2 ua)) ra ac (a4.look fun t=>(fg vr (.map (some va)) (.map (some vb)) st c6 c5 b' t).1)
 ·refine aZ kv vv r g2 a2 b6 fun va wa Oa fa ua ra=>I3 (af (hS Oa wa (o2 ua)) ?_)
  refine bZ i k d4 hi hk ?_ ?_
  ·refine cW he z0 b1 h1 ra g1 a3 n (two ((hx _).1)).1 (two ((hx _).1)).2 hm hm hb b8 b7 fun wr Or vr _ fr ur rr _=>I3 (af (hS Or wr ((o2 ua).trans (o1 ur))) ?_)
   refine I9 k (by rw[c'];exact b4) hk ?_;refine aZ a8 a6 rr g3 a1 b5 fun vb wb Ob fb ub rb=>I3 (af (hS Ob wb (((o2 ua).trans (o1 ur)).trans (o3 ub))) ?_)
   exact by rw[c'];exact fun ac a4=>h vr va vb wb Ob (fr.upd ub a3 a') ((fa.upd ur a2 (fun h=>b0 h.symm)).upd ub a2 a9) fb (((o2 ua).trans (o1 ur)).trans (o3 ub)) rb ac (a4.look fun t=>(fg vr (.map (some va)) (.map (some vb)) st c6 c5 b' t).2.1)
  refine aZ a8 a6 ra g3 a1 b5 fun vb wb Ob fb ub rb=>I3 (af (hS Ob wb ((o2 ua).trans (o3 ub))) ?_)
  refine I9 i b2 hi ?_;refine cW he z0 b1 h1 rb g1 a3 n (two ((hx _).2.2.2.1 _)).1 (two ((hx _).2.2.2.1 _)).2 hm hm hb b8 b7 fun wr Or vr _ fr ur rr _=>I3 (af (hS Or wr (((o2 ua).trans (o3 ub)).trans (o1 ur))) ?_)
  exact by rw[q2];exact fun ac a4=>h vr va vb wr Or fr ((fa.upd ub a2 a9).upd ur a2 (fun h=>b0 h.symm)) (fb.upd ur a1 (fun h=>a' h.symm)) (((o2 ua).trans (o3 ub)).trans (o1 ur)) rr ac (a4.look fun t=>(fg vr (.map (some va)) (.map (some vb)) st c6 c5 b' t).2.2.1)
 refine aZ a8 a6 r g3 a1 b5 fun vb wb Ob fb ub rb=>I3 (af (hS Ob wb (o3 ub)) ?_)
 refine bZ i j d0 hi hj ?_ ?_
 ·refine cW he z0 b1 h1 rb g1 a3 n (two ((hx _).2.1)).1 (two ((hx _).2.1)).2 hm hm hb b8 b7 fun wr Or vr _ fr ur rr _=>I3 (af (hS Or wr ((o3 ub).trans (o1 ur))) ?_)
  refine I9 j (by rw[c9];exact b3) hj ?_;refine aZ kv vv rr g2 a2 b6 fun va wa Oa fa ua ra=>I3 (af (hS Oa wa (((o3 ub).trans (o1 ur)).trans (o2 ua))) ?_)
  exact by rw[c9,q1];exact fun ac a4=>h vr va vb wa Oa (fr.upd ua a3 b0) fa ((fb.upd ur a1 (fun h=>a' h.symm)).upd ua a1 (fun h=>a9 h.symm)) (((o3 ub).trans (o1 ur)).trans (o2 ua)) ra ac (a4.look fun t=>(fg vr (.map (some va)) (.map (some vb)) st c6 c5 b' t).2.2.2.1)
 refine aZ kv vv rb g2 a2 b6 fun va wa Oa fa ua ra=>I3 (af (hS Oa wa ((o3 ub).trans (o2 ua))) ?_)
 refine I9 i (by rw[c8];exact b2) hi ?_;refine cW he z0 b1 h1 ra g1 a3 n (two ((hx _).2.2.2.2 _)).1 (two ((hx _).2.2.2.2 _)).2 hm hm hb b8 b7 fun wr Or vr _ fr ur rr _=>I3 (af (hS Or wr (((o3 ub).trans (o2 ua)).trans (o1 ur))) ?_)
 exact by rw[c8,q2];exact fun ac a4=>h vr va vb wr Or fr (fa.upd ur a2 (fun h=>b0 h.symm)) ((fb.upd ua a1 (fun h=>a9 h.symm)).upd ur a1 (fun h=>a' h.symm)) (((o3 ub).trans (o2 ua)).trans (o1 ur)) rr ac (a4.look fun t=>(fg vr (.map (some va)) (.map (some vb)) st c6 c5 b' t).2.2.2.2)
theorem xz{P:JW}{N:Nat}{ops:Array Kz}{S:ln->Prop}{Q:KW->Ly->ln->Prop}{st:St}{w:ln}{a3:Nat}{a1:Array Bool}{α:Type}(f:α->St)(g:α->ln)(I:α->Prop)(a0:Array Bool)(a2:Nat) 
 (h1:(∀x,I x->WH P N ops S Q a2 a0 (f x) (g x))->WH P N ops S Q a3 a1 st w) (h2:∀x,I x->WH P N ops S Q a2 a0 (f x) (g x)):WH P N ops S Q a3 a1 st w:=h1 h2
theorem WH.leaf{P:JW}{N:Nat}{ops:Array Kz}{S:ln->Prop}{Q:KW->Ly->ln->Prop}{st a3:St}{w w':ln}{a2:Nat}{a1 a0:Array Bool}(h:WH P N ops S Q a2 a0 a3 w')(hl:a1=a0)(hc:Cov st a3)(hw:w'=w):WH P N ops S Q a2 a1 st w:=by
 subst hl;subst hw;exact fun a ha=>h a (ha.cov hc)
end Go.VL
