/- Texts that the proof of this statement needs, merged and shortened. -/
import Derived.Test.YtcfhbfflgnbacaaGreatDoorQTableMakes6
set_option linter.defProp false
open And renaming intro->ix
open Nat renaming lt_succ_iff_lt_or_eq->ka,zero_le->Ll,not_lt_zero->Lo,le_refl->Lz,sub_self->M8,zero_add->NA
open Bool renaming and_eq_true->ln,or_eq_false_iff->M4,not_eq_true'->M7,eq_iff_iff->ME,and_false->MG,and_eq_false_iff->N1,not_eq_false'->N8,or_eq_true->Nr,false_or->Nu
open Go.VL.Ext renaming refl->L3
open List renaming mem_singleton->Li,getElem_append_right->Lk,getElem_append_left->Lm,getElem_cons_zero->Lr,mem_cons->Ls,all_cons->LN,pairwise_cons->M6,mem_append->Mq,toArray_inj->MA,map_append->MD,length_cons->MM,getElem?_append_right->MR,range->N7,take_length->Nf,not_mem_nil->Ng,getElem_mem->Nh,all_eq_true->Ni,length_map->Nq,mem_map->Nx
open Go.VL.BlkO renaming U->Lj
open Go.VL.WH renaming one->Ln,done->Mz,two->Na
open Go.Proofs.Tryz renaming sizeOf47->Lp,isAgg47->LL,underlying23->LU,sizeOf52->M0,sizeOf49->Mr,sizeOf35->Ms,underlying67->Mu,zeroValue52->MB,underlying31->MH,isAgg52->MI,sizeOf41->MQ,prog->MT,zeroValue41->MU,zeroValue35->MV,isAgg35->MX,call29->MY,call27->MZ,zeroValue77->Nj,zeroValue75->Nk,sizeOf75->Nl,sizeOf39->Nm,sizeOf73->NB,sizeOf25->NC,underlying49->NI,underlying26->NJ,sizeOf4->NK,isAgg41->NL,isAgg25->NM,call19->NQ,call16->NR
open Go.VL.Upd renaming setRow->Lq,set->MJ,J->NG
open Go renaming World->Lu,Value->LK
open Go.VL.RV renaming move->Ly,indexAddr->M1,assign->Mt,fieldAddr->MK,extract->MW,add->N5,len->Nb,eql->Nc,build->Nv,load->NW
open Go.VL.Ret renaming enter->LD
open Go.VL renaming Ext->M5,Upd->MF,BlkO->N2,Ret->Nz,RowT->NV
open Go.VL.WC renaming region->M9,seq->MP,still->NO,skip->NU
open Go.Value.tuple renaming injEq->Mp
open Go.Value.int renaming injEq->Mv
open Go.Value.agg renaming injEq->Mw
open List.cons renaming injEq->My,inj->NN
open Array.mk renaming injEq->MC
open Classical renaming byContradiction->MN
open Go.VL.WL renaming nil->MO,push->NT
open Go.VL.Fit renaming i64->MS
open Go.Proofs.YtcfhbfflgnbacaaGreatDoor renaming PostC->N0,RightD->ND,PartV->NF
open Go.VL.RowT renaming nil->N4,U->NH
open Int renaming le_refl->N6
open Go.VL.WS renaming nil->N9
open Go.Value renaming oneCell'->Nn
open Go.Proofs.YtcfhbfflgnbacaaGreatDoor.Nd renaming kind->No,kids->Np,cls->Nw
open Go.Addr renaming add->Ns,add_add->Ny
open Go.VL.Rng renaming U->NP
open Go.VL.WQ renaming call->NS
set_option maxRecDepth 10000
open Go.VL Go.Proofs Go.Proofs.Tryz
variable {wi:Bool}{c k:Int}{v:LK}{li lk:List Int}{w:Lu}{B:Nat}
namespace Go.Proofs.YtcfhbfflgnbacaaGreatDoor
structure St where
 ts:List R3
 li:List Int
 lk:List Int
 hi:Bool
 hk:Bool
inductive TK where
 |ok (st:St)
 |bad (p:Nat) (e:Int)
def mW:∀(n:Nat),n<=1000000->∀(t:Nd),nsz t<=n->∀(B:Nat) (O:Nat->Nat) (x:N3) (w:Lu),Rng B O w->Nt (λ_=>0) w t x->Nz MT 27 [nv x] w λv w'=>∃y,v=nv y/\Nt O w' t y/\M5 w w'
 |0,_,t,hn=>by have:=da t;omega
 |n+1,b9,.mk k c kids,hn=>by
  intro B O x w hR h;obtain⟨T,j3,hT⟩:=hR.bound;have b3:∀b,¬T<=O b:=λb=>by have:=hT b;omega
  obtain⟨xs,hs,hf,hl,hk⟩:=h.kids;simp only[Np]at hl hk;obtain⟨x0,x1,sv⟩:=x;obtain rfl:k=x0:=(congrArg Prod.fst h.ones).symm;obtain rfl:c=x1:=(congrArg (λq:N3=>q.2.1) h.ones).symm;dsimp only at hs hf;have j2:=du kids;simp only[nsz]at hn;have a':¬(λq:Nat=>T<=q) 0:=λe=>zo
  apply LD func27 ntmps27 rfl rfl;refine zh ?_
  apply aI hR (T+1) zo rfl rfl;intro nb w1 O1 h9 i5 i9 j6;apply au i9 T zo (Nk _) rfl
  intro xb w2 O2 h5 h1 i8 j5;have g4:=h9.U h1 zo zo;have n0:w2.cell? (nA nb 0)=some (nI k):=g4.cell 0 rfl;have n1:w2.cell? (nA nb 1)=some (nI c):=g4.cell 1 rfl;refine zh ?_;apply zv (aH Ab (Nk _) rfl (by first|rfl|(simp only[LN,List.all_nil];rfl)) rfl rfl);apply au i8 (T+2) zo (Nk _) rfl;intro ob w3 O3 g2 i4 i7 j4;apply zsa (us:=#[nI k,nI c,nS]) g2 (Nl _);have h7:=g2.setRow (us:=#[nI k,nI c,nS]);have h0:MF (λq=>q=T+2) O3 w3 O3 (w3.setRow ob #[nI k,nI c,nS]):=Lq zo g2.tag rfl;have d7:=i4.J h0;have i6:=i7.U h0;have h8:=g4.U d7 zo zo;have h4:=h5.U d7 zo zo;have g5:MF (λq=>T<=q) O w O3 _:=((i5.mono (λ_ h=>by rw[h];omega) a').J (h1.mono (λ_ h=>by rw[h];omega) a')).J (d7.mono (λ_ h=>by rw[h];omega) a');generalize w3.setRow ob #[nI k,nI c,nS]=w4 at *;refine zh ?_
  apply zlp (λy:Nat×(Nat->Nat)×World×LK×List N3=>[(1,nP nb),(2,nP xb),(3,nP ob),(4,nI y.1)]) (λy=>y.2.2.1) (λy=>y.1<=xs.length/\N2 y.2.1 y.2.2.1 (T+1) nb #[nI k,nI c,sv] 47/\N2 y.2.1 y.2.2.1 T xb #[nI 0,nI 0,nS] 75/\N2 y.2.1 y.2.2.1 (T+2) ob #[nI k,nI c,y.2.2.2.1] 75/\NV aY 75 3 y.2.1 y.2.2.1 (T+3) y.2.2.2.1 y.2.2.2.2/\y.2.2.2.2.length=y.1/\(∀m,m<y.1->Nt y.2.1 y.2.2.1 (nth kids m) (nth y.2.2.2.2 m))/\MF (λq=>T<=q) O w y.2.1 y.2.2.1/\Rng B y.2.1 y.2.2.1) (λy=>xs.length-y.1) (0,O3,w4,nS,[]) ⟨Ll _,h8,h4,h7,N4 _ _ _ _ _ _,rfl,λm hm=>absurd hm (Lo m),g5,i6⟩;rintro⟨i,O1',d',lv,zs⟩ ⟨hi,d3,b6,d2,b2,d1,g0,b',d9⟩;dsimp only at hi d3 b6 d2 b2 d1 g0 b' d9 ⊢;have g8:=aD b' b3;have j0:=hs.ext g8;have c2:d'.cell? (nA nb 2)=some sv:=d3.cell 2 rfl;refine zh ?_
  refine zC ?_ ?_
  ·intro d4;replace d4:i<xs.length:=dT d4;have g':=hk i d4;have i':=g'.one;have j1:=bK kids i zo;have g3:=d3.drew;have g9:=b6.drew;have g1:=d2.drew;have c6:=b2.drew;have g6:=d9.drew;have e3:∀m,m<i->Nt O1' d'.drew (nth kids m) (nth zs m):=λm hm=>(g0 m hm).drew
   have d5:=b'.drew;have h2:=aD d5 b3;have d8:=ix (g3.cell 2 rfl) h2;refine zh ?_;apply aN (λW=>W.cell? ⟨nb,2,none⟩=some sv/\M5 w W) 12 rfl zk;apply zrf 0 rfl d8 rfl;apply zrf 2 rfl d8 rfl;apply zt 3 rfl d8 (λw1 e6=>RV.ld e6.1 rfl);apply zrm 4 rfl d8 rfl;apply zt 5 rfl d8 (λw1 e6=>M1 (by first|exact hs.ext e6.2) underlying45 (Lp _) rfl rfl _ rfl zo);apply zt 6 rfl d8 (λw1 e6=>ah (us:=aY (nth xs i)) (λj u hu=>(hs.ext e6.2).cell d4 hu) (LL _) (Lp _) rfl);generalize d'.drew=wD at *;have i3:wD.cell? (nA ob 2)=some lv:=g1.cell 2 rfl;have c':=mW n zo (nth kids i) zo B O1' (nth xs i) wD g6 (g'.ext h2);refine Na 1 7 zk rfl rfl ?_ ?_
   ·refine zvH (RV.ld i3 rfl) ?_;apply ae d8
    apply Ln 7 zk rfl;apply zc MZ c'
    rintro v w5 ⟨z,rfl,f6,g7⟩;have b0:MF (λ_=>False) O1' wD O1' w5:=aa (λh=>h) O1' g7;have e1:=Lj g3 b0 zo (λh=>h);have f7:=Lj g9 b0 zo (λh=>h);have e9:=Lj g1 b0 zo (λh=>h);have b1:=NH c6 b0 zo (λh=>h);have f':=NP g6 b0;have b8:∀m,m<i->Nt O1' w5 (nth kids m) (nth zs m):=λm hm=>(e3 m hm).U b0
    have b4:=NG d5 (b0.mono (λ_ h=>h.elim) a');have f9:=ix (e1.cell 2 rfl) (aD b4 b3);refine zh ?_;apply ae f9;apply Ln 8 zk rfl;apply aQ elN (enc:=aY) z rfl rfl rfl zd rfl;intro w6 h6 f5;have a1:MF (λ_=>False) O1' w5 O1' w6:=aa (λh=>h) O1' f5;have b9:=e1.U a1 zo (λh=>h);have e5:=f7.U a1 zo (λh=>h);have e0:=e9.U a1 zo (λh=>h);have a5:=b1.U a1 zo (λh=>h);have f4:=f'.U a1;have b5:∀m,m<i->Nt O1' w6 (nth kids m) (nth zs m):=λm hm=>(b8 m hm).U a1
    have c5:=f6.U a1;have a9:=b4.J (a1.mono (λ_ h=>h.elim) a');have e2:=ix (b9.cell 2 rfl) (aD a9 b3);refine zh ?_;apply ae e2;have a6:∀u∈[z],∀c∈aY u,c.oneCell'=true:=λu hu=>by
     rw[Li.1 hu];exact gD c5.one
    apply Ln 9 zk rfl;apply aC elN a5 f4 h6 (by simp) rfl rfl (λ_ _=>rfl) a6 (by simp;omega) (by simp;omega) zo rfl
    intro a3 w7 O7 a0 a4 f3;have e7:=a0.one;have c9:=Lj b9 a4 zo zo;have b7:=Lj e0 a4 zo zo;have e4:=Lj e5 a4 zo zo;have a8:=a9.J (a4.mono (λ_ h=>by rw[h];omega) a');have d0:=ix (c9.cell 2 rfl) (aD a8 b3);refine zh ?_;apply ae d0;apply zrf 10 rfl d0 rfl;apply Ln 11 zk rfl;apply aj (j:=2) b7 rfl (NB _) e7 rfl rfl rfl;have e8:N2 O7 (w7.setCell ⟨ob,2,none⟩ a3) (T+2) ob #[nI k,nI c,a3] 75:=b7.set 2 a3;have a2:MF (λq=>q=T+2) O7 w7 O7 (w7.setCell ⟨ob,2,none⟩ a3):=MJ zo b7.tag rfl;have c8:=c9.U a2 zo zo;have a7:=a8.J (a2.mono (λ_ h=>by rw[h];omega) a');have e':=ix (c8.cell 2 rfl) (aD a7 b3);refine zh ?_;apply ae e';apply Mz zk;refine zh ?_;refine zxd (i+1,O7,(w7.setCell ⟨ob,2,none⟩ a3),a3,zs++[z]) ⟨d4,c8,e4.U a2 zo zo,e8,a0.U a2 zo zo,by simp[d1],λm hm=>?_,a7,f3.U a2⟩;dsimp only at hm ⊢
    by_cases e:m<i
    ·rw[aB (xs:=zs++[z]) (by simp;omega),Lm zo,<-aB zo];exact((b5 m e).U a4).U a2
    obtain rfl:m=zs.length:=zo;rw[aB (xs:=zs++[z]) (by simp),Lk zo];simp only[M8,Lr];rw[d1];exact(c5.U a4).U a2
   apply zc MZ c';rintro v w5 ⟨z,rfl,f6,g7⟩;have b0:MF (λ_=>False) O1' wD O1' w5:=aa (λh=>h) O1' g7;have e1:=Lj g3 b0 zo (λh=>h);have f7:=Lj g9 b0 zo (λh=>h);have e9:=Lj g1 b0 zo (λh=>h);have b1:=NH c6 b0 zo (λh=>h);have f':=NP g6 b0;have b8:∀m,m<i->Nt O1' w5 (nth kids m) (nth zs m):=λm hm=>(e3 m hm).U b0
   have b4:=NG d5 (b0.mono (λ_ h=>h.elim) a');have f9:=ix (e1.cell 2 rfl) (aD b4 b3);refine zh ?_;apply ae f9;have i2:w5.cell? (nA ob 2)=some lv:=e9.cell 2 rfl;refine Na 1 8 zk rfl rfl ?_ ?_
   ·refine zvH (RV.ld i2 rfl) ?_;apply ae f9
    apply Ln 8 zk rfl;apply aQ elN (enc:=aY) z rfl rfl rfl zd rfl
    intro w6 h6 f5;have a1:MF (λ_=>False) O1' w5 O1' w6:=aa (λh=>h) O1' f5;have b9:=e1.U a1 zo (λh=>h);have e5:=f7.U a1 zo (λh=>h);have e0:=e9.U a1 zo (λh=>h);have a5:=b1.U a1 zo (λh=>h);have f4:=f'.U a1;have b5:∀m,m<i->Nt O1' w6 (nth kids m) (nth zs m):=λm hm=>(b8 m hm).U a1
    have c5:=f6.U a1;have a9:=b4.J (a1.mono (λ_ h=>h.elim) a');have e2:=ix (b9.cell 2 rfl) (aD a9 b3);refine zh ?_;apply ae e2;have a6:∀u∈[z],∀c∈aY u,c.oneCell'=true:=λu hu=>by
     rw[Li.1 hu];exact gD c5.one
    apply Ln 9 zk rfl;apply aC elN a5 f4 h6 (by simp) rfl rfl (λ_ _=>rfl) a6 (by simp;omega) (by simp;omega) zo rfl
    intro a3 w7 O7 a0 a4 f3;have e7:=a0.one;have c9:=Lj b9 a4 zo zo;have b7:=Lj e0 a4 zo zo;have e4:=Lj e5 a4 zo zo;have a8:=a9.J (a4.mono (λ_ h=>by rw[h];omega) a');have d0:=ix (c9.cell 2 rfl) (aD a8 b3);refine zh ?_;apply ae d0;apply zrf 10 rfl d0 rfl;apply Ln 11 zk rfl;apply aj (j:=2) b7 rfl (NB _) e7 rfl rfl rfl;have e8:N2 O7 (w7.setCell ⟨ob,2,none⟩ a3) (T+2) ob #[nI k,nI c,a3] 75:=b7.set 2 a3;have a2:MF (λq=>q=T+2) O7 w7 O7 (w7.setCell ⟨ob,2,none⟩ a3):=MJ zo b7.tag rfl;have c8:=c9.U a2 zo zo;have a7:=a8.J (a2.mono (λ_ h=>by rw[h];omega) a');have e':=ix (c8.cell 2 rfl) (aD a7 b3);refine zh ?_;apply ae e';apply Mz zk;refine zh ?_;refine zxd (i+1,O7,(w7.setCell ⟨ob,2,none⟩ a3),a3,zs++[z]) ⟨d4,c8,e4.U a2 zo zo,e8,a0.U a2 zo zo,by simp[d1],λm hm=>?_,a7,f3.U a2⟩;dsimp only at hm ⊢
    by_cases e:m<i
    ·rw[aB (xs:=zs++[z]) (by simp;omega),Lm zo,<-aB zo];exact((b5 m e).U a4).U a2
    obtain rfl:m=zs.length:=zo;rw[aB (xs:=zs++[z]) (by simp),Lk zo];simp only[M8,Lr];rw[d1];exact(c5.U a4).U a2
   apply aQ elN (enc:=aY) z rfl rfl rfl zd rfl;intro w6 h6 f5;have a1:MF (λ_=>False) O1' w5 O1' w6:=aa (λh=>h) O1' f5;have b9:=e1.U a1 zo (λh=>h);have e5:=f7.U a1 zo (λh=>h);have e0:=e9.U a1 zo (λh=>h);have a5:=b1.U a1 zo (λh=>h);have f4:=f'.U a1;have b5:∀m,m<i->Nt O1' w6 (nth kids m) (nth zs m):=λm hm=>(b8 m hm).U a1
   have c5:=f6.U a1;have a9:=b4.J (a1.mono (λ_ h=>h.elim) a');have e2:=ix (b9.cell 2 rfl) (aD a9 b3);refine zh ?_;apply ae e2;have i1:w6.cell? (nA ob 2)=some lv:=e0.cell 2 rfl;apply Ln 1 zk rfl;refine zvH (RV.ld i1 rfl) ?_;apply ae e2;have a6:∀u∈[z],∀c∈aY u,c.oneCell'=true:=λu hu=>by
    rw[Li.1 hu];exact gD c5.one
   apply Ln 9 zk rfl;apply aC elN a5 f4 h6 (by simp) rfl rfl (λ_ _=>rfl) a6 (by simp;omega) (by simp;omega) zo rfl
   intro a3 w7 O7 a0 a4 f3;have e7:=a0.one;have c9:=Lj b9 a4 zo zo;have b7:=Lj e0 a4 zo zo;have e4:=Lj e5 a4 zo zo;have a8:=a9.J (a4.mono (λ_ h=>by rw[h];omega) a');have d0:=ix (c9.cell 2 rfl) (aD a8 b3);refine zh ?_;apply ae d0;apply zrf 10 rfl d0 rfl;apply Ln 11 zk rfl;apply aj (j:=2) b7 rfl (NB _) e7 rfl rfl rfl;have e8:N2 O7 (w7.setCell ⟨ob,2,none⟩ a3) (T+2) ob #[nI k,nI c,a3] 75:=b7.set 2 a3;have a2:MF (λq=>q=T+2) O7 w7 O7 (w7.setCell ⟨ob,2,none⟩ a3):=MJ zo b7.tag rfl;have c8:=c9.U a2 zo zo;have a7:=a8.J (a2.mono (λ_ h=>by rw[h];omega) a');have e':=ix (c8.cell 2 rfl) (aD a7 b3);refine zh ?_;apply ae e';apply Mz zk;refine zh ?_;refine zxd (i+1,O7,(w7.setCell ⟨ob,2,none⟩ a3),a3,zs++[z]) ⟨d4,c8,e4.U a2 zo zo,e8,a0.U a2 zo zo,by simp[d1],λm hm=>?_,a7,f3.U a2⟩;dsimp only at hm ⊢
   by_cases e:m<i
   ·rw[aB (xs:=zs++[z]) (by simp;omega),Lm zo,<-aB zo];exact((b5 m e).U a4).U a2
   obtain rfl:m=zs.length:=zo;rw[aB (xs:=zs++[z]) (by simp),Lk zo];simp only[M8,Lr];rw[d1];exact(c5.U a4).U a2
  intro i0;obtain rfl:i=xs.length:=dF i0;have h':=b2.one;refine zh ?_;apply zv (ah (us:=aY ((k,c,lv):N3)) d2.V (isAgg75 _) (Nl _) rfl);apply zsb (us:=#[nI k,nI c,lv]) b6 (Nl _) (cH (x:=(k,c,lv)) h');have h3:=b6.setRow (us:=#[nI k,nI c,lv]);have f8:MF (λq=>q=T) O1' d' O1' (d'.setRow xb #[nI k,nI c,lv]):=Lq zo b6.tag rfl;have c7:=b2.U f8 zo zo;have d6:=b'.J (f8.mono (λ_ h=>by rw[h];omega) a');have hN:Nt O (d'.setRow xb #[nI k,nI c,lv]) (.mk k c kids) (k,c,lv):=
   .mk c7.sl (c7.freeT zo (λb=>by have:=hT b;omega) (d9.U f8) d6) zo (λm hm=>((g0 m zo).U f8).low d6)
  refine zh ?_;refine aO rfl rfl h3.V (isAgg75 _) (Nl _) ⟨(k,c,lv),rfl,hN,aD d6 b3⟩
def RulesO(O:Nat->Nat)(w:Lu)(rv:LK)(ts:List R3):Prop:=∃zs,Sl cB 7 w rv zs/\Free O w rv/\ts.length=zs.length/\∀i,i<zs.length->Rt O w (nth ts i) (nth zs i)
def IF(li lk:List Int)(ts:List R3)(xs:List X3)(ig kp ru:LK)(B:Nat)(O:Nat->Nat)(w:Lu)(i':Rng B O w)(h1:Sl encI 1 w ig li)(h2:Sl encI 1 w kp lk)(h3:Sl cB 7 w ru xs)(h4:ts.length=xs.length)(h5:∀i,i<xs.length->Rt (λ_=>0) w (nth ts i) (nth xs i))(hf:Few li lk ts):Nz MT 7 [zP ig kp ru] w λu w'=>∃rv,u=zP ig kp rv/\RulesO O w' rv ts/\M5 w w':=by
 obtain⟨f1,f2,f3,f4⟩:=hf;have o1:=h1.one;have o2:=h2.one;have o3:=h3.one;obtain⟨T,k8,hT⟩:=i'.bound;have b5:∀b,¬T<=O b:=λb=>by have:=hT b;omega
 have b2:¬(λq:Nat=>T<=q) 0:=λe=>zo
 apply LD func7 ntmps7 rfl rfl;refine zh ?_
 apply aI i' T zo rfl rfl;intro nb w1 O1 j6 k1 k5 l0;apply au k5 (T+1) zo (MU _) rfl
 intro xb w2 O2 j2 i9 k4 k';have i2:=j6.U i9 zo zo;have n0:w2.cell? (nA nb 0)=some ig:=i2.cell 0 rfl;have n1:w2.cell? (nA nb 1)=some kp:=i2.cell 1 rfl;refine zh ?_;apply zv (aH K5 (MU _) rfl (by simp only[LN,o1,o2];rfl) rfl rfl);apply au k4 (T+2) zo (MU _) rfl;intro ob w3 O3 i0 k0 k3 k9;apply zsb (us:=#[ig,kp,nS]) i0 (MQ _) (by simp only[LN,o1,o2];rfl);have j4:=i0.setRow (us:=#[ig,kp,nS]);have i8:MF (λq=>q=T+2) O3 w3 O3 (w3.setRow ob #[ig,kp,nS]):=Lq zo i0.tag rfl;have f7:=k0.J i8;have k2:=k3.U i8;have j5:=i2.U f7 zo zo;have j1:=j2.U f7 zo zo;have i3:MF (λq=>T<=q) O w O3 _:=((k1.mono (λ_ h=>by rw[h];omega) b2).J (i9.mono (λ_ h=>by rw[h];omega) b2)).J (f7.mono (λ_ h=>by rw[h];omega) b2);generalize w3.setRow ob #[ig,kp,nS]=w4 at *;refine zh ?_
 apply zlp (λy:Nat×(Nat->Nat)×World×LK×List X3=>[(1,nP nb),(2,nP xb),(3,nP ob),(4,nI y.1)]) (λy=>y.2.2.1) (λy=>y.1<=xs.length/\N2 y.2.1 y.2.2.1 T nb #[ig,kp,ru] 25/\N2 y.2.1 y.2.2.1 (T+1) xb #[nS,nS,nS] 41/\N2 y.2.1 y.2.2.1 (T+2) ob #[ig,kp,y.2.2.2.1] 41/\NV cB 77 7 y.2.1 y.2.2.1 (T+3) y.2.2.2.1 y.2.2.2.2/\y.2.2.2.2.length=y.1/\(∀m,m<y.1->Rt y.2.1 y.2.2.1 (nth ts m) (nth y.2.2.2.2 m))/\MF (λq=>T<=q) O w y.2.1 y.2.2.1/\Rng B y.2.1 y.2.2.1) (λy=>xs.length-y.1) (0,O3,w4,nS,[]) ⟨Ll _,j5,j1,j4,N4 _ _ _ _ _ _,rfl,λm hm=>absurd hm (Lo m),i3,k2⟩;rintro⟨i,O1,g3,lv,zs⟩ ⟨hi,f5,d1,e',c8,d7,h9,d9,g2⟩;dsimp only at hi f5 d1 e' c8 d7 h9 d9 g2 ⊢;have i6:=aD d9 b5;have k7:=h3.ext i6;have c2:g3.cell? (nA nb 2)=some ru:=f5.cell 2 rfl;refine zh ?_
 refine zC ?_ ?_
 ·intro b3;replace b3:i<xs.length:=dT b3;obtain⟨z1,z2⟩:=f4 i zo;have i1:=f5.drew;have i7:=d1.drew;have h':=e'.drew;have e0:=c8.drew;have h8:=g2.drew;have g8:∀m,m<i->Rt O1 g3.drew (nth ts m) (nth zs m):=λm hm=>(h9 m hm).ext (L3 g3).drew
  have f6:=d9.drew;have i4:=aD f6 b5;have b6:=ix (i1.cell 2 rfl) i4;have j8:∀W,M5 w W->∀(j:Nat) (u:LK),(aY (nth xs i).1)[j]? = some u->W.cell? (((adr ru 7 i).add 0).add j)=some u:=λW hE j u hu=>by
   have e:(((adr ru 7 i).add 0).add j)=(adr ru 7 i).add j:=by rw[Ny,NA]
   rw[e];refine hE.cell (h3.cell b3 ?_);simp only[aY]at hu
   match j,hu with
   |0,hu=>exact hu
   |1,hu=>exact hu
   |2,hu=>exact hu
  have j3:∀W,M5 w W->∀(j:Nat) (u:LK),(aY (nth xs i).2.1)[j]? = some u->W.cell? (((adr ru 7 i).add 3).add j)=some u:=λW hE j u hu=>by
   have e:(((adr ru 7 i).add 3).add j)=(adr ru 7 i).add (3+j):=by rw[Ny]
   rw[e];refine hE.cell (h3.cell b3 ?_);simp only[aY]at hu
   match j,hu with
   |0,hu=>exact hu
   |1,hu=>exact hu
   |2,hu=>exact hu
  obtain⟨brk,g'⟩:∃b,b=(nth xs i).2.2:=⟨_,rfl⟩
  have j':∀W,M5 w W->W.cell? ((adr ru 7 i).add 6)=some (.bool brk):=λW hE=>by rw[g'];exact hE.cell (h3.cell b3 rfl)
  refine zh ?_;apply aN (λW=>W.cell? ⟨nb,2,none⟩=some ru/\M5 w W) 27 rfl zk
  apply zrf 0 rfl b6 rfl;apply zrf 2 rfl b6 rfl
  apply zt 3 rfl b6 (λw1 b8=>RV.ld b8.1 rfl);apply zrm 4 rfl b6 rfl
  apply zt 5 rfl b6 (λw1 b8=>M1 (h3.ext b8.2) LU (Mr _) rfl rfl i rfl b3);apply zrf 6 rfl b6 rfl
  apply zt 7 rfl b6 (λw1 b8=>ah (us:=aY (nth xs i).1) (j8 _ b8.2) (LL _) (Lp _) rfl);apply zrf 9 rfl b6 rfl
  apply zt 10 rfl b6 (λw1 b8=>RV.ld b8.1 rfl);apply zrm 11 rfl b6 rfl
  apply zt 12 rfl b6 (λw1 b8=>M1 (h3.ext b8.2) LU (Mr _) rfl rfl i rfl b3);apply zrf 13 rfl b6 rfl
  apply zt 14 rfl b6 (λw1 b8=>ah (us:=aY (nth xs i).2.1) (j3 _ b8.2) (LL _) (Lp _) rfl);apply zrf 16 rfl b6 rfl
  apply zt 17 rfl b6 (λw1 b8=>RV.ld b8.1 rfl);apply zrm 18 rfl b6 rfl
  apply zt 19 rfl b6 (λw1 b8=>M1 (h3.ext b8.2) LU (Mr _) rfl rfl i rfl b3);apply zrf 20 rfl b6 rfl
  apply zt 21 rfl b6 (λw1 b8=>RV.ld (j' _ b8.2) rfl);generalize g3.drew=wD at *;refine Na 1 8 zk rfl rfl ?_ ?_
  ·refine zvH (RV.ld (h'.cell 2 rfl) rfl) ?_;apply ae b6
   apply Ln 8 zk rfl;apply zc MZ (mW 1000000 (Lz _) (nth ts i).1 zo B O1 (nth xs i).1 wD h8 ((h5 i b3).1.ext i4))
   rintro v5 w5 ⟨y1,rfl,h0,i5⟩;have c5:MF (λ_=>False) O1 wD O1 w5:=aa (λh=>h) O1 i5;have g6:=i1.U c5 zo (λh=>h);have h6:=i7.U c5 zo (λh=>h);have g9:=h'.U c5 zo (λh=>h);have c7:=e0.U c5 zo (λh=>h);have g1:=h8.U c5;have d6:∀m,m<i->Rt O1 w5 (nth ts m) (nth zs m):=λm hm=>(g8 m hm).U c5
   have d0:=f6.J (c5.mono (λ_ h=>h.elim) b2);have f9:=ix (g6.cell 2 rfl) (aD d0 b5);refine zh ?_;apply ae f9;apply Ln 15 zk rfl;apply zc MZ (mW 1000000 (Lz _) (nth ts i).2.1 zo B O1 (nth xs i).2.1 w5 g1 ((h5 i b3).2.1.ext f9.2));rintro v6 w6 ⟨y2,rfl,g4,e4⟩;have c':=h0.U (aa (S:=λ_=>False) (λh=>h) O1 e4);have a':MF (λ_=>False) O1 w5 O1 w6:=aa (λh=>h) O1 e4;have d8:=g6.U a' zo (λh=>h);have g5:=h6.U a' zo (λh=>h);have e9:=g9.U a' zo (λh=>h);have b4:=c7.U a' zo (λh=>h);have g7:=g1.U a';have c9:∀m,m<i->Rt O1 w6 (nth ts m) (nth zs m):=λm hm=>(d6 m hm).U a'
   have b7:=d0.J (a'.mono (λ_ h=>h.elim) b2);have d':=ix (d8.cell 2 rfl) (aD b7 b5);refine zh ?_;apply ae d';apply zr 22 rfl d' (λ_=>Nv (vs:=[(0,nv y1),(1,nv y2),(2,.bool brk)]) (cells:=(cB (y1,y2,brk)).toArray) Cq (Nj _) rfl zk);apply Ln 23 zk rfl;apply aQ elR (enc:=cB) (y1,y2,brk) rfl rfl rfl zd rfl;intro w7 h7 c6;have a7:=c'.U (aa (S:=λ_=>False) (λh=>h) O1 c6);have a6:=g4.U (aa (S:=λ_=>False) (λh=>h) O1 c6);have a2:MF (λ_=>False) O1 w6 O1 w7:=aa (λh=>h) O1 c6;have d4:=d8.U a2 zo (λh=>h);have e6:=g5.U a2 zo (λh=>h);have e2:=e9.U a2 zo (λh=>h);have a8:=b4.U a2 zo (λh=>h);have g0:=g7.U a2;have b9:∀m,m<i->Rt O1 w7 (nth ts m) (nth zs m):=λm hm=>(c9 m hm).U a2
   have b1:=b7.J (a2.mono (λ_ h=>h.elim) b2);have e3:=ix (d4.cell 2 rfl) (aD b1 b5);refine zh ?_;apply ae e3;have a9:∀u∈[((y1,y2,brk):X3)],∀c∈cB u,c.oneCell'=true:=λu hu=>by
    rw[Li.1 hu];exact cm a7.one a6.one
   apply Ln 24 zk rfl;apply aC elR a8 g0 h7 (by simp) rfl rfl (λ_ _=>rfl) a9 (by simp;omega) (by simp;omega) zo rfl
   intro a5 w8 O8 a1 a4 f';have e7:=a1.one;have d3:=Lj d4 a4 zo zo;have b':=Lj e2 a4 zo zo;have e5:=Lj e6 a4 zo zo;have b0:=b1.J (a4.mono (λ_ h=>by rw[h];omega) b2);have d5:=ix (d3.cell 2 rfl) (aD b0 b5);refine zh ?_;apply ae d5;apply zrf 25 rfl d5 rfl;apply Ln 26 zk rfl;apply aj (j:=2) b' rfl (Nm _) e7 rfl rfl rfl;have e8:N2 O8 (w8.setCell ⟨ob,2,none⟩ a5) (T+2) ob #[ig,kp,a5] 41:=b'.set 2 a5;have a0:MF (λq=>q=T+2) O8 w8 O8 (w8.setCell ⟨ob,2,none⟩ a5):=MJ zo b'.tag rfl;have d2:=d3.U a0 zo zo;have a3:=b0.J (a0.mono (λ_ h=>by rw[h];omega) b2);have f8:=ix (d2.cell 2 rfl) (aD a3 b5);refine zh ?_;apply ae f8;apply Mz zk;refine zh ?_;refine zxd (i+1,O8,(w8.setCell ⟨ob,2,none⟩ a5),a5,zs++[((y1,y2,brk):X3)]) ⟨b3,d2,e5.U a0 zo zo,e8,a1.U a0 zo zo,by simp[d7],λm hm=>?_,a3,f'.U a0⟩;dsimp only at hm ⊢
   by_cases e:m<i
   ·rw[aB (xs:=zs++[((y1,y2,brk):X3)]) (by simp;omega),Lm zo,<-aB zo];exact((b9 m e).U a4).U a0
   obtain rfl:m=zs.length:=zo;rw[aB (xs:=zs++[((y1,y2,brk):X3)]) (by simp),Lk zo];simp only[M8,Lr];rw[d7];exact⟨(a7.U a4).U a0,(a6.U a4).U a0,g'.J (h5 i b3).2.2⟩
  apply zc MZ (mW 1000000 (Lz _) (nth ts i).1 zo B O1 (nth xs i).1 wD h8 ((h5 i b3).1.ext i4));rintro v5 w5 ⟨y1,rfl,h0,i5⟩;have c5:MF (λ_=>False) O1 wD O1 w5:=aa (λh=>h) O1 i5;have g6:=i1.U c5 zo (λh=>h);have h6:=i7.U c5 zo (λh=>h);have g9:=h'.U c5 zo (λh=>h);have c7:=e0.U c5 zo (λh=>h);have g1:=h8.U c5;have d6:∀m,m<i->Rt O1 w5 (nth ts m) (nth zs m):=λm hm=>(g8 m hm).U c5
  have d0:=f6.J (c5.mono (λ_ h=>h.elim) b2);have f9:=ix (g6.cell 2 rfl) (aD d0 b5);refine zh ?_;apply ae f9;refine Na 1 15 zk rfl rfl ?_ ?_
  ·refine zvH (RV.ld (g9.cell 2 rfl) rfl) ?_;apply ae f9
   apply Ln 15 zk rfl;apply zc MZ (mW 1000000 (Lz _) (nth ts i).2.1 zo B O1 (nth xs i).2.1 w5 g1 ((h5 i b3).2.1.ext f9.2))
   rintro v6 w6 ⟨y2,rfl,g4,e4⟩;have c':=h0.U (aa (S:=λ_=>False) (λh=>h) O1 e4);have a':MF (λ_=>False) O1 w5 O1 w6:=aa (λh=>h) O1 e4;have d8:=g6.U a' zo (λh=>h);have g5:=h6.U a' zo (λh=>h);have e9:=g9.U a' zo (λh=>h);have b4:=c7.U a' zo (λh=>h);have g7:=g1.U a';have c9:∀m,m<i->Rt O1 w6 (nth ts m) (nth zs m):=λm hm=>(d6 m hm).U a'
   have b7:=d0.J (a'.mono (λ_ h=>h.elim) b2);have d':=ix (d8.cell 2 rfl) (aD b7 b5);refine zh ?_;apply ae d';apply zr 22 rfl d' (λ_=>Nv (vs:=[(0,nv y1),(1,nv y2),(2,.bool brk)]) (cells:=(cB (y1,y2,brk)).toArray) Cq (Nj _) rfl zk);apply Ln 23 zk rfl;apply aQ elR (enc:=cB) (y1,y2,brk) rfl rfl rfl zd rfl;intro w7 h7 c6;have a7:=c'.U (aa (S:=λ_=>False) (λh=>h) O1 c6);have a6:=g4.U (aa (S:=λ_=>False) (λh=>h) O1 c6);have a2:MF (λ_=>False) O1 w6 O1 w7:=aa (λh=>h) O1 c6;have d4:=d8.U a2 zo (λh=>h);have e6:=g5.U a2 zo (λh=>h);have e2:=e9.U a2 zo (λh=>h);have a8:=b4.U a2 zo (λh=>h);have g0:=g7.U a2;have b9:∀m,m<i->Rt O1 w7 (nth ts m) (nth zs m):=λm hm=>(c9 m hm).U a2
   have b1:=b7.J (a2.mono (λ_ h=>h.elim) b2);have e3:=ix (d4.cell 2 rfl) (aD b1 b5);refine zh ?_;apply ae e3;have a9:∀u∈[((y1,y2,brk):X3)],∀c∈cB u,c.oneCell'=true:=λu hu=>by
    rw[Li.1 hu];exact cm a7.one a6.one
   apply Ln 24 zk rfl;apply aC elR a8 g0 h7 (by simp) rfl rfl (λ_ _=>rfl) a9 (by simp;omega) (by simp;omega) zo rfl
   intro a5 w8 O8 a1 a4 f';have e7:=a1.one;have d3:=Lj d4 a4 zo zo;have b':=Lj e2 a4 zo zo;have e5:=Lj e6 a4 zo zo;have b0:=b1.J (a4.mono (λ_ h=>by rw[h];omega) b2);have d5:=ix (d3.cell 2 rfl) (aD b0 b5);refine zh ?_;apply ae d5;apply zrf 25 rfl d5 rfl;apply Ln 26 zk rfl;apply aj (j:=2) b' rfl (Nm _) e7 rfl rfl rfl;have e8:N2 O8 (w8.setCell ⟨ob,2,none⟩ a5) (T+2) ob #[ig,kp,a5] 41:=b'.set 2 a5;have a0:MF (λq=>q=T+2) O8 w8 O8 (w8.setCell ⟨ob,2,none⟩ a5):=MJ zo b'.tag rfl;have d2:=d3.U a0 zo zo;have a3:=b0.J (a0.mono (λ_ h=>by rw[h];omega) b2);have f8:=ix (d2.cell 2 rfl) (aD a3 b5);refine zh ?_;apply ae f8;apply Mz zk;refine zh ?_;refine zxd (i+1,O8,(w8.setCell ⟨ob,2,none⟩ a5),a5,zs++[((y1,y2,brk):X3)]) ⟨b3,d2,e5.U a0 zo zo,e8,a1.U a0 zo zo,by simp[d7],λm hm=>?_,a3,f'.U a0⟩;dsimp only at hm ⊢
   by_cases e:m<i
   ·rw[aB (xs:=zs++[((y1,y2,brk):X3)]) (by simp;omega),Lm zo,<-aB zo];exact((b9 m e).U a4).U a0
   obtain rfl:m=zs.length:=zo;rw[aB (xs:=zs++[((y1,y2,brk):X3)]) (by simp),Lk zo];simp only[M8,Lr];rw[d7];exact⟨(a7.U a4).U a0,(a6.U a4).U a0,g'.J (h5 i b3).2.2⟩
  apply zc MZ (mW 1000000 (Lz _) (nth ts i).2.1 zo B O1 (nth xs i).2.1 w5 g1 ((h5 i b3).2.1.ext f9.2));rintro v6 w6 ⟨y2,rfl,g4,e4⟩;have c':=h0.U (aa (S:=λ_=>False) (λh=>h) O1 e4);have a':MF (λ_=>False) O1 w5 O1 w6:=aa (λh=>h) O1 e4;have d8:=g6.U a' zo (λh=>h);have g5:=h6.U a' zo (λh=>h);have e9:=g9.U a' zo (λh=>h);have b4:=c7.U a' zo (λh=>h);have g7:=g1.U a';have c9:∀m,m<i->Rt O1 w6 (nth ts m) (nth zs m):=λm hm=>(d6 m hm).U a'
  have b7:=d0.J (a'.mono (λ_ h=>h.elim) b2);have d':=ix (d8.cell 2 rfl) (aD b7 b5);refine zh ?_;apply ae d';apply zr 22 rfl d' (λ_=>Nv (vs:=[(0,nv y1),(1,nv y2),(2,.bool brk)]) (cells:=(cB (y1,y2,brk)).toArray) Cq (Nj _) rfl zk);refine Na 1 23 zk rfl rfl ?_ ?_
  ·refine zvH (RV.ld (e9.cell 2 rfl) rfl) ?_;apply ae d'
   apply Ln 23 zk rfl;apply aQ elR (enc:=cB) (y1,y2,brk) rfl rfl rfl zd rfl
   intro w7 h7 c6;have a7:=c'.U (aa (S:=λ_=>False) (λh=>h) O1 c6);have a6:=g4.U (aa (S:=λ_=>False) (λh=>h) O1 c6);have a2:MF (λ_=>False) O1 w6 O1 w7:=aa (λh=>h) O1 c6;have d4:=d8.U a2 zo (λh=>h);have e6:=g5.U a2 zo (λh=>h);have e2:=e9.U a2 zo (λh=>h);have a8:=b4.U a2 zo (λh=>h);have g0:=g7.U a2;have b9:∀m,m<i->Rt O1 w7 (nth ts m) (nth zs m):=λm hm=>(c9 m hm).U a2
   have b1:=b7.J (a2.mono (λ_ h=>h.elim) b2);have e3:=ix (d4.cell 2 rfl) (aD b1 b5);refine zh ?_;apply ae e3;have a9:∀u∈[((y1,y2,brk):X3)],∀c∈cB u,c.oneCell'=true:=λu hu=>by
    rw[Li.1 hu];exact cm a7.one a6.one
   apply Ln 24 zk rfl;apply aC elR a8 g0 h7 (by simp) rfl rfl (λ_ _=>rfl) a9 (by simp;omega) (by simp;omega) zo rfl
   intro a5 w8 O8 a1 a4 f';have e7:=a1.one;have d3:=Lj d4 a4 zo zo;have b':=Lj e2 a4 zo zo;have e5:=Lj e6 a4 zo zo;have b0:=b1.J (a4.mono (λ_ h=>by rw[h];omega) b2);have d5:=ix (d3.cell 2 rfl) (aD b0 b5);refine zh ?_;apply ae d5;apply zrf 25 rfl d5 rfl;apply Ln 26 zk rfl;apply aj (j:=2) b' rfl (Nm _) e7 rfl rfl rfl;have e8:N2 O8 (w8.setCell ⟨ob,2,none⟩ a5) (T+2) ob #[ig,kp,a5] 41:=b'.set 2 a5;have a0:MF (λq=>q=T+2) O8 w8 O8 (w8.setCell ⟨ob,2,none⟩ a5):=MJ zo b'.tag rfl;have d2:=d3.U a0 zo zo;have a3:=b0.J (a0.mono (λ_ h=>by rw[h];omega) b2);have f8:=ix (d2.cell 2 rfl) (aD a3 b5);refine zh ?_;apply ae f8;apply Mz zk;refine zh ?_;refine zxd (i+1,O8,(w8.setCell ⟨ob,2,none⟩ a5),a5,zs++[((y1,y2,brk):X3)]) ⟨b3,d2,e5.U a0 zo zo,e8,a1.U a0 zo zo,by simp[d7],λm hm=>?_,a3,f'.U a0⟩;dsimp only at hm ⊢
   by_cases e:m<i
   ·rw[aB (xs:=zs++[((y1,y2,brk):X3)]) (by simp;omega),Lm zo,<-aB zo];exact((b9 m e).U a4).U a0
   obtain rfl:m=zs.length:=zo;rw[aB (xs:=zs++[((y1,y2,brk):X3)]) (by simp),Lk zo];simp only[M8,Lr];rw[d7];exact⟨(a7.U a4).U a0,(a6.U a4).U a0,g'.J (h5 i b3).2.2⟩
  apply aQ elR (enc:=cB) (y1,y2,brk) rfl rfl rfl zd rfl;intro w7 h7 c6;have a7:=c'.U (aa (S:=λ_=>False) (λh=>h) O1 c6);have a6:=g4.U (aa (S:=λ_=>False) (λh=>h) O1 c6);have a2:MF (λ_=>False) O1 w6 O1 w7:=aa (λh=>h) O1 c6;have d4:=d8.U a2 zo (λh=>h);have e6:=g5.U a2 zo (λh=>h);have e2:=e9.U a2 zo (λh=>h);have a8:=b4.U a2 zo (λh=>h);have g0:=g7.U a2;have b9:∀m,m<i->Rt O1 w7 (nth ts m) (nth zs m):=λm hm=>(c9 m hm).U a2
  have b1:=b7.J (a2.mono (λ_ h=>h.elim) b2);have e3:=ix (d4.cell 2 rfl) (aD b1 b5);refine zh ?_;apply ae e3;apply Ln 1 zk rfl;refine zvH (RV.ld (e2.cell 2 rfl) rfl) ?_;apply ae e3;have a9:∀u∈[((y1,y2,brk):X3)],∀c∈cB u,c.oneCell'=true:=λu hu=>by
   rw[Li.1 hu];exact cm a7.one a6.one
  apply Ln 24 zk rfl;apply aC elR a8 g0 h7 (by simp) rfl rfl (λ_ _=>rfl) a9 (by simp;omega) (by simp;omega) zo rfl
  intro a5 w8 O8 a1 a4 f';have e7:=a1.one;have d3:=Lj d4 a4 zo zo;have b':=Lj e2 a4 zo zo;have e5:=Lj e6 a4 zo zo;have b0:=b1.J (a4.mono (λ_ h=>by rw[h];omega) b2);have d5:=ix (d3.cell 2 rfl) (aD b0 b5);refine zh ?_;apply ae d5;apply zrf 25 rfl d5 rfl;apply Ln 26 zk rfl;apply aj (j:=2) b' rfl (Nm _) e7 rfl rfl rfl;have e8:N2 O8 (w8.setCell ⟨ob,2,none⟩ a5) (T+2) ob #[ig,kp,a5] 41:=b'.set 2 a5;have a0:MF (λq=>q=T+2) O8 w8 O8 (w8.setCell ⟨ob,2,none⟩ a5):=MJ zo b'.tag rfl;have d2:=d3.U a0 zo zo;have a3:=b0.J (a0.mono (λ_ h=>by rw[h];omega) b2);have f8:=ix (d2.cell 2 rfl) (aD a3 b5);refine zh ?_;apply ae f8;apply Mz zk;refine zh ?_;refine zxd (i+1,O8,(w8.setCell ⟨ob,2,none⟩ a5),a5,zs++[((y1,y2,brk):X3)]) ⟨b3,d2,e5.U a0 zo zo,e8,a1.U a0 zo zo,by simp[d7],λm hm=>?_,a3,f'.U a0⟩;dsimp only at hm ⊢
  by_cases e:m<i
  ·rw[aB (xs:=zs++[((y1,y2,brk):X3)]) (by simp;omega),Lm zo,<-aB zo];exact((b9 m e).U a4).U a0
  obtain rfl:m=zs.length:=zo;rw[aB (xs:=zs++[((y1,y2,brk):X3)]) (by simp),Lk zo];simp only[M8,Lr];rw[d7];exact⟨(a7.U a4).U a0,(a6.U a4).U a0,g'.J (h5 i b3).2.2⟩
 intro j9;obtain rfl:i=xs.length:=dF j9;have j7:=c8.one;refine zh ?_;apply zv (ah (us:=[ig,kp,lv]) e'.V (NL _) (MQ _) rfl);apply zsb (us:=#[ig,kp,lv]) d1 (MQ _) (by simp only[LN,o1,o2,j7];rfl);have j0:=d1.setRow (us:=#[ig,kp,lv]);have a0:MF (λq=>q=T+1) O1 g3 O1 (g3.setRow xb #[ig,kp,lv]):=Lq zo d1.tag rfl;have e1:=c8.U a0 zo zo;have a3:=d9.J (a0.mono (λ_ h=>by rw[h];omega) b2);have k6:=aD a3 b5;refine zh ?_;refine aO rfl rfl j0.V (NL _) (MQ _) ⟨lv,rfl,⟨zs,e1.sl,e1.freeT zo (λb=>by have:=hT b;omega) (g2.U a0) a3,zo,λm hm=>((h9 m zo).U a0).weak (λb e=>a3.z0 b e)⟩,k6⟩
def nZ(l:List Int)(sv:LK)(w:Lu)(h:Sl encI 1 w sv l):Nz MT 28 [sv] w λv w'=>v=.bool (dQ l)/\M5 w w':=by
 have a6:=h.len_le;apply LD func28 ntmps28 rfl rfl;refine zh ?_;apply zlp (λy:Nat×Lu=>[(0,sv),(3,nI y.1)]) (λy=>y.2) (λy=>y.1<=l.length/\M5 w y.2/\∀i,i<y.1->lg l i=false) (λy=>l.length-y.1) (0,w) ⟨Ll _,L3 _,λi hi=>absurd hi (Lo i)⟩;rintro⟨k,w1⟩ ⟨hk,hE,a3⟩;dsimp only at hk hE a3 ⊢;have h1:=h.ext hE;refine zh ?_;refine zC ?_ ?_
 ·intro a2;replace a2:k<l.length:=dT a2;have m1:=h1.ld a2;refine zh ?_;apply NO zk zk;refine zh ?_
  cases b1:decide (nth l k<0)with
  |true=>
   have a1:lg l k=true:=by unfold lg;rw[b1];rfl
   apply cg (d:=15) rfl (b':=true) rfl;refine zh ?_
   refine zwH (aX rfl rfl) ?_;apply zw (aX rfl rfl)
   apply N9;refine zh ?_
   refine zTH rfl rfl ?_;refine af rfl rfl ⟨by unfold dQ;rw[dj.2 ⟨k,a2,a1⟩];rfl,hE.drew⟩
  |false=>
   apply cg (d:=15) rfl (b':=false) rfl;refine zh ?_
   refine zwH (bE rfl rfl) ?_
   cases b2:decide ((35:Int)<nth l k)with
   |true=>
    have a1:lg l k=true:=by unfold lg;rw[decide_eq_true (show(36:Int)<=nth l k by have:=of_decide_eq_true b2;omega)];simp
    apply cg (d:=22) rfl (b':=true) rfl;refine zh ?_
    apply zw (aX rfl rfl);apply N9
    refine zh ?_;refine zTH rfl rfl ?_
    refine af rfl rfl ⟨by unfold dQ;rw[dj.2 ⟨k,a2,a1⟩];rfl,hE.drew⟩
   |false=>
    have a4:decide ((36:Int)<=nth l k)=false:=decide_eq_false (by have:=of_decide_eq_false b2;omega);apply cg (d:=22) rfl (b':=false) rfl;refine zh ?_
    cases b3:decide ((0:Int)<(k:Int))with
    |false=>
     have a0:lg l k=false:=by unfold lg;rw[b1,a4,b3];rfl
     apply cg (d:=25) rfl (b':=false) rfl;refine zh ?_
     apply zw (bE rfl rfl);apply zw (bE rfl rfl)
     apply N9;refine zh ?_
     refine zFH rfl rfl ?_;refine zxd (k+1,w1.drew) ⟨a2,hE.drew,λi hi=>(ka.1 hi).elim (a3 i) (λe=>by rw[e];exact a0)⟩
    |true=>
     have a7:=of_decide_eq_true b3;have m2:=h1.ld (i:=k-1) zo;apply cg (d:=25) rfl (b':=true) rfl;refine zh ?_;rw[show(k:Int)-1=((k-1:Nat):Int)from by omega];refine zh ?_;apply zw (aX rfl rfl);apply zw (bE rfl rfl);apply N9;refine zh ?_;refine zC ?_ ?_
     ·intro hy;have a1:lg l k=true:=by unfold lg;rw[b1,a4,b3];exact hy
      refine zh ?_;refine af rfl rfl ⟨by unfold dQ;rw[dj.2 ⟨k,a2,a1⟩];rfl,hE.drew⟩
     intro hy;have a0:lg l k=false:=by unfold lg;rw[b1,a4,b3];exact hy
     refine zh ?_;refine zxd (k+1,w1.drew) ⟨a2,hE.drew,λi hi=>(ka.1 hi).elim (a3 i) (λe=>by rw[e];exact a0)⟩
 intro a5;replace a5:l.length<=k:=dF a5;refine zh ?_;refine af rfl rfl ⟨by unfold dQ;rw[bD.2 λi hi=>a3 i zo];rfl,hE⟩
def rC(q:Int):∀(n:Nat) (t:Nd),nsz t<=n->∀(x:N3) (w:Lu),Nt (λ_=>0) w t x->Nz MT 62 [nv x,nI q] w λv w'=>v=.bool (Cb q t)/\M5 w w'
 |0,t,hn=>by have:=da t;omega
 |n+1,.mk k c kids,hn=>by
  intro x w h;have a7:=h.ones;obtain⟨xs,hs,hf,hl,hk⟩:=h.kids;simp only[Np]at hl hk;simp only[nsz]at hn;have hM:Cb q (.mk k c kids)=((k==q)||FR q kids):=rfl;rw[hM];generalize x.2.2=sv at *;subst a7;simp only[No,Nw];have a':=hs.len_le;apply LD func62 ntmps62 rfl rfl;refine zh ?_;apply aI (aw w) 1 zo rfl rfl;intro xb w1 O1 a4 b1 b2 a2;have c0:w1.cell? (nA xb 0)=some (nI k):=a4.cell 0 rfl;have c2:w1.cell? (nA xb 2)=some sv:=a4.cell 2 rfl;have a9:=hs.ext a2;refine zh ?_;apply zlp (λy:Nat×Lu=>[(1,nI q),(2,nP xb),(5,nI y.1)]) (λy=>y.2) (λy=>y.1<=xs.length/\M5 w1 y.2/\∀i,i<y.1->Cb q (nth kids i)=false) (λy=>xs.length-y.1) (0,w1) ⟨Ll _,L3 _,λi hi=>absurd hi (Lo i)⟩;rintro⟨i,w2⟩ ⟨hi,a0,a3⟩;dsimp only at hi a0 a3 ⊢;have a8:=a9.ext a0;have d0:=a0.cell c0;have d2:=a0.cell c2;refine zh ?_;refine zC ?_ ?_
  ·intro a1;replace a1:i<xs.length:=dT a1;have b0:=bK kids i zo;refine zh ?_;refine zvH (ah (us:=aY (nth xs i)) (λj u hu=>a8.cell a1 hu) (LL _) (Lp _) rfl) ?_;apply zc call62 (rC q n (nth kids i) zo (nth xs i) w2 ((hk i a1).ext (a2.J a0)));rintro v w3 ⟨rfl,a6⟩;refine zh ?_;refine zC ?_ ?_
   ·intro hy;have hL:FR q kids=true:=by rw[<-tR];exact dj.2 ⟨i,zo,hy⟩
    refine zh ?_;refine af rfl rfl ⟨by rw[hL,Bool.or_true],(a2.J a0).J a6⟩
   intro hy;refine zh ?_;refine zxd (i+1,w3) ⟨a1,a0.J a6,λj hj=>(ka.1 hj).elim (a3 j) (λe=>by rw[e];exact hy)⟩
  intro a5;replace a5:xs.length<=i:=dF a5;have hL:FR q kids=false:=by rw[<-tR];exact bD.2 λj hj=>a3 j zo
  refine zh ?_;refine af rfl rfl ⟨by rw[hL,Bool.or_false],a2.J a0⟩
def kE:∀(n:Nat),n<=1000000->∀(t:Nd),nsz t<=n->(∃wi,bP t wi=true)->∀(x:N3) (w:Lu),Nt (λ_=>0) w t x->Nz MT 61 [nv x] w λv w'=>v=nI (ct t)/\M5 w w'
 |0,_,t,hn,_=>by have:=da t;omega
 |n+1,hn6,.mk k c kids,hn,⟨wi,hfit⟩=>by
  intro x w h;have b1:=h.ones;obtain⟨xs,hs,hf,hl,hk⟩:=h.kids;simp only[Np]at hl hk;simp only[nsz]at hn;simp only[bP,ln]at hfit;obtain⟨a7,a6⟩:=hfit;have d3:=dv a7;have hM:ct (.mk k c kids)=if k=6\/k=7 then -1 else if k=9 then 0 else if k=4\/k=5\/k=8 then cT (k==4) 0 kids else 1:=rfl
  generalize x.2.2=sv at *;subst b1;simp only[No,Nw];have b8:=hs.len_le;have c':=du kids;apply LD func61 ntmps61 rfl rfl;refine zh ?_;apply aI (aw w) 1 zo rfl rfl;intro xb w1 O1 a' d4 d5 a4;have c0:w1.cell? (nA xb 0)=some (nI k):=a'.cell 0 rfl;have c2:w1.cell? (nA xb 2)=some sv:=a'.cell 2 rfl;have b4:=hs.ext a4;refine zh ?_;refine bR (λw1=>_=w1) ((k==7)) 3 rfl rfl rfl rfl rfl rfl ?_ ?_
  ·intro a1;refine zh ?_;refine nE 10 4 rfl a1
  rintro _ rfl;refine zh ?_;refine zC ?_ ?_
  ·intro hc;simp only[Nr,beq_iff_eq]at hc;refine zh ?_;refine af rfl rfl ⟨by rw[hM,ap hc],a4⟩
  intro hc;simp only[M4,beq_eq_false_iff_ne]at hc;refine zh ?_;refine zC ?_ ?_
  ·intro a8;replace a8:=of_decide_eq_true a8;refine zh ?_;refine af rfl rfl ⟨by rw[hM,am zo,am zo,am zo],a4⟩
  intro a8;replace a8:=of_decide_eq_false a8;have c5:ct (.mk k c kids)=cT (k==4) 0 kids:=by
   rw[hM,am zo]
   by_cases h9:k=9
   ·obtain rfl:kids=[]:=List.eq_nil_of_length_eq_zero zo;rw[ap h9];rfl
   rw[am h9,ap zo]
  rw[c5];refine zh ?_;apply zlp (λy:Nat×Int×Int×Lu=>[(1,nP xb),(3,nI y.2.1),(4,nI y.2.2.1),(5,nI y.1)]) (λy=>y.2.2.2) (λy=>y.1<=xs.length/\0<=y.2.1/\y.2.1<=cM (kids.take y.1)/\0<=y.2.2.1/\y.2.2.1<=cM (kids.take y.1)/\cT true y.2.1 (kids.drop y.1)=cT true 0 kids/\cT false y.2.2.1 (kids.drop y.1)=cT false 0 kids/\M5 w1 y.2.2.2) (λy=>xs.length-y.1) (0,0,0,w1) ⟨Ll _,N6 _,by simp[cM],N6 _,by simp[cM],rfl,rfl,L3 _⟩;rintro⟨i,su,mo,w2⟩ ⟨hi,b5,b2,b7,b6,a0,a2,a3⟩;dsimp only at hi b5 b2 b7 b6 a0 a2 a3 ⊢;have b3:=b4.ext a3;have d0:=a3.cell c0;have d2:=a3.cell c2;refine zh ?_;refine zC ?_ ?_
  ·intro a5;replace a5:i<xs.length:=dT a5;have c9:=bK kids i zo;have c7:=di kids i zo;have c6:=bY kids (i+1);have c8:=mj (nth kids i);have b9:bP (nth kids i) true=true:=qi kids a6 _ (by rw[aB zo];exact Nh _);rw[kX zo]at a0 a2;have hu:∀s acc,cT s acc (nth kids i::kids.drop (i+1))=if ct (nth kids i)<0 then -1 else cT s (if s=true then acc+ct (nth kids i)else max acc (ct (nth kids i))) (kids.drop (i+1)):=λs acc=>rfl
   rw[hu]at a0 a2;refine zh ?_;apply zv (ah (us:=aY (nth xs i)) (λj u hu=>b3.cell a5 hu) (LL _) (Lp _) rfl);apply zc call61 (kE n zo (nth kids i) zo ⟨true,b9⟩ (nth xs i) w2 ((hk i a5).ext (a4.J a3)));rintro v w3 ⟨rfl,b0⟩;refine zh ?_;refine zC ?_ ?_
   ·intro hy;replace hy:=of_decide_eq_true hy;rw[ap hy]at a0 a2;have a9:cT (k==4) 0 kids = -1:=by
     cases d1:(k==4)with
     |false=>exact a2.symm
     |true=>exact a0.symm
    refine zh ?_;refine af rfl rfl ⟨by rw[a9],(a4.J a3).J b0⟩
   intro hy;replace hy:=of_decide_eq_false hy;rw[am hy]at a0 a2;refine zh ?_;refine zvH (fY rfl rfl) ?_;refine zxd (i+1,su+ct (nth kids i),max mo (ct (nth kids i)),w3) ⟨a5,by dsimp only;omega,by dsimp only;omega,by dsimp only;omega,by dsimp only;omega,a0,a2,a3.J b0⟩
  intro b';obtain rfl:i=xs.length:=by have:=of_decide_eq_false b';omega
  rw[List.drop_of_length_le zo]at a0 a2;refine zh ?_;refine zC ?_ ?_
  ·intro h4;refine zh ?_;refine af rfl rfl ⟨by rw[h4,<-a0];rfl,a4.J a3⟩
  intro h4;refine zh ?_;refine af rfl rfl ⟨by rw[h4,<-a2];rfl,a4.J a3⟩
def vd(t:Nd)(x:N3)(w:Lu)(h:Nt (λ_=>0) w t x)(hr:aZ t=true):Nz MT 30 [nv x] w λv w'=>v=nI (dG t)/\M5 w w':=by
 have hx:=h.ones;have a4:=hr;simp only[aZ,ln,decide_eq_true_eq]at hr;apply LD func30 ntmps30 rfl rfl;refine zh ?_;apply aI (aw w) 1 zo rfl rfl;intro xb w1 O1 a6 a9 a' a3;have a5:∀W,M5 w1 W->∀(j:Nat) (u:LK),(aY x)[j]? = some u->W.cell? (nA xb j)=some u:=λW hE j u hu=>hE.cell (a6.V j u hu)
 refine zh ?_;apply zv (ah (us:=aY x) (a5 w1 (L3 _)) (LL _) (Lp _) rfl)
 apply zc call61 (kE 2000 zd t hr.1 ⟨false,hr.2⟩ x w1 (h.ext a3));rintro v w2 ⟨rfl,a2⟩;refine zh ?_
 apply zv (ah (us:=aY x) (a5 w2 a2) (LL _) (Lp _) rfl);apply zc call62 (rC 3 (nsz t) t (Lz _) x w2 (h.ext (a3.J a2)))
 rintro v w3 ⟨rfl,a8⟩;have a0:=(a3.J a2).J a8;refine zh ?_;refine zC ?_ ?_
 ·intro h1;refine zh ?_;refine af rfl rfl ⟨by unfold dG;rw[a4,h1];rfl,a0⟩
 intro h1;have a7:dG t=if(decide (ct t<0)||decide (4<ct t))=true then 8 else 0:=by
  unfold dG vB vA;rw[a4,h1,am zd,ap rfl]
  by_cases h0:ct t<0
  ·rw[decide_eq_true h0,decide_eq_false (show¬(0:Int)<=ct t by omega)];rfl
  rw[decide_eq_false h0,decide_eq_true (show(0:Int)<=ct t by omega),show max (ct t) 0=ct t by omega];rfl
 rw[a7];refine zh ?_;refine bR (λw1=>_=w1) (decide (4<ct t)) 2 rfl rfl rfl rfl rfl rfl ?_ ?_
 ·intro a1;refine zh ?_;refine nE 12 3 rfl a1
 rintro _ rfl;refine zh ?_;refine zC ?_ ?_
 ·intro h2;refine zh ?_;refine af rfl rfl ⟨by rw[ap h2],a0⟩
 intro h2;refine zh ?_;refine af rfl rfl ⟨by rw[am (by rw[h2];decide)],a0⟩
def LB{kids:List Nd}(h:(k<0\/9<k)\/(k=9/\wi=true)):bP (.mk k c kids) wi=false:=by
 cases hq:bP (.mk k c kids) wi with
 |false=>rfl
 |true=>
  simp only[bP,ln]at hq;have hc:=dv hq.1
  rcases h with h|⟨rfl,rfl⟩
  ·omega
  simp at hc
def KD{kids:List Nd}(hk:k=0\/k=2):bP (.mk k c kids) wi=(((((kids.length:Nat):Int)==0)&&decide (0<=c))&&decide (c<=35)):=by
 rw[ME]
 cases kids with
 |nil=>rcases hk with rfl|rfl<;>simp[bP,eT,gm,least,eQ,named]<;>omega
 |cons a r=>
  constructor
  ·intro h;simp only[bP,ln]at h;have hc:=dv h.1;simp only[MM]at hc;omega
  intro h;simp at h;omega
def Jy{kids:List Nd}(hk:(k=1\/k=3)\/(k=9/\wi=false)):bP (.mk k c kids) wi=((((kids.length:Nat):Int)==0)&&(c==0)):=by
 rw[ME]
 cases kids with
 |nil=>rcases hk with(rfl|rfl)|⟨rfl,rfl⟩<;>simp[bP,eT,gm,least,eQ,named]
 |cons a r=>
  constructor
  ·intro h;simp only[bP,ln]at h;have hc:=dv h.1;simp only[MM]at hc;omega
  intro h;simp at h;omega
def KC{kids:List Nd}(hk:k=4\/k=5)(h:kids.length<2):bP (.mk k c kids) wi=false:=by
 cases hq:bP (.mk k c kids) wi with
 |false=>rfl
 |true=>
  simp only[bP,ln]at hq;have hc:=dv hq.1;omega
def Jw{kids:List Nd}(hk:k=6\/k=7\/k=8)(h:kids.length≠1):bP (.mk k c kids) wi=false:=by
 cases hq:bP (.mk k c kids) wi with
 |false=>rfl
 |true=>
  simp only[bP,ln]at hq;have hc:=dv hq.1;omega
def DR{kids:List Nd}(hk:((k=4\/k=5)/\2<=kids.length)\/((k=6\/k=7\/k=8)/\kids.length=1))(hn:kids.length<=2000)(hf:eT kids=true):bP (.mk k c kids) wi=(c==0):=by
 have hF:bP (.mk k c kids) wi=(gm k c kids.length wi&&eT kids):=rfl;rw[hF,hf,Bool.and_true,ME];generalize kids.length=m at *
 rcases hk with⟨rfl|rfl,h⟩|⟨rfl|rfl|rfl,rfl⟩<;>simp[gm,least,eQ,named]<;>omega
def DQ{kids:List Nd}{i:Nat}(hi:i<kids.length)(hy:bP (nth kids i) true=false):bP (.mk k c kids) wi=false:=by
 have a0:eT kids=false:=by
  cases hq:eT kids with
  |false=>rfl
  |true=>exact absurd (qi kids hq (nth kids i) (by rw[aB hi];exact Nh _)) (by rw[hy];decide)
 have hF:bP (.mk k c kids) wi=(gm k c kids.length wi&&eT kids):=rfl;rw[hF,a0,MG]
def cO:∀(n:Nat),n<=2000->∀(t:Nd),nsz t<=n->∀(x:N3) (w:Lu) (wi:Bool),Nt (λ_=>0) w t x->Nz MT 29 [nv x,.bool wi] w λv w'=>v=.bool (bP t wi)/\M5 w w'
 |0,_,t,hn=>by have:=da t;omega
 |n+1,hn2,.mk k c kids,hn=>by
  intro x w wi h;have c5:=h.ones;have b9:=h;obtain⟨xs,hs,hf,hl,hk⟩:=h.kids;simp only[Np]at hl hk;have d1:nsz (.mk k c kids)<=2000:=zo;simp only[nsz]at hn;have d2:=du kids;have b0:kids.length<=2000:=zo;generalize c':x.2.2=sv at *;subst c5;simp only[No,Nw];simp only[No,Nw]at b9;have c6:=hs.len_le;apply LD func29 ntmps29 rfl rfl;refine zh ?_;apply aI (aw w) 1 zo rfl rfl;intro xb w1 O1 b7 d4 d5 a7;have c9:∀W,M5 w1 W->∀(j:Nat) (u:LK),(aY (k,c,sv))[j]? = some u->W.cell? (nA xb j)=some u:=λW hE j u hu=>hE.cell (b7.V j u hu)
  have c0:∀W,M5 w1 W->W.cell? (nA xb 0)=some (nI k):=λW hE=>hE.cell (b7.cell 0 rfl)
  have c1:∀W,M5 w1 W->W.cell? (nA xb 1)=some (nI c):=λW hE=>hE.cell (b7.cell 1 rfl)
  have c2:∀W,M5 w1 W->W.cell? (nA xb 2)=some sv:=λW hE=>hE.cell (b7.cell 2 rfl)
  refine zh ?_;refine aT (M5 w1) false 3 (L3 w1) rfl rfl rfl rfl rfl ?_ ?_
  ·intro a1;refine zh ?_;refine zvH (ah (us:=aY (k,c,sv)) (c9 _ (L3 _)) (LL _) (Lp _) rfl) ?_;apply zc NR (gQ (nsz (.mk k c kids)) (.mk k c kids) (Lz _) (k,c,sv) w1 2000 (b9.ext a7) zd);rintro v w2 ⟨rfl,a8⟩;rw[show min (nsz (.mk k c kids)) (2000+1)=nsz (.mk k c kids)from by omega];refine zh ?_;rw[decide_eq_false (show¬((2000:Int)<((nsz (.mk k c kids):Nat):Int))from by omega)];refine zh ?_;refine nE 9 4 a8 a1
  intro w2 a8;refine zh ?_;refine bR (λw1=>_=w1) (decide (k<0)) 3 rfl rfl rfl rfl rfl rfl ?_ ?_
  ·intro a2;refine zh ?_;refine zvH (RV.ld (c0 _ a8) rfl) ?_;refine nE 14 4 rfl a2
  rintro _ rfl;refine zh ?_;refine bR (λw1=>_=w1) (decide (9<k)) 3 rfl rfl rfl rfl rfl rfl ?_ ?_
  ·intro a3;refine zh ?_;refine zvH (RV.ld (c0 _ a8) rfl) ?_;refine nE 19 4 rfl a3
  rintro _ rfl;refine zh ?_;refine bR (λw1=>_=w1) (((k==9)&&wi)) 6 rfl rfl rfl rfl rfl rfl ?_ ?_
  ·intro a4;refine zh ?_;refine zvH (RV.ld (c0 _ a8) rfl) ?_
   cases c8:(k==9)with
   |true=>
    apply ax (d:=28) rfl (b':=true) rfl;refine zh ?_
    refine nE 24 8 rfl a4
   |false=>
    apply ax (d:=28) rfl (b':=false) rfl;refine zh ?_
    refine nE 24 8 rfl a4
  rintro _ rfl;have hE:=a7.J a8;refine zh ?_;refine zC ?_ ?_
  ·intro hc
   have hz:bP (.mk k c kids) wi=false:=LB (by
    simp only[MG,Nu,Nr,ln,decide_eq_true_eq,beq_iff_eq]at hc
    exact hc)
   refine zh ?_;refine af rfl rfl ⟨by rw[hz],hE⟩
  intro hc;simp only[MG,Nu,M4,decide_eq_false_iff_not]at hc;obtain⟨⟨d3,c8⟩,h9⟩:=hc;have d0:=hs.ext hE;refine zh ?_;refine zvH (RV.ld (c2 _ a8) rfl) ?_;refine zvH (RV.ld (c0 _ a8) rfl) ?_;have c7:k=0\/k=1\/k=2\/k=3\/k=4\/k=5\/k=6\/k=7\/k=8\/k=9:=zo
  rcases c7 with rfl|rfl|rfl|rfl|rfl|rfl|rfl|rfl|rfl|rfl
  ·refine zTH rfl rfl ?_;refine zTH rfl rfl ?_
   refine aT (λw1=>_=w1) (decide (0<=c)) 3 rfl rfl rfl rfl rfl rfl ?_ ?_
   ·intro b1;refine zh ?_;refine zvH (RV.ld (c1 _ a8) rfl) ?_;refine nE 44 4 rfl b1
   rintro _ rfl;refine zh ?_;refine aT (λw1=>_=w1) (decide (c<=35)) 3 rfl rfl rfl rfl rfl rfl ?_ ?_
   ·intro b2;refine zh ?_;refine zvH (RV.ld (c1 _ a8) rfl) ?_;refine nE 49 4 rfl b2
   rintro _ rfl;have hz:=KD (k:=0) (c:=c) (kids:=kids) (wi:=wi) zd;rw[hl]at hz;refine zh ?_;refine af rfl rfl ⟨by rw[hz],hE⟩
  ·refine zFH rfl rfl ?_;refine zFH rfl rfl ?_
   refine zTH rfl rfl ?_;refine zTH rfl rfl ?_
   refine aT (λw1=>_=w1) ((c==0)) 3 rfl rfl rfl rfl rfl rfl ?_ ?_
   ·intro b1;refine zh ?_;refine zvH (RV.ld (c1 _ a8) rfl) ?_;refine nE 60 4 rfl b1
   rintro _ rfl;have hz:=Jy (k:=1) (c:=c) (kids:=kids) (wi:=wi) (.inl zd);rw[hl]at hz;refine zh ?_;refine af rfl rfl ⟨by rw[hz],hE⟩
  ·refine zFH rfl rfl ?_;refine zTH rfl rfl ?_
   refine aT (λw1=>_=w1) (decide (0<=c)) 3 rfl rfl rfl rfl rfl rfl ?_ ?_
   ·intro b1;refine zh ?_;refine zvH (RV.ld (c1 _ a8) rfl) ?_;refine nE 44 4 rfl b1
   rintro _ rfl;refine zh ?_;refine aT (λw1=>_=w1) (decide (c<=35)) 3 rfl rfl rfl rfl rfl rfl ?_ ?_
   ·intro b2;refine zh ?_;refine zvH (RV.ld (c1 _ a8) rfl) ?_;refine nE 49 4 rfl b2
   rintro _ rfl;have hz:=KD (k:=2) (c:=c) (kids:=kids) (wi:=wi) zd;rw[hl]at hz;refine zh ?_;refine af rfl rfl ⟨by rw[hz],hE⟩
  ·refine zFH rfl rfl ?_;refine zFH rfl rfl ?_
   refine zFH rfl rfl ?_;refine zTH rfl rfl ?_
   refine zTH rfl rfl ?_;refine aT (λw1=>_=w1) ((c==0)) 3 rfl rfl rfl rfl rfl rfl ?_ ?_
   ·intro b1;refine zh ?_;refine zvH (RV.ld (c1 _ a8) rfl) ?_;refine nE 60 4 rfl b1
   rintro _ rfl;have hz:=Jy (k:=3) (c:=c) (kids:=kids) (wi:=wi) (.inl zd);rw[hl]at hz;refine zh ?_;refine af rfl rfl ⟨by rw[hz],hE⟩
  ·refine zFH rfl rfl ?_;refine zFH rfl rfl ?_
   refine zFH rfl rfl ?_;refine zFH rfl rfl ?_
   refine zFH rfl rfl ?_;refine zTH rfl rfl ?_
   refine zTH rfl rfl ?_;refine zC ?_ ?_
   ·intro h2;replace h2:=of_decide_eq_true h2;have hz:=KC (k:=4) (c:=c) (wi:=wi) (kids:=kids) zd zo;refine zh ?_;refine af rfl rfl ⟨by rw[hz],hE⟩
   intro h2;replace h2:=of_decide_eq_false h2;have b5:((((4:Int)=4\/(4:Int)=5)/\2<=kids.length)\/(((4:Int)=6\/(4:Int)=7\/(4:Int)=8)/\kids.length=1)):=.inl ⟨zd,zo⟩;refine zh ?_;apply zlp (λy:Nat×Lu=>[(2,nP xb),(5,nI xs.length),(6,nI y.1)]) (λy=>y.2) (λy=>y.1<=xs.length/\M5 w1 y.2/\∀i,i<y.1->bP (nth kids i) true=true) (λy=>xs.length-y.1) (0,w2) ⟨Ll _,a8,λi hi=>absurd hi (Lo i)⟩;rintro⟨i,w3⟩ ⟨hi,a0,a5⟩;dsimp only at hi a0 a5 ⊢;have b3:=hs.ext (a7.J a0);refine zh ?_;refine zC ?_ ?_
   ·intro a6;replace a6:i<xs.length:=dT a6;have b8:=bK kids i zo;refine zh ?_;refine zvH (RV.ld (c2 _ a0) rfl) ?_;apply zv (ah (us:=aY (nth xs i)) (λj u hu=>b3.cell a6 hu) (LL _) (Lp _) rfl);apply zc MY (cO n zo (nth kids i) zo (nth xs i) w3 true ((hk i a6).ext (a7.J a0)));rintro u w4 ⟨rfl,a'⟩;refine zh ?_;refine zC ?_ ?_
    ·intro hy;replace hy:bP (nth kids i) true=false:=by simpa using hy
     have hz:=DQ (k:=4) (c:=c) (wi:=wi) (show i<kids.length by omega) hy;refine zh ?_;refine af rfl rfl ⟨by rw[hz],(a7.J a0).J a'⟩
    intro hy;replace hy:bP (nth kids i) true=true:=by simpa using hy
    refine zh ?_;refine zxd (i+1,w4) ⟨a6,a0.J a',λj hj=>(ka.1 hj).elim (a5 j) (λe=>by rw[e];exact hy)⟩
   intro a9;replace a9:xs.length<=i:=dF a9;have b4:eT kids=true:=by
    rw[<-gX,M7];exact bD.2 λj hj=>by rw[a5 j zo];rfl
   have hz:=DR (k:=4) (c:=c) (wi:=wi) b5 b0 b4;refine zh ?_;refine zvH (RV.ld (c1 _ a0) rfl) ?_;refine af rfl rfl ⟨by rw[hz],a7.J a0⟩
  ·refine zFH rfl rfl ?_;refine zFH rfl rfl ?_
   refine zFH rfl rfl ?_;refine zFH rfl rfl ?_
   refine zFH rfl rfl ?_;refine zFH rfl rfl ?_
   refine zTH rfl rfl ?_;refine zC ?_ ?_
   ·intro h2;replace h2:=of_decide_eq_true h2;have hz:=KC (k:=5) (c:=c) (wi:=wi) (kids:=kids) zd zo;refine zh ?_;refine af rfl rfl ⟨by rw[hz],hE⟩
   intro h2;replace h2:=of_decide_eq_false h2;have b5:((((5:Int)=4\/(5:Int)=5)/\2<=kids.length)\/(((5:Int)=6\/(5:Int)=7\/(5:Int)=8)/\kids.length=1)):=.inl ⟨zd,zo⟩;refine zh ?_;apply zlp (λy:Nat×Lu=>[(2,nP xb),(5,nI xs.length),(6,nI y.1)]) (λy=>y.2) (λy=>y.1<=xs.length/\M5 w1 y.2/\∀i,i<y.1->bP (nth kids i) true=true) (λy=>xs.length-y.1) (0,w2) ⟨Ll _,a8,λi hi=>absurd hi (Lo i)⟩;rintro⟨i,w3⟩ ⟨hi,a0,a5⟩;dsimp only at hi a0 a5 ⊢;have b3:=hs.ext (a7.J a0);refine zh ?_;refine zC ?_ ?_
   ·intro a6;replace a6:i<xs.length:=dT a6;have b8:=bK kids i zo;refine zh ?_;refine zvH (RV.ld (c2 _ a0) rfl) ?_;apply zv (ah (us:=aY (nth xs i)) (λj u hu=>b3.cell a6 hu) (LL _) (Lp _) rfl);apply zc MY (cO n zo (nth kids i) zo (nth xs i) w3 true ((hk i a6).ext (a7.J a0)));rintro u w4 ⟨rfl,a'⟩;refine zh ?_;refine zC ?_ ?_
    ·intro hy;replace hy:bP (nth kids i) true=false:=by simpa using hy
     have hz:=DQ (k:=5) (c:=c) (wi:=wi) (show i<kids.length by omega) hy;refine zh ?_;refine af rfl rfl ⟨by rw[hz],(a7.J a0).J a'⟩
    intro hy;replace hy:bP (nth kids i) true=true:=by simpa using hy
    refine zh ?_;refine zxd (i+1,w4) ⟨a6,a0.J a',λj hj=>(ka.1 hj).elim (a5 j) (λe=>by rw[e];exact hy)⟩
   intro a9;replace a9:xs.length<=i:=dF a9;have b4:eT kids=true:=by
    rw[<-gX,M7];exact bD.2 λj hj=>by rw[a5 j zo];rfl
   have hz:=DR (k:=5) (c:=c) (wi:=wi) b5 b0 b4;refine zh ?_;refine zvH (RV.ld (c1 _ a0) rfl) ?_;refine af rfl rfl ⟨by rw[hz],a7.J a0⟩
  ·refine zFH rfl rfl ?_;refine zFH rfl rfl ?_
   refine zFH rfl rfl ?_;refine zFH rfl rfl ?_
   refine zFH rfl rfl ?_;refine zFH rfl rfl ?_
   refine zFH rfl rfl ?_;refine zC ?_ ?_
   ·intro h2;have b6:(xs.length:Int)≠1:=by simpa using h2
    have hz:=Jw (k:=6) (c:=c) (wi:=wi) (kids:=kids) zd zo;refine zh ?_;refine af rfl rfl ⟨by rw[hz],hE⟩
   intro h2;have b6:(xs.length:Int)=1:=by simpa using h2
   have b5:((((6:Int)=4\/(6:Int)=5)/\2<=kids.length)\/(((6:Int)=6\/(6:Int)=7\/(6:Int)=8)/\kids.length=1)):=.inr ⟨zd,zo⟩;refine zh ?_;apply zlp (λy:Nat×Lu=>[(2,nP xb),(5,nI xs.length),(6,nI y.1)]) (λy=>y.2) (λy=>y.1<=xs.length/\M5 w1 y.2/\∀i,i<y.1->bP (nth kids i) true=true) (λy=>xs.length-y.1) (0,w2) ⟨Ll _,a8,λi hi=>absurd hi (Lo i)⟩;rintro⟨i,w3⟩ ⟨hi,a0,a5⟩;dsimp only at hi a0 a5 ⊢;have b3:=hs.ext (a7.J a0);refine zh ?_;refine zC ?_ ?_
   ·intro a6;replace a6:i<xs.length:=dT a6;have b8:=bK kids i zo;refine zh ?_;refine zvH (RV.ld (c2 _ a0) rfl) ?_;apply zv (ah (us:=aY (nth xs i)) (λj u hu=>b3.cell a6 hu) (LL _) (Lp _) rfl);apply zc MY (cO n zo (nth kids i) zo (nth xs i) w3 true ((hk i a6).ext (a7.J a0)));rintro u w4 ⟨rfl,a'⟩;refine zh ?_;refine zC ?_ ?_
    ·intro hy;replace hy:bP (nth kids i) true=false:=by simpa using hy
     have hz:=DQ (k:=6) (c:=c) (wi:=wi) (show i<kids.length by omega) hy;refine zh ?_;refine af rfl rfl ⟨by rw[hz],(a7.J a0).J a'⟩
    intro hy;replace hy:bP (nth kids i) true=true:=by simpa using hy
    refine zh ?_;refine zxd (i+1,w4) ⟨a6,a0.J a',λj hj=>(ka.1 hj).elim (a5 j) (λe=>by rw[e];exact hy)⟩
   intro a9;replace a9:xs.length<=i:=dF a9;have b4:eT kids=true:=by
    rw[<-gX,M7];exact bD.2 λj hj=>by rw[a5 j zo];rfl
   have hz:=DR (k:=6) (c:=c) (wi:=wi) b5 b0 b4;refine zh ?_;refine zvH (RV.ld (c1 _ a0) rfl) ?_;refine af rfl rfl ⟨by rw[hz],a7.J a0⟩
  ·refine zFH rfl rfl ?_;refine zFH rfl rfl ?_
   refine zFH rfl rfl ?_;refine zFH rfl rfl ?_
   refine zFH rfl rfl ?_;refine zFH rfl rfl ?_
   refine zFH rfl rfl ?_;refine zC ?_ ?_
   ·intro h2;have b6:(xs.length:Int)≠1:=by simpa using h2
    have hz:=Jw (k:=7) (c:=c) (wi:=wi) (kids:=kids) zd zo;refine zh ?_;refine af rfl rfl ⟨by rw[hz],hE⟩
   intro h2;have b6:(xs.length:Int)=1:=by simpa using h2
   have b5:((((7:Int)=4\/(7:Int)=5)/\2<=kids.length)\/(((7:Int)=6\/(7:Int)=7\/(7:Int)=8)/\kids.length=1)):=.inr ⟨zd,zo⟩;refine zh ?_;apply zlp (λy:Nat×Lu=>[(2,nP xb),(5,nI xs.length),(6,nI y.1)]) (λy=>y.2) (λy=>y.1<=xs.length/\M5 w1 y.2/\∀i,i<y.1->bP (nth kids i) true=true) (λy=>xs.length-y.1) (0,w2) ⟨Ll _,a8,λi hi=>absurd hi (Lo i)⟩;rintro⟨i,w3⟩ ⟨hi,a0,a5⟩;dsimp only at hi a0 a5 ⊢;have b3:=hs.ext (a7.J a0);refine zh ?_;refine zC ?_ ?_
   ·intro a6;replace a6:i<xs.length:=dT a6;have b8:=bK kids i zo;refine zh ?_;refine zvH (RV.ld (c2 _ a0) rfl) ?_;apply zv (ah (us:=aY (nth xs i)) (λj u hu=>b3.cell a6 hu) (LL _) (Lp _) rfl);apply zc MY (cO n zo (nth kids i) zo (nth xs i) w3 true ((hk i a6).ext (a7.J a0)));rintro u w4 ⟨rfl,a'⟩;refine zh ?_;refine zC ?_ ?_
    ·intro hy;replace hy:bP (nth kids i) true=false:=by simpa using hy
     have hz:=DQ (k:=7) (c:=c) (wi:=wi) (show i<kids.length by omega) hy;refine zh ?_;refine af rfl rfl ⟨by rw[hz],(a7.J a0).J a'⟩
    intro hy;replace hy:bP (nth kids i) true=true:=by simpa using hy
    refine zh ?_;refine zxd (i+1,w4) ⟨a6,a0.J a',λj hj=>(ka.1 hj).elim (a5 j) (λe=>by rw[e];exact hy)⟩
   intro a9;replace a9:xs.length<=i:=dF a9;have b4:eT kids=true:=by
    rw[<-gX,M7];exact bD.2 λj hj=>by rw[a5 j zo];rfl
   have hz:=DR (k:=7) (c:=c) (wi:=wi) b5 b0 b4;refine zh ?_;refine zvH (RV.ld (c1 _ a0) rfl) ?_;refine af rfl rfl ⟨by rw[hz],a7.J a0⟩
  ·refine zFH rfl rfl ?_;refine zFH rfl rfl ?_
   refine zFH rfl rfl ?_;refine zFH rfl rfl ?_
   refine zFH rfl rfl ?_;refine zFH rfl rfl ?_
   refine zFH rfl rfl ?_;refine zC ?_ ?_
   ·intro h2;have b6:(xs.length:Int)≠1:=by simpa using h2
    have hz:=Jw (k:=8) (c:=c) (wi:=wi) (kids:=kids) zd zo;refine zh ?_;refine af rfl rfl ⟨by rw[hz],hE⟩
   intro h2;have b6:(xs.length:Int)=1:=by simpa using h2
   have b5:((((8:Int)=4\/(8:Int)=5)/\2<=kids.length)\/(((8:Int)=6\/(8:Int)=7\/(8:Int)=8)/\kids.length=1)):=.inr ⟨zd,zo⟩;refine zh ?_;apply zlp (λy:Nat×Lu=>[(2,nP xb),(5,nI xs.length),(6,nI y.1)]) (λy=>y.2) (λy=>y.1<=xs.length/\M5 w1 y.2/\∀i,i<y.1->bP (nth kids i) true=true) (λy=>xs.length-y.1) (0,w2) ⟨Ll _,a8,λi hi=>absurd hi (Lo i)⟩;rintro⟨i,w3⟩ ⟨hi,a0,a5⟩;dsimp only at hi a0 a5 ⊢;have b3:=hs.ext (a7.J a0);refine zh ?_;refine zC ?_ ?_
   ·intro a6;replace a6:i<xs.length:=dT a6;have b8:=bK kids i zo;refine zh ?_;refine zvH (RV.ld (c2 _ a0) rfl) ?_;apply zv (ah (us:=aY (nth xs i)) (λj u hu=>b3.cell a6 hu) (LL _) (Lp _) rfl);apply zc MY (cO n zo (nth kids i) zo (nth xs i) w3 true ((hk i a6).ext (a7.J a0)));rintro u w4 ⟨rfl,a'⟩;refine zh ?_;refine zC ?_ ?_
    ·intro hy;replace hy:bP (nth kids i) true=false:=by simpa using hy
     have hz:=DQ (k:=8) (c:=c) (wi:=wi) (show i<kids.length by omega) hy;refine zh ?_;refine af rfl rfl ⟨by rw[hz],(a7.J a0).J a'⟩
    intro hy;replace hy:bP (nth kids i) true=true:=by simpa using hy
    refine zh ?_;refine zxd (i+1,w4) ⟨a6,a0.J a',λj hj=>(ka.1 hj).elim (a5 j) (λe=>by rw[e];exact hy)⟩
   intro a9;replace a9:xs.length<=i:=dF a9;have b4:eT kids=true:=by
    rw[<-gX,M7];exact bD.2 λj hj=>by rw[a5 j zo];rfl
   have hz:=DR (k:=8) (c:=c) (wi:=wi) b5 b0 b4;refine zh ?_;refine zvH (RV.ld (c1 _ a0) rfl) ?_;refine af rfl rfl ⟨by rw[hz],a7.J a0⟩
  have hw:wi=false:=by simpa using h9
  refine zFH rfl rfl ?_;refine zFH rfl rfl ?_
  refine zFH rfl rfl ?_;refine zFH rfl rfl ?_
  refine zTH rfl rfl ?_;refine aT (λw1=>_=w1) ((c==0)) 3 rfl rfl rfl rfl rfl rfl ?_ ?_
  ·intro b1;refine zh ?_;refine zvH (RV.ld (c1 _ a8) rfl) ?_;refine nE 60 4 rfl b1
  rintro _ rfl;have hz:=Jy (k:=9) (c:=c) (kids:=kids) (wi:=wi) (.inr ⟨rfl,hw⟩);rw[hl]at hz;refine zh ?_;refine af rfl rfl ⟨by rw[hz],hE⟩
def zO{t:Nd}(h:nsz t<=2000):aZ t=bP t false:=by
 unfold aZ;rw[decide_eq_true h];rfl
def tj(li lk:List Int)(ts:List R3)(v:LK)(w:Lu)(h:Tx w v li lk ts)(hf:Few li lk ts):Nz MT 8 [v] w λu w'=>u=.bool (dE li lk ts)/\M5 w w':=by
 obtain⟨ig,kp,ru,xs,rfl,h1,h2,h3,h4,h5⟩:=h;have o1:=h1.one;have o2:=h2.one;have o3:=h3.one;obtain⟨f1,f2,f3,f4⟩:=hf;have hR:dE li lk ts=(((decide ((xs.length:Int)<=40)&&dQ li)&&dQ lk)&&JH (λi=>lM (nth ts i)) xs.length):=by
  unfold dE KR JH;rw[h4]
 obtain⟨A,hA⟩:∃A,A=((decide ((xs.length:Int)<=40)&&dQ li)&&dQ lk):=⟨_,rfl⟩
 rw[<-hA]at hR;apply LD func8 ntmps8 rfl rfl;refine zh ?_;apply aI (aw w) 1 zo rfl rfl;intro xb w1 O1 b0 c7 c9 a9;have c0:∀W,M5 w1 W->W.cell? (nA xb 0)=some ig:=λW hE=>hE.cell (b0.cell 0 rfl)
 have c1:∀W,M5 w1 W->W.cell? (nA xb 1)=some kp:=λW hE=>hE.cell (b0.cell 1 rfl)
 have c2:∀W,M5 w1 W->W.cell? (nA xb 2)=some ru:=λW hE=>hE.cell (b0.cell 2 rfl)
 have g3:=h3.ext a9;refine zh ?_;refine zvH (RV.ld (c2 _ (L3 _)) rfl) ?_;refine aT (M5 w1) (dQ li) 3 (L3 w1) rfl rfl rfl rfl rfl ?_ ?_
 ·intro a1;refine zh ?_;refine zvH (RV.ld (c0 _ (L3 _)) rfl) ?_;apply zc call28 (nZ li ig w1 (h1.ext a9));rintro u w2 ⟨rfl,a5⟩;refine zh ?_;refine nE 10 4 a5 a1
 intro w2 a5;refine zh ?_;refine aT (M5 w1) (dQ lk) 3 a5 rfl rfl rfl rfl rfl ?_ ?_
 ·intro a2;refine zh ?_;refine zvH (RV.ld (c1 _ a5) rfl) ?_;apply zc call28 (nZ lk kp _ (h2.ext (a9.J a5)));rintro u w3 ⟨rfl,b'⟩;refine zh ?_;refine nE 15 4 (a5.J b') a2
 intro w3 b5;refine zh ?_;rw[<-hA];apply zlp (λy:Nat×Bool×Lu=>[(1,nP xb),(3,.bool y.2.1),(4,nI y.1)]) (λy=>y.2.2) (λy=>y.1<=xs.length/\M5 w1 y.2.2/\(y.2.1=true->A=true/\∀j,j<y.1->lM (nth ts j)=true)/\(y.2.1=false->dE li lk ts=false)) (λy=>xs.length-y.1) (0,A,w3) ⟨Ll _,b5,λe=>⟨e,λj hj=>absurd hj (Lo j)⟩,λe=>by dsimp only at e;rw[hR,e];rfl⟩;rintro⟨i,ok,w4⟩ ⟨hi,a3,hT,hF⟩;dsimp only at hi a3 hT hF ⊢;have c5:=g3.ext a3;refine zh ?_;refine zvH (RV.ld (c2 _ a3) rfl) ?_;refine aT (λw1=>_=w1) ok 1 rfl rfl rfl rfl rfl rfl ?_ ?_
 ·intro b1;refine zh ?_;refine nE 25 2 rfl b1
 rintro _ rfl;refine zh ?_;refine zC ?_ ?_
 ·intro hc;simp only[ln,decide_eq_true_eq]at hc;obtain⟨a7,rfl⟩:=hc;replace a7:i<xs.length:=zo;obtain⟨b6,a0⟩:=hT rfl;have a6:=h5 i a7;have ox:=cm (b:=(nth xs i).2.2) a6.1.one a6.2.1.one;obtain⟨z1,z2⟩:=f4 i zo;refine zh ?_;refine zvH (RV.ld (c2 _ a3) rfl) ?_;apply zv (ah (us:=cB (nth xs i)) (λj u hu=>c5.cell a7 hu) (isAgg49 _) (Mr _) rfl);apply au (aw w4) 1 zo (zeroValue49 _) rfl;intro kb w5 O5 b2 b9 c8 c';apply zsb (us:=(cB (nth xs i)).toArray) b2 (Mr _) (Ni.2 ox);have b8:=b2.setRow (us:=(cB (nth xs i)).toArray);have a8:M5 w4 (w5.setRow kb (cB (nth xs i)).toArray):=(b9.J (Lq zd b2.tag rfl)).ext;generalize w5.setRow kb (cB (nth xs i)).toArray=w6 at *;obtain⟨lx,rx,_,_⟩:=jO b8;have b4:=(a9.J a3).J a8;refine zh ?_;apply zv (ah (us:=aY (nth xs i).1) (lx _ (L3 _)) (LL _) (Lp _) rfl);apply zc MY (cO 2000 (Lz _) (nth ts i).1 zo (nth xs i).1 w6 false (a6.1.ext b4));rintro u w7 ⟨rfl,a'⟩;rw[<-zO (t:=(nth ts i).1) zo];refine zh ?_;refine aT (M5 w6) (aZ (nth ts i).2.1) 3 a' rfl rfl rfl rfl rfl ?_ ?_
  ·intro d1;refine zh ?_;refine zvH (ah (us:=aY (nth xs i).2.1) (rx _ a') (LL _) (Lp _) rfl) ?_;apply zc MY (cO 2000 (Lz _) (nth ts i).2.1 zo (nth xs i).2.1 _ false (a6.2.1.ext (b4.J a')));rintro u w8 ⟨rfl,a4⟩;rw[<-zO (t:=(nth ts i).2.1) zo];refine zh ?_;refine nE 38 4 (a'.J a4) d1
  intro w8 a4;refine zh ?_;refine aT (M5 w6) ((dG (nth ts i).2.1==0)) 4 a4 rfl rfl rfl rfl rfl ?_ ?_
  ·intro d2;have b7:aZ (nth ts i).2.1=true:=by simp only[ln]at d2;exact d2.2
   refine zh ?_;refine zvH (ah (us:=aY (nth xs i).2.1) (rx _ a4) (LL _) (Lp _) rfl) ?_
   apply zc call30 (vd (nth ts i).2.1 (nth xs i).2.1 _ (a6.2.1.ext (b4.J a4)) b7);rintro u w9 ⟨rfl,b3⟩;refine zh ?_
   refine nE 43 5 (a4.J b3) d2
  intro w9 b3;refine zh ?_;refine zxd (i+1,lM (nth ts i),w9) ⟨a7,(a3.J a8).J b3,λe=>⟨b6,λj hj=>(ka.1 hj).elim (a0 j) (λq=>by rw[q];exact e)⟩,λe=>by rw[hR,JG a7 e,MG]⟩
 intro hc;simp only[N1,decide_eq_false_iff_not]at hc;have hv:ok=dE li lk ts:=by
  cases ok with
  |false=>exact(hF rfl).symm
  |true=>
   obtain⟨b6,a0⟩:=hT rfl;have c6:xs.length<=i:=by
    rcases hc with hc|hc
    ·omega
    cases hc
   rw[hR,b6,GZ λj hj=>a0 j zo];rfl
 refine zh ?_;refine af rfl rfl ⟨by rw[hv],a9.J a3⟩
def PostC.shape{ts:List R3}(h:N0 B w v li lk ts):∃cs:List LK,∃e:Int,v=.tuple #[.agg cs.toArray,nI e]/\cs.length=17/\(cs.all Nn=true):=by
 rcases h with⟨_,rfl⟩|⟨_,⟨a,b,a1,a0,u,_,_,_,_,_,_,rfl,hT,_⟩|⟨_,rfl⟩⟩
 ·exact⟨_,1,rfl,rfl,rfl⟩
 ·obtain⟨gv,lc,rc,rfl,h1,h2,h3⟩:=hT;obtain⟨ll,lo⟩:=h2.one;obtain⟨rl,ro⟩:=h3.one;refine⟨_,0,rfl,by simp[ll,rl],?_⟩;rw[Ni];intro x hx;simp only[Mq,Ls,Ng,or_false]at hx
  rcases hx with(hx|hx)|hx
  ·rcases hx with rfl|rfl|rfl|rfl|rfl
   ·rfl
   ·rfl
   ·rfl
   ·rfl
   exact h1.one
  ·exact lo x hx
  exact ro x hx
 exact⟨_,7,rfl,rfl,rfl⟩
def TabV.ext{w w':Lu}{v:LK}{t:TabM}(h:TabV w v t)(e:M5 w w'):TabV w' v t:=by
 obtain⟨gv,lc,rc,rfl,h1,h2,h3⟩:=h;exact⟨gv,lc,rc,rfl,h1.ext e,h2.ext e,h3.ext e⟩
def TabN.mono{B B':Nat}{v:LK}(h:TabN B v)(hb:B'<=B):TabN B' v:=λcs e x hx=>(h cs e x hx).mono hb
def PostC.ext{B B':Nat}{w w':Lu}{v:LK}{li lk:List Int}{ts:List R3}(h:N0 B w v li lk ts)(e:M5 w w')(hb:B'<=B):N0 B' w' v li lk ts:=by
 rcases h with h|⟨h0,⟨a,b,a1,a0,u,h1,h2,h3,h4,h5,h6,h7,hT,hN⟩|h⟩
 ·exact .inl h
 ·exact .inr ⟨h0,.inl ⟨a,b,a1,a0,u,h1,h2,h3,h4,h5,h6,h7,hT.ext e,hN.mono hb⟩⟩
 exact .inr ⟨h0,.inr h⟩
def PostC.U{B:Nat}{S:Nat->Prop}{O O':Nat->Nat}{w0 w w':Lu}{v:LK}{li lk:List Int}{ts:List R3}(h:N0 w0.heap.size w v li lk ts)(r:Rng B O w0)(u:MF S O w O' w'):N0 w0.heap.size w' v li lk ts:=by
 rcases h with h|⟨h0,⟨a,b,a1,a0,x,h1,h2,h3,h4,h5,h6,h7,hT,hN⟩|h⟩
 ·exact .inl h
 ·refine .inr ⟨h0,.inl ⟨a,b,a1,a0,x,h1,h2,h3,h4,h5,h6,h7,?_,hN⟩⟩;obtain⟨gv,lc,rc,rfl,k1,k2,k3⟩:=hT;have hn:=hN _ rfl;have n1:NewV w0.heap.size gv:=hn gv (by simp);exact⟨gv,lc,rc,rfl,k1.U (n1.free k1 (λx _=>by simp) r) u,k2.U (λx hx=>hn x (by simp[hx])) r u,k3.U (λx hx=>hn x (by simp[hx])) r u⟩
 exact .inr ⟨h0,.inr h⟩
def KY(B:Nat)(w:Lu)(v:LK):TK->Prop
 |.bad p e=>v=.tuple #[.agg tab0,nI (p:Int),nI e]/\e≠0
 |.ok st=>∃(cs:List LK) (e:Int),v=.tuple #[.agg cs.toArray,nI 0,nI e]/\N0 B w (.tuple #[.agg cs.toArray,nI e]) st.li st.lk st.ts
def yQ(l l':List Bool)(av bv:LK)(w:Lu)(h:Sl xg 1 w av l)(h':Sl xg 1 w bv l'):Nz MT 21 [av,bv] w λv w'=>v=.bool (decide (l=l'))/\M5 w w':=by
 have q1:=h.len_le;have q2:=h'.len_le;apply LD func21 ntmps21 rfl rfl;refine zh ?_;refine zvH (Nb h' Mu rfl) ?_;refine zC ?_ ?_
 ·intro a4;have a1:¬l=l':=λe=>by subst e;simp at a4
  refine zh ?_;refine af rfl rfl ⟨by rw[decide_eq_false a1],L3 w⟩
 intro a7;have a9:l.length=l'.length:=by have:=of_decide_eq_true (p:=((l.length:Int)=(l'.length:Int))) (by simpa using a7);omega
 refine zh ?_;apply zlp (λz:Nat×Lu=>[(0,av),(1,bv),(5,nI (z.1:Nat))]) (λz=>z.2) (λz=>z.1<=l.length/\M5 w z.2/\∀i,i<z.1->nth l i=nth l' i) (λz=>l.length-z.1) (0,w) ⟨Ll _,L3 w,λi hi=>absurd hi (Lo i)⟩
 rintro⟨k,w1⟩ ⟨hk,hE,a0⟩;dsimp only at hk hE a0 ⊢;have h1:=h.ext hE;have h2:=h'.ext hE;refine zh ?_;refine zC ?_ ?_
 ·intro a2;replace a2:k<l.length:=dT a2;have e1:w1.cell? (adr av 1 k)=some (.bool (nth l k)):=by have:=h1.cell (i:=k) (j:=0) a2 rfl;rw[ar]at this;exact this
  have e2:w1.cell? (adr bv 1 k)=some (.bool (nth l' k)):=by have:=h2.cell (i:=k) (j:=0) zo rfl;rw[ar]at this;exact this
  refine zh ?_;apply aN (λW=>W.cell? (adr av 1 k)=some (.bool (nth l k))/\W.cell? (adr bv 1 k)=some (.bool (nth l' k))) 9 rfl zk
  refine zin ⟨e1,e2⟩ λzS=>?_
  apply zrm 0 rfl zS rfl;apply zrm 1 rfl zS rfl
  apply zr 2 rfl zS (λ_=>ai h1.sh underlying70 (NK _) rfl rfl k rfl zo);apply zt 3 rfl zS (λw1 a3=>RV.ld a3.1 rfl)
  apply zrm 4 rfl zS rfl;apply zrm 5 rfl zS rfl
  apply zr 6 rfl zS (λ_=>ai h2.sh Mu (NK _) rfl rfl k rfl zo);apply zt 7 rfl zS (λw1 a3=>RV.ld a3.2 rfl)
  apply zr 8 rfl zS (λ_=>JN underlying4 rfl rfl);apply Mz zk
  refine zh ?_;refine zC ?_ ?_
  ·intro a4;have a1:¬l=l':=λe=>by subst e;simp at a4
   refine zh ?_;refine af rfl rfl ⟨by rw[decide_eq_false a1],hE.drew⟩
  intro a7;have a6:nth l k=nth l' k:=by simpa using a7
  refine zh ?_;have a8:∀i,i<k+1->nth l i=nth l' i:=λi hi=>(ka.1 hi).elim (a0 i) (λe=>by rw[e];exact a6)
  refine zxd (k+1,w1.drew) ⟨a2,hE.drew,a8⟩
 intro b0;have a':k=l.length:=dF b0;subst a';have a5:l=l':=List.ext_getElem a9 λi i1 i2=>by have:=a0 i i1;rwa[aB i1,aB i2]at this
 refine zh ?_;refine af rfl rfl ⟨by rw[decide_eq_true a5],hE⟩
def GI(x:Int):List Int->List Int
 |[]=>[x]
 |y::r=>if x<y then x::y::r else if x=y then y::r else y::GI x r
def xm(l:List Int):List Int:=l.foldr GI []
def tL(x z:Int):∀l:List Int,z∈GI x l↔z=x\/z∈l
 |[]=>by simp[GI]
 |y::r=>by
  unfold GI
  split
  ·simp
  split
  ·rename_i h;subst h;simp
  rw[Ls,tL x z r,Ls]
  constructor
  ·rintro(h|h|h)
   ·exact .inr (.inl h)
   ·exact .inl h
   exact .inr (.inr h)
  rintro(h|h|h)
  ·exact .inr (.inl h)
  ·exact .inl h
  exact .inr (.inr h)
def Dx(x:Int):∀l:List Int,l.Pairwise (· < ·)->(GI x l).Pairwise (· < ·)
 |[],_=>by simp[GI]
 |y::r,h=>by
  obtain⟨h1,h2⟩:=M6.1 h;unfold GI
  split
  ·rename_i hxy;refine M6.2 ⟨λz hz=>?_,h⟩
   rcases Ls.1 hz with rfl|hz
   ·exact hxy
   have:=h1 z hz;omega
  split
  ·exact h
  refine M6.2 ⟨λz hz=>?_,Dx x r h2⟩
  rcases(tL x z r).1 hz with rfl|hz
  ·omega
  exact h1 z hz
def qm(l:List Int):(∀x,x∈xm l↔x∈l)/\(xm l).Pairwise (· < ·):=by
 induction l with
 |nil=>exact⟨λx=>Iff.rfl,.nil⟩
 |cons a l ih=>
  refine⟨λx=>?_,Dx a _ ih.2⟩;show x∈GI a (xm l)↔_;rw[tL,ih.1,Ls]
def Ii:∀(a b:List Int),a.Pairwise (· < ·)->b.Pairwise (· < ·)->(∀x,x∈a↔x∈b)->a=b
 |[],[],_,_,_=>rfl
 |[],y::r,_,_,h=>absurd ((h y).2 (by simp)) (by simp)
 |x::a,[],_,_,h=>absurd ((h x).1 (by simp)) (by simp)
 |x::a,y::b,ha,hb,h=>by
  obtain⟨a1,a2⟩:=M6.1 ha;obtain⟨b1,b2⟩:=M6.1 hb;have a4:x=y:=by
   rcases Ls.1 ((h x).1 (by simp))with e|e
   ·exact e
   rcases Ls.1 ((h y).2 (by simp))with e'|e'
   ·exact e'.symm
   have:=a1 y e';have:=b1 x e;omega
  subst a4;congr 1;refine Ii a b a2 b2 λz=>?_
  have hz:=h z;simp only[Ls]at hz
  constructor
  ·intro a3
   rcases hz.1 (.inr a3)with e|e
   ·subst e;exact absurd (a1 z a3) zo
   exact e
  intro a0
  rcases hz.2 (.inr a0)with e|e
  ·subst e;exact absurd (b1 z a0) zo
  exact e
def GT(l:List Int):sC l=xm l:=Ii _ _ (tZ l) (qm l).2 λx=>by rw[xk,(qm l).1]
def Ki(se:Bool)(g:Gr)(s:List Int)(m:Int):List Int:=xm (Km se g s m)
def step_eq(se:Bool)(g:Gr):cD se g=Ki se g:=funext λ_=>funext λ_=>GT _
def stK(se:Bool)(ts:List Nd):Option (List (List Nat)×List Nat):=if dS ts=0 then D2 (Ki se (dy ts)) (df (dy ts))else none
def stM_eq(se:Bool)(ts:List Nd):stM se ts=stK se ts:=by unfold stM stK;rw[step_eq]
abbrev ou:List R3:=[(.mk 0 1 [],.mk 0 2 [],false)]
def zi:dE [] [] ou=true:=by decide +kernel
def Fh:(stM true (fM ou)).isSome=true:=by rw[stM_eq];decide +kernel
def Fg:(stM false (cR ou)).isSome=true:=by rw[stM_eq];decide +kernel
def xB:za [] [] [1,2,2] ou=[true,false,true,true]:=by decide +kernel
def PostC.made{ts:List R3}(h:N0 B w v li lk ts):
  (∃e:Int,e≠0/\v=.tuple #[.agg tab0,nI e]/\((e=1/\dE li lk ts=false)\/(e=7/\dE li lk ts=true/\(stM true (fM ts)=none\/stM false (cR ts)=none))))\/
  ∃a b a1 a0 gv lc rc,Made li lk ts a b a1 a0/\v=.tuple #[.agg (dY (bF li lk ts a b a1 a0).ig (bF li lk ts a b a1 a0).kp (bF li lk ts a b a1 a0).br (bF li lk ts a b a1 a0).rules gv lc rc).toArray,nI 0]/\
   Ints w gv (bF li lk ts a b a1 a0).groups/\NF w lc (bF li lk ts a b a1 a0).left (bF li lk ts a b a1 a0).lt/\NF w rc (bF li lk ts a b a1 a0).right (bF li lk ts a b a1 a0).rt/\JX B (gv::(lc++rc)):=by
 rcases h with⟨h0,rfl⟩|⟨h0,⟨a,b,a1,a0,u,h1,h2,h3,h4,h5,h6,rfl,hT,hN⟩|⟨h1,rfl⟩⟩
 ·exact .inl ⟨1,zd,rfl,.inl ⟨rfl,h0⟩⟩
 ·obtain⟨gv,lc,rc,rfl,k1,k2,k3⟩:=hT;have hn:=hN _ rfl;exact .inr ⟨a,b,a1,a0,gv,lc,rc,⟨h0,h1,h2,h3,h4,h5,h6⟩,rfl,k1,k2,k3,λx hx=>hn x (by simp only[Mq,Ls,Ng,or_false]at hx ⊢;rcases hx with hx|hx|hx<;>simp[hx])⟩
 exact .inl ⟨7,zd,rfl,.inr ⟨rfl,h0,h1⟩⟩
mutual
def Am:∀(t:Nd) (b:Bool),bP t b=true->∀e∈tD t,e.1=0\/e.1=1\/e.1=2\/e.1=3
 |.mk k c l,b,h=>by
  unfold bP at h
  rw[ln]at h
  obtain⟨h1,h2⟩:=h
  unfold tD
  intro e he
  by_cases hl:l.isEmpty=true/\k≠9
  ·rw[ap hl]at he
   rw[Li.1 he]
   have hl0:l.length=0:=by have:=hl.1;simp at this;rw[this];rfl
   have hc:=dv h1
   rw[hl0]at hc
   have:=hl.2
   show k=0\/k=1\/k=2\/k=3
   omega
  rw[am hl]at he
  exact vy l h2 e he
def vy:∀(l:List Nd),eT l=true->∀e∈ew l,e.1=0\/e.1=1\/e.1=2\/e.1=3
 |[],_,e,he=>by cases he
 |t::r,h,e,he=>by
  rw[eT,ln]at h
  unfold ew at he
  rcases Mq.1 he with he|he
  ·exact Am t true h.1 e he
  exact vy r h.2 e he
end
def vx:∀(l:List Nd),(∀t∈l,aZ t=true)->∀e∈ew l,e.1=0\/e.1=1\/e.1=2\/e.1=3
 |[],_,e,he=>by cases he
 |t::r,h,e,he=>by
  unfold ew at he
  rcases Mq.1 he with he|he
  ·have ht:=h t (by simp);unfold aZ at ht;rw[ln]at ht;exact Am t false ht.2 e he
  exact vx r (λx hx=>h x (by simp[hx])) e he
def vt{ts:List Nd}(h:∀t∈ts,aZ t=true)(a0:ts.length<=40)(hl:aA ts<=999):dS ts=0:=by
 unfold dS;rw[am zo,am,am zo];simp only[Bool.not_eq_true];exact List.any_eq_false.2 λt ht=>by rw[h t ht];decide
def pD{f f':List Int->Int->List Int}{s:List Int}(S:List (List Int))(h:∀m,f s m=f' s m):∀m,bX f s S m=bX f' s S m
 |0=>rfl
 |m+1=>by unfold bX;rw[pD S h m,h]
def so{xs:List Nd}(hk:bL xs=true)(hs:aU xs=true)(se:Bool)(eQ:Nat):∀(n i:Nat) (S:List (List Int)) (rows:List (List Nat)) (a0:List Nat),(∀s∈S,inP (dy xs) s)->BM (dD (fh xs 0 gH) se) (lC (fh xs 0 gH)) eQ n i S rows a0=BM (cD se (dy xs)) (df (dy xs)) eQ n i S rows a0
 |0,_,_,_,_,_=>rfl
 |n+1,i,S,rows,a0,hS=>by
  obtain⟨hw,h0⟩:=pL xs;unfold BM
  by_cases hi:i<S.length
  ·have a2:=hS _ (aJ hi);have hr:=pD (f:=dD (fh xs 0 gH) se) (f':=cD se (dy xs)) (s:=nth S i) S (λm=>F5 hk hs se a2 m) 37;have a1:=gR (cD se (dy xs)) (nth S i) S 37;rw[ap hi,ap hi,hr,FW hk hs a2]
   split
   ·rfl
   exact so hk hs se eQ n _ _ _ _ λs a3=>by
    rcases a1.mem s a3 with h|⟨j,_,rfl⟩
    ·exact hS s h
    exact sV hw h0 (iV se _) a2 _
  rw[am hi,am hi]
def KL{d:List (List Nat)×List Nat}(hr:ND d.1 d.2):∃cl,Cls cl d:=by
 have a8:=hr.nx;obtain⟨D,hD⟩:∃D:Nat->Nat->Bool,D=eU (nxD d.1) (nth d.2) d.1.length:=⟨_,rfl⟩
 have a6:=λp q hp hq=>DZ (tl:=nth d.2) a8 hr.pos p q hp hq
 rw[<-hD]at a6;have a5:∀p,D p p=false:=λp=>by rw[hD];exact oW _ _
 have a4:∀p q,D p q=D q p:=λp q=>by rw[hD];exact jY _ _ _
 have a0:∀p q s,D p q=false->D q s=false->D p s=false:=λp q s=>by rw[hD];exact fV _ _ _ _
 refine⟨λp=>((N7 d.1.length).findIdx? λq=>!D q p).getD 0,λp q hp hq=>?_⟩;rw[<-a6 p q hp hq];have a7:∀p,p<d.1.length->∃k,k<d.1.length/\(N7 d.1.length).findIdx? (λq=>!D q p)=some k/\D k p=false:=λp hp=>by
  cases hf:(N7 d.1.length).findIdx? (λq=>!D q p)with
  |none=>
   have:=List.findIdx?_eq_none_iff.1 hf p (List.mem_range.2 hp);rw[a5]at this
   cases this
  |some k=>
   obtain⟨h1,h2,_⟩:=List.findIdx?_eq_some_iff_getElem.1 hf;simp only[List.length_range]at h1;refine⟨k,h1,rfl,?_⟩;simpa using h2
 obtain⟨k1,a1,a2,a3⟩:=a7 p hp;obtain⟨k2,b1,b2,b3⟩:=a7 q hq
 constructor
 ·intro h;dsimp only at h;rw[a2,b2]at h;have h:k1=k2:=h;subst h;exact a0 p k1 q (by rw[a4];exact a3) b3
 intro h;dsimp only;have e:(λx=>!D x p)=λx=>!D x q:=by
  funext x;congr 1;rw[ME]
  constructor
  ·intro hx;refine MN λhn=>?_
   have:=a0 x q p (by simpa using hn) (by rw[a4];exact h);rw[this]at hx
   cases hx
  intro hx;refine MN λhn=>?_
  have:=a0 x p q (by simpa using hn) h;rw[this]at hx
  cases hx
 rw[e]
def A9(li lk:List Int)(ts:List R3)(v:LK)(w:Lu)(h:Tx w v li lk ts):Nz MT 4 [v] w λu w'=>∃g,u=.bool g/\M5 w w'/\(g=true->Few li lk ts/\ts.length<=8/\cM (fM ts)+cM (cR ts)<=60):=by
 obtain⟨ig,kp,ru,xs,rfl,h1,h2,h3,h4,h5⟩:=h;have o1:=h1.one;have o2:=h2.one;have o3:=h3.one;have b2:∀i,i<ts.length->cM (fM (ts.take (i+1)))+cM (cR (ts.take (i+1)))=cM (fM (ts.take i))+cM (cR (ts.take i))+(nsz (nth ts i).1+nsz (nth ts i).2.1):=λi hi=>by
  unfold fM cR;rw[aG hi,MD,MD,fK,fK];simp only[List.map_cons,List.map_nil,cM];omega
 apply LD func4 ntmps4 rfl rfl;refine zh ?_
 apply aI (aw w) 1 zo rfl rfl;intro xb w1 O1 b0 c5 c6 a3;have b8:Tx w1 (zP ig kp ru) li lk ts:=⟨⟨ig,kp,ru,xs,rfl,h1.ext a3,h2.ext a3,h3.ext a3,h4,λi hi=>(h5 i hi).ext a3⟩⟩
 have c2:w1.cell? (nA xb 2)=some ru:=b0.cell 2 rfl;refine zh ?_;apply zv (ah (us:=[ig,kp,ru]) b0.V (isAgg26 _) (sizeOf26 _) rfl);apply zc call15 (DD li lk ts (zP ig kp ru) w1 b8);rintro _ w2 ⟨g,rfl,a7,hg⟩;have g3:=h3.ext (a3.J a7);refine zh ?_;refine bR (λw1=>_=w1) (decide ((8:Int)<(xs.length:Int))) 4 rfl rfl rfl rfl rfl rfl ?_ ?_
 ·intro a1;refine zh ?_;refine zvH (RV.ld (a7.cell c2) rfl) ?_;refine nE 7 5 rfl a1
 rintro _ rfl;refine zh ?_;refine zC ?_ ?_
 ·intro hc;refine zh ?_;refine af rfl rfl ⟨false,rfl,a3.J a7,λe=>by cases e⟩
 intro hc;simp only[M4,decide_eq_false_iff_not]at hc;obtain⟨b7,b'⟩:=hc;have a':=hg b7;have h8:ts.length<=8:=zo;have a8:=a3.J a7;refine zh ?_;apply zlp (λy:Nat×Nat×Lu=>[(1,nP xb),(3,nI (y.2.1:Nat)),(4,nI y.1)]) (λy=>y.2.2) (λy=>y.1<=xs.length/\y.2.1<=302*y.1/\(y.2.1<=60->cM (fM (ts.take y.1))+cM (cR (ts.take y.1))<=y.2.1)/\M5 w2 y.2.2) (λy=>xs.length-y.1) (0,0,w2) ⟨Ll _,by dsimp only;omega,λ_=>by simp[cM],L3 _⟩;rintro⟨i,s,w3⟩ ⟨hi,a6,a2,a5⟩;dsimp only at hi a6 a2 a5 ⊢;have d2:=(a7.J a5).cell c2;have a9:=g3.ext a5;refine zh ?_;refine aT (λw1=>_=w1) (decide ((s:Int)<=60)) 2 rfl rfl rfl rfl rfl rfl ?_ ?_
 ·intro b1;refine zh ?_;refine nE 18 3 rfl b1
 rintro _ rfl;refine zh ?_;refine zC ?_ ?_
 ·intro hc;simp only[ln,decide_eq_true_eq]at hc;have a4:i<xs.length:=zo;have b2:=b2 i zo;have a2:=a2 zo;have b3:=(h5 i a4).ext (a8.J a5);have b5:∀W,M5 w3 W->∀(j:Nat) (u:LK),(aY (nth xs i).1)[j]? = some u->W.cell? (((adr ru 7 i).add 0).add j)=some u:=λW hE=>(iX (a9.ext hE) a4).1
  have b4:∀W,M5 w3 W->∀(j:Nat) (u:LK),(aY (nth xs i).2.1)[j]? = some u->W.cell? (((adr ru 7 i).add 3).add j)=some u:=λW hE=>(iX (a9.ext hE) a4).2.1
  refine zh ?_;apply AW (M5 w3) zk zk ((L3 w3).drew)
  apply kG (λw1 a0=>Ly rfl) rfl;apply kG (λw1 a0=>MK 2 NJ rfl rfl (sizeOf23 _) zd rfl) rfl
  apply kG (λw1 a0=>NW (by first|exact a0.cell d2) (isAgg23 _) rfl) rfl;apply kG (λw1 a0=>Ly rfl) rfl
  apply kG (λw1 a0=>M1 (a9.ext a0) LU (Mr _) rfl rfl i rfl a4) rfl;apply kG (λw1 a0=>MK 0 NI rfl rfl (Lp _) zd rfl) rfl
  apply kG (λw1 a0=>ah (us:=aY (nth xs i).1) (b5 _ a0) (LL _) (Lp _) rfl) rfl;apply NS NR rfl (λw1 a0=>(gQ (nsz (nth ts i).1) (nth ts i).1 (Lz _) (nth xs i).1 _ 60 (b3.1.ext a0) zd).mono λv w' h=>⟨h.1,a0.J h.2⟩) rfl
  apply kG (λw1 a0=>N5 rfl rfl (MS zo)) rfl;apply kG (λw1 a0=>MK 2 NJ rfl rfl (sizeOf23 _) zd rfl) rfl
  apply kG (λw1 a0=>NW (by first|exact a0.cell d2) (isAgg23 _) rfl) rfl;apply kG (λw1 a0=>Ly rfl) rfl
  apply kG (λw1 a0=>M1 (a9.ext a0) LU (Mr _) rfl rfl i rfl a4) rfl;apply kG (λw1 a0=>MK 3 NI rfl rfl (Lp _) zd rfl) rfl
  apply kG (λw1 a0=>ah (us:=aY (nth xs i).2.1) (b4 _ a0) (LL _) (Lp _) rfl) rfl;apply NS NR rfl (λw1 a0=>(gQ (nsz (nth ts i).2.1) (nth ts i).2.1 (Lz _) (nth xs i).2.1 _ 60 (b3.2.1.ext a0) zd).mono λv w' h=>⟨h.1,a0.J h.2⟩) rfl
  apply kG (λw1 a0=>N5 rfl rfl (MS zo)) rfl;apply kG (λw1 a0=>Mt rfl) rfl
  apply WQ.nil;intro w4 b9;refine zh ?_
  rw[show(s:Int)+((min (nsz (nth ts i).1) (60+1):Nat):Int)+((min (nsz (nth ts i).2.1) (60+1):Nat):Int)=((s+(min (nsz (nth ts i).1) 61+min (nsz (nth ts i).2.1) 61):Nat):Int)from by omega];refine zxd (i+1,s+(min (nsz (nth ts i).1) 61+min (nsz (nth ts i).2.1) 61),w4) ⟨a4,by dsimp only;omega,λh=>by dsimp only at h ⊢;omega,a5.J b9⟩
 intro hc;refine zh ?_;refine af rfl rfl ⟨_,rfl,a8.J a5,λh=>⟨a',h8,?_⟩⟩;have c7:(s:Int)<=60:=of_decide_eq_true h;rw[N1,decide_eq_false_iff_not,decide_eq_false_iff_not]at hc;have b6:i=ts.length:=zo;have:=a2 zo;rw[b6,Nf]at this;omega
def Im:∀(xs:List Nd) (i:Nat) (o:AllR),(∀x∈o.of,x<i)->∀x∈(fh xs i o).of,x<i+xs.length
 |[],i,o,h,x,hx=>by have:=h x hx;simpa using this
 |t::xs,i,o,h,x,hx=>by
  have:=Im xs (i+1) (gG o t i) (λy hy=>by
   rcases Mq.1 (show y∈o.of++List.replicate (aK t) i from hy)with hy|hy
   ·have:=h y hy;omega
   have:=(List.mem_replicate.1 hy).2;omega) x hx
  simp only[MM];omega
set_option linter.constructorNameAsVariable false in
set_option maxHeartbeats 1000000 in
def pY(se:Bool)(ts:List Nd)(ys:List N3)(sv:LK)(w:Lu)(hs:Sl aY 3 w sv ys)(hl:ts.length=ys.length)(hk:∀i,i<ys.length->Nt (λ_=>0) w (nth ts i) (nth ys i))(hr:∀t∈ts,aZ t=true)(f9:ts.length<=40)(f8:cM ts<=60) 
  (cl:Nat->Nat) (e9:∀d,stM se ts=some d->Cls cl d) :
  Nz MT 10 [.bool se,sv] w λv w'=>M5 w w'/\∃nv tv ok,v=.tuple #[.agg #[nv,tv],.bool ok]/\nv.oneCell'=true/\tv.oneCell'=true/\
   (ok=true->∃d,stM se ts=some d/\ND d.1 d.2/\RowsN w' nv (aV cl d.1 d.2).1/\Sl fq 1 w' tv (aV cl d.1 d.2).2):=by
 obtain⟨d1,d6⟩:=iq hr;have hB:=yS ts 0 gH (by have:=fN ts;omega);have hA:=my ts 0 gH d1 d6 rfl (λj hj=>by cases hj);have g2:=fN ts;have g1:=du ts;obtain⟨b1,b2,b3,b4,b5,b6⟩:=hB;simp only[gH,List.length_nil,NA]at b1 b2 b3 b4 b5;rw[show(⟨[],[],[],[],[],0⟩:AllR)=gH from rfl]at b1 b2 b3 b4 b5;have b6:=b6 zd zo;have a4:∀e∈(fh ts 0 gH).lv,e.1=0\/e.1=1\/e.1=2\/e.1=3:=by
  rw[show(fh ts 0 gH).lv=ew ts from hA.lv];exact vx ts hr
 have e8:0∉(fh ts 0 gH).l:=λh=>by have:=hA.lr 0 h;omega
 have b7:∀i,nth (fh ts 0 gH).of i<60:=λi=>by
  by_cases hi:i<(fh ts 0 gH).of.length
  ·have:=Im ts 0 gH (λx hx=>by cases hx) _ (aJ hi);omega
  rw[eF zo];decide
 have e':=so d1 d6 se 40 1002 0 [[0]] [] [] (λs hs=>by
  rw[Li.1 hs];exact λx hx=>by rw[Li.1 hx];exact⟨N6 _,Ll _⟩)
 have c8:stM se ts=D2 (cD se (dy ts)) (df (dy ts)):=by unfold stM;rw[ap (vt hr f9 zo)]
 apply LD func10 ntmps10 rfl rfl;refine zh ?_
 apply au (aw w) 7 zo (MB _) rfl;intro cb w1 O1 d3 f3 e3 e5;refine zh ?_
 apply zc call34 (Dg se ts ys sv w1 (hs.ext e5) hl (λi hi=>(hk i hi).ext e5) d1 f8);rintro _ w2 ⟨ab,rfl,e4,hD⟩;apply zc call33 (Df w2 ab se (fh ts 0 gH) hD a4 zo zo zo b6 b7 e8)
 rintro v w3 ⟨f6,hP⟩;rw[e']at hP;have d5:=e4.J f6;have d4:MF (λ_=>False) O1 w1 O1 w3:=aa (λh=>h) O1 d5;have b8:=d3.U d4 zd (λh=>h);have e1:=e3.U d4;have b':MF (λq=>q=1\/q=7) (λ_=>0) w O1 w3:=(f3.mono (λ_ h=>.inr h) zd).J (d4.mono (λ_ h=>h.elim) zd);generalize hd:BM (cD se (dy ts)) (df (dy ts)) 40 1002 0 [[0]] [] []=D at *
 cases D with
 |none=>
  obtain rfl:=hP;apply au e1 1 zo (MB _) rfl;intro db w4 O4 a0 a6 e0 f5;apply zsa (us:=#[nS,nS]) a0 (M0 _);have a1:=a0.setRow (us:=#[nS,nS]);have a3:MF (λj=>j=1) O4 w4 O4 (w4.setRow db #[nS,nS]):=Lq zd a0.tag rfl;have a2:=(b8.U a6 zd zd).U a3 zd zd;have a7:=b'.J ((a6.J a3).mono (λ_ h=>.inl h) zd);generalize w4.setRow db #[nS,nS]=w5 at *;have d0:w5.cell? (nA db 0)=some (nS):=a1.cell 0 rfl;refine zh ?_;refine zvH (aM (sl0 (enc:=sn) (sz:=1) (α:=LK) w5).sh underlying50 rfl) ?_;refine zTH rfl rfl ?_;apply zv (ah (us:=[nS,nS]) a1.V (MI _) (M0 _) rfl);apply zsa (us:=#[nS,nS]) a2 (M0 _);have d2:=a2.setRow (us:=#[nS,nS]);have b9:MF (λj=>j=7) O4 w5 O4 (w5.setRow cb #[nS,nS]):=Lq zd a2.tag rfl;refine zh ?_;refine bz rfl rfl rfl d2.V (MI _) (M0 _) ⟨(a7.J (b9.mono (λ_ h=>.inr h) zd)).ext,_,_,false,rfl,rfl,rfl,λh=>by cases h⟩
 |some d=>
  obtain⟨nv,tv,rfl,d7,a9,e7⟩:=hP;have d8:D2 (cD se (dy ts)) (df (dy ts))=some d:=D1 zd _ _ _ _ _ _ hd;obtain⟨S,f7⟩:=jv d8;have c9:=f7.right;have e6:=c9.pos;rw[d8]at c8;have o1:=d7.rows.one;have o2:=a9.one;apply au e1 1 zo (MB _) rfl;intro db w4 O4 a0 a6 e0 f5;apply zsb (us:=#[nv,tv]) a0 (M0 _) (by simp only[LN,o1,o2];rfl);have a1:=a0.setRow (us:=#[nv,tv]);have a3:MF (λj=>j=1) O4 w4 O4 (w4.setRow db #[nv,tv]):=Lq zd a0.tag rfl;have a2:=(b8.U a6 zd zd).U a3 zd zd;have a7:=b'.J ((a6.J a3).mono (λ_ h=>.inl h) zd);have d':=e0.U a3;generalize w4.setRow db #[nv,tv]=w5 at *;have e2:=e3.ext e4;have b0:=d7.U e2 (a6.J a3);have c7:=e7.slU a9 e2 (a6.J a3);obtain⟨f',g0,hv5l,hv5k⟩:=b0.rows;have d0:w5.cell? (nA db 0)=some nv:=a1.cell 0 rfl;refine zh ?_;refine zFH rfl ((by rw[beq_eq_false_iff_ne];omega)) ?_;apply zv (ah (us:=[nv,tv]) a1.V (MI _) (M0 _) rfl);apply zc call35 (yI nv tv d.1 d.2 w5 b0.rows c7 c9 cl (e9 d c8));rintro v6 w6 ⟨f4,c6,c5,rfl,a',a8,c'⟩;have d9:MF (λ_=>False) O4 w5 O4 w6:=aa (λh=>h) O4 f4;have a5:=a2.U d9 zd (λh=>h);have o3:=a'.rows.one;have o4:=a8.one;apply zsb (us:=#[c6,c5]) a5 (M0 _) (by simp only[LN,o3,o4];rfl);have d2:=a5.setRow (us:=#[c6,c5]);have b9:MF (λj=>j=7) O4 w6 O4 (w6.setRow cb #[c6,c5]):=Lq zd a5.tag rfl;refine zh ?_
  refine bz rfl rfl rfl d2.V (MI _) (M0 _) ⟨((a7.J (d9.mono (λ_ h=>h.elim) zd)).J (b9.mono (λ_ h=>.inr h) zd)).ext,c6,c5,true,rfl,o3,o4,λ_=>⟨d,c8,c9,(a'.U d' b9).rows,c'.slU a8 d' b9⟩⟩
def CF(p:PSt):p.same p=true:=by simp[PSt.same]
def pZ(g:List Nat)(many:Nat)(gv dn dt:LK)(rows:List (List Nat))(a3:List Nat)(lc:List LK)(w:Lu)(hg:GrpI g many)(b8:Sl aL 1 w gv g)(hn:RowsN w dn rows)(a5:Sl fq 1 w dt a3)(hr:ND rows a3) 
  (hc:∀i j,i<37->j<37->nth g i=nth g j->∀r∈rows,nth r i=nth r j) (hP:NF w lc (cZ g many rows) a3) :
  Nz MT 14 [.agg lc.toArray,gv,.agg #[dn,dt]] w λv w'=>v=.bool true/\M5 w w':=by
 obtain⟨uv,bv,kv,nv,tv,rfl,hu,hb,hk,hx,ht⟩:=hP;have a9:¬(λq:Nat=>1<=q) 0:=zd;have o1:=b8.one;have o2:=a5.one;apply LD func14 ntmps14 rfl rfl;refine zh ?_;apply aI (aw w) 1 zo rfl rfl;intro pb w1 O1 b5 c' d6 e3;apply aI d6 2 zo rfl rfl;intro db w2 O2 b1 c5 d0 e2;have b4:=b5.U c5 zd zd;have a8:=((c'.mono (S':=λq=>1<=q) (λq h=>zo) a9).J (c5.mono (λq h=>zo) a9)).ext;refine zh ?_;apply zv (ah (us:=[dn,dt]) b1.V (MI _) (M0 _) rfl);apply zc call37 (Bu g many gv dn dt rows a3 w2 hg (b8.ext a8) (hn.ext a8) (a5.ext a8) hr hc);rintro _ w3 ⟨d8,nn,rfl,c9⟩;have b2:MF (λ_=>False) O2 w2 O2 w3:=aa (λh=>h) O2 d8;have o3:=c9.rows.one;have d5:=d0.U b2;refine zh ?_;apply au d5 3 zo (zeroValue95 _) rfl;intro nb w4 O4 a6 d4 e0 e1;apply zsb (us:=#[gv,nn,dt]) a6 (sizeOf95 _) (by simp only[LN,o1,o2,o3];rfl);have b7:=a6.setRow (us:=#[gv,nn,dt]);have d3:MF (λq=>q=3) O4 w4 O4 (w4.setRow nb #[gv,nn,dt]):=Lq zd a6.tag rfl;generalize w4.setRow nb #[gv,nn,dt]=w5 at *;have a4:=d4.J d3;have b0:=(b4.U b2 zd (λh=>h)).U a4 zd zd;have b9:=(b1.U b2 zd (λh=>h)).U a4 zd zd;have b6:=(c9.U d0 a4).rows;have c7:M5 w w5:=((((c'.mono (S':=λq=>1<=q) (λq h=>zo) a9).J (c5.mono (λq h=>zo) a9)).J (b2.mono (λ_ h=>h.elim) a9)).J (a4.mono (λq h=>zo) a9)).ext;have d9:=a5.len_le
 have p5:∀W,M5 w5 W->W.cell? (nA pb 5)=some tv:=λW e=>e.cell (b0.cell 5 rfl)
 have d1:∀W,M5 w5 W->W.cell? (nA db 1)=some dt:=λW e=>e.cell (b9.cell 1 rfl)
 refine zh ?_;apply zv (RV.ld (by first|exact p5 w5 (L3 _)|exact d1 w5 (L3 _)) rfl)
 refine zvH (aM ht.sh MH rfl) ?_;apply zv (RV.ld (by first|exact p5 w5 (L3 _)|exact d1 w5 (L3 _)) rfl)
 refine zvH (aM a5.sh MH rfl) ?_;refine zFH rfl ((by simp)) ?_
 apply zlp (λz:Nat×Lu=>[(1,gv),(3,nP pb),(5,nP db),(7,nP nb),(9,nI (z.1:Nat))]) (λz=>z.2) (λz=>z.1<=a3.length/\M5 w5 z.2) (λz=>a3.length-z.1) (0,w5) ⟨Ll _,L3 _⟩;rintro⟨i,w6⟩ ⟨hi,a2⟩;dsimp only at hi a2 ⊢;have a1:=c7.J a2;refine zh ?_
 apply zv (RV.ld (d1 w6 a2) rfl);refine zvH (aM a5.sh MH rfl) ?_
 refine zC ?_ ?_
 ·intro a7;replace a7:i<a3.length:=dT a7;have m1:w6.cell? (adr tv 1 i)=some (.int .u64 ((nth a3 i:Nat):Int)):=by have:=(ht.ext a1).cell (i:=i) (j:=0) a7 rfl;rwa[ar]at this
  have m2:w6.cell? (adr dt 1 i)=some (.int .u64 ((nth a3 i:Nat):Int)):=by have:=(a5.ext a1).cell (i:=i) (j:=0) a7 rfl;rwa[ar]at this
  refine zh ?_;apply NO zk zk
  refine zh ?_;refine zwH (RV.ld (by first|exact p5 w6 a2|exact d1 w6 a2|exact m1|exact m2) rfl) ?_
  apply zw (ai ht.sh MH (sizeOf28 _) rfl rfl i rfl a7);refine zwH (RV.ld (by first|exact p5 w6 a2|exact d1 w6 a2|exact m1|exact m2) rfl) ?_
  refine zwH (RV.ld (by first|exact p5 w6 a2|exact d1 w6 a2|exact m1|exact m2) rfl) ?_;apply zw (ai a5.sh MH (sizeOf28 _) rfl rfl i rfl a7)
  refine zwH (RV.ld (by first|exact p5 w6 a2|exact d1 w6 a2|exact m1|exact m2) rfl) ?_;apply N9
  refine zh ?_;refine zFH rfl ((by simp)) ?_
  refine zxd (i+1,w6.drew) ⟨a7,a2.drew⟩
 intro d'
 have a':∀W,M5 w6 W->(∀j u,[nI (cZ g many rows).width,uv,bv,kv,nv][j]? = some u->W.cell? ((nA pb 0).add j)=some u)/\W.cell? (nA nb 1)=some nn:=λW e=>⟨λj u hu=>(a2.J e).cell (by
  have:=b0.V j u;rw[show(nA pb 0).add j=nA pb j from rfl];apply this
  match j,hu with
  |0,hu=>exact hu
  |1,hu=>exact hu
  |2,hu=>exact hu
  |3,hu=>exact hu
  |4,hu=>exact hu
  |j+5,hu=>simp at hu),(a2.J e).cell (b7.cell 1 rfl)⟩
 have b':=nc hg hr;refine zh ?_;apply aN (λW=>(∀j u,[nI (cZ g many rows).width,uv,bv,kv,nv][j]? = some u->W.cell? ((nA pb 0).add j)=some u)/\W.cell? (nA nb 1)=some nn) 9 rfl zk;refine zin (a' _ (L3 w6).drew) λzS=>?_
 apply zrf 0 rfl zS rfl;apply zt 1 rfl zS (λw1 b3=>ah (us:=[nI (cZ g many rows).width,uv,bv,kv,nv]) b3.1 (isAgg30 _) (sizeOf30 _) rfl)
 apply zrm 2 rfl zS rfl;apply zrf 4 rfl zS rfl
 apply zt 5 rfl zS (λw1 b3=>RV.ld b3.2 rfl);apply Ln 3 zk rfl
 apply zc call40 (rI (ints g) gv w6.drew ((b8.ext a1.drew).natIv));rintro _ wx ⟨rfl,c8⟩;rw[c8,hg.cnt];clear c8 wx;refine zh ?_
 apply ae ((a' _ (L3 w6).drew));apply Ln 6 zk rfl
 apply zc call39 (yl (many:Int) ((rows.map (lz g many)).map ints) nn w6.drew ((b6.ext a2.drew).pack) b');rintro pv w7 ⟨d2,d7⟩;have a0:=(L3 w6).drew.J d7;refine zh ?_
 apply ae ((a' _ a0));apply Ln 7 zk rfl
 apply zc call38 (Kx (cZ g many rows) (jc (many:Int) ((rows.map (lz g many)).map ints)) _ pv w7 ⟨uv,bv,kv,nv,rfl,hu.ext (a1.J a0),hb.ext (a1.J a0),hk.ext (a1.J a0),hx.ext (a1.J a0)⟩ d2);rintro _ w8 ⟨rfl,c6⟩;refine zh ?_
 apply ae ((a' _ (a0.J c6)));apply zra 8 rfl ((a' _ (a0.J c6))) rfl
 apply Mz zk;refine zh ?_
 refine af rfl rfl ⟨by rw[show jc (many:Int) ((rows.map (lz g many)).map ints)=cZ g many rows from rfl,CF],(a1.J a0).J c6⟩
def vf{ig kp rv:LK}{ts:List R3}(h1:Sl encI 1 w ig li)(h2:Sl encI 1 w kp lk)(h:RulesO (λ_=>0) w rv ts):Tx w (zP ig kp rv) li lk ts:=by
 obtain⟨zs,h3,_,h4,h5⟩:=h;exact⟨ig,kp,rv,zs,rfl,h1,h2,h3,h4,h5⟩
def lS:jw Ir=.ok ou:=by kernel_rfl
def mf(w:Lu):Nz MT 17 [.string (bs Ir)] w λv w'=>M5 w w'/\KY w.heap.size w' v (.ok ⟨ou,[],[],false,false⟩):=by
 apply LD func17 ntmps17 rfl rfl;refine zh ?_
 apply au (aw w) 1 zo (MV _) rfl;intro cb w1 O1 b0 b7 b1 b9;refine zh ?_
 apply zc call41 (rO Ir w.heap.size O1 w1 b1 zd (by unfold oR;decide) (by rw[lS];exact λh=>by cases h));rintro v w2 ⟨a7,hP⟩;rw[lS]at hP;obtain⟨xs,rv,rfl,x3,_,x4,_,x5⟩:=hP;have c6:=b1.ext a7;have hz:¬(0=1):=zo;have hx:Tx w2 (zP nilV nilV rv) [] [] ou:=⟨nilV,nilV,rv,xs,rfl,sl0 _,sl0 _,x3,x4,λi hi=>⟨(x5 i hi).1.zero,(x5 i hi).2.1.zero,(x5 i hi).2.2⟩⟩
 have o1:nilV.oneCell'=true:=rfl;have o3:=x3.one;refine zh ?_;apply au (aw w2) 1 zo (MU _) rfl;intro tb w3 O3 a2 b6 c5 c8;apply zsb (us:=#[nilV,nilV,rv]) a2 (MQ _) (by simp[o1,o3]);have a9:=a2.setRow (us:=#[nilV,nilV,rv]);have a0:=(b6.J (Lq (us:=#[nilV,nilV,rv]) zd a2.tag rfl)).ext;generalize w3.setRow tb #[nilV,nilV,rv]=w4 at *;refine zh ?_;refine zFH rfl rfl ?_;apply zv (ah (us:=[nilV,nilV,rv]) a9.V (NL _) (MQ _) rfl);apply zc call6 (qk [] [] ou (zP nilV nilV rv) w4 (hx.ext a0));rintro v w5 ⟨b8,hC⟩;obtain⟨cs,e,rfl,a4,b2⟩:=hC.shape;refine zh ?_;apply au (aw w5) 1 zo (MV _) rfl;intro xb w6 O6 a1 b5 b' c7;apply bQ (us:=cs.toArray) a1 (show cs.toArray.size=17 from by simpa using a4) (by rw[show cs.toArray.size=17 from by simpa using a4];exact Ms _) (by simpa using b2) rfl rfl rfl;have a8:=a1.setRow (us:=cs.toArray);have a5:=(b5.J (Lq (us:=cs.toArray) zd a1.tag rfl)).ext;generalize w6.setRow xb cs.toArray=w7 at *;have a6:=((a7.J a0).J b8).J a5;have b4:=aa (S:=λq=>q=1) hz O1 a6;have a3:=b0.U (aa (S:=λ_=>False) (λh=>h) O1 a6) zd (λh=>h);refine zh ?_;refine zvH (ah (us:=cs) (by simpa using a8.V) (MX _) (by rw[a4];exact Ms _) rfl) ?_
 apply bQ (us:=cs.toArray) a3 (show cs.toArray.size=17 from by simpa using a4) (by rw[show cs.toArray.size=17 from by simpa using a4];exact Ms _) (by simpa using b2) rfl rfl rfl;have a':=a3.setRow (us:=cs.toArray);have b3:MF (λj=>j=1) O1 w7 O1 (w7.setRow cb cs.toArray):=Lq zd a3.tag rfl;refine zh ?_
 refine cV rfl rfl rfl rfl (us:=cs) (by simpa using a'.V) (MX _) (by rw[a4];exact Ms _) ⟨((b7.J b4).J b3).ext,cs,e,rfl,((hC.ext a5 (Lz _)).U (b1.ext (a7.J a0)) b3).ext (L3 _) (((b9.J a7).J a0).size)⟩
def me(w:Lu)(hT:gp w):Nz MT 5 [] w λv w'=>v=.bool true/\M5 w w':=by
 have hg:=Fa hT;apply LD func5 ntmps5 rfl rfl;refine zh ?_;apply zc call17 (mf w);rintro v w1 ⟨a5,hP⟩;obtain⟨cs,e,rfl,hC⟩:=hP;replace hC:N0 w.heap.size w1 (.tuple #[.agg cs.toArray,nI e]) [] [] ou:=hC
 rcases hC.made with⟨e',g9,hv,c6⟩|⟨a,b,d8,d7,gv,lc,rc,hM,hv,k1,k2,k3,hn⟩
 ·exfalso
  rcases c6 with⟨_,h1⟩|⟨_,_,h1|h1⟩
  ·rw[zi]at h1;cases h1
  ·have:=Fh;rw[h1]at this;cases this
  have:=Fg;rw[h1]at this;cases this
 have hi:=hM.inv;have c5:=hM.breaks [1,2,2] zd;have d4:(bF [] [] ou a b d8 d7).ig=0:=rfl;rw[xB]at c5;obtain⟨e3,g6⟩:=k2.one;obtain⟨e2,g5⟩:=k3.one;generalize bF [] [] ou a b d8 d7=t at *;have e5:cs=dY t.ig t.kp t.br t.rules gv lc rc/\e=0:=by
  simp only[Mp,MC,My,Mw,Mv,and_true,true_and]at hv;simpa using hv
 obtain⟨rfl,rfl⟩:=e5;have a4:(dY t.ig t.kp t.br t.rules gv lc rc).length=17:=by simp[e3,e2]
 have b9:(dY t.ig t.kp t.br t.rules gv lc rc).all Nn=true:=by
  obtain⟨i1,e',h1,_,h3⟩:=hC.shape;simp only[Mp,MC,My,Mw,Mv,and_true,true_and]at h1;rw[h1.1];exact h3
 have d0:(bJ t (kD t) [1]).wait=[]:=rfl;have c':(bJ t (kD t) [1,2]).wait=[(2,false)]:=by
  have e:(bJ t (kD t) [1,2]).wait=[(2,t.ig.testBit 2&&(false || !(t.kp.testBit 1)))]:=rfl;rw[e,d4];rfl
 have e1:(bJ t (kD t) [1,2,2]).wait=[(2,false),(2,false)]:=by
  have e:(bJ t (kD t) [1,2,2]).wait=[(2,t.ig.testBit 2&&(false || !(t.kp.testBit 1))),(2,t.ig.testBit 2&&((t.ig.testBit 2&&(false || !(t.kp.testBit 1))) || !(t.kp.testBit 2)))]:=rfl;rw[e,d4];rfl
 have e6:closeL t (bJ t (kD t) [1,2,2]).wait (bJ t (kD t) [1,2,2]).row=[false,true]:=by
  have e:zb t [1,2,2]=true::closeL t (bJ t (kD t) [1,2,2]).wait (bJ t (kD t) [1,2,2]).row++[true]:=rfl;rw[e,List.cons_append]at c5;have h2:=(NN c5).2;have:closeL t (bJ t (kD t) [1,2,2]).wait (bJ t (kD t) [1,2,2]).row++[true]=[false,true]++[true]:=h2;exact List.append_cancel_right this
 have hz:¬(0=7):=zd;refine zh ?_;apply au (aw w1) 7 zo (MV _) rfl;intro tb w2 O2 a3 f4 h' i0;apply bQ (us:=(dY t.ig t.kp t.br t.rules gv lc rc).toArray) a3 (show(dY t.ig t.kp t.br t.rules gv lc rc).toArray.size=17 from by simpa using a4) (by rw[show(dY t.ig t.kp t.br t.rules gv lc rc).toArray.size=17 from by simpa using a4];exact Ms _) b9 rfl rfl rfl;have b8:=a3.setRow (us:=(dY t.ig t.kp t.br t.rules gv lc rc).toArray);have b2:=f4.J (Lq (us:=(dY t.ig t.kp t.br t.rules gv lc rc).toArray) hz a3.tag rfl);generalize w2.setRow tb (dY t.ig t.kp t.br t.rules gv lc rc).toArray=w3 at *;have b3:=b2.ext;have g2:Rng w1.heap.size O2 w3:=(aw w1).U b2;have h0:gp w3:=dV hT (a5.J b3);have b0:KM<w1.heap.size:=Nat.lt_of_lt_of_le hg a5.size;refine zh ?_;apply zv (ah (us:=dY t.ig t.kp t.br t.rules gv lc rc) (by simpa using b8.V) (MX _) (by rw[a4];exact Ms _) rfl);apply zc call18 (yf w1.heap.size O2 w3 1 2 t gv lc rc (k1.ext b3) (k2.ext b3) (k3.ext b3) ((Cu k1 k2 k3).U b2) zd zd zd zd hi.ok hi.right g2);rintro _ w4 ⟨O4,rb,rfl,h4,f3,g1⟩;have a6:¬(0=1\/0=2\/0=3\/0=4\/0=5\/0=6\/0=7\/0=1000):=zo;have a':MF (λq=>q=1\/q=2\/q=3\/q=4\/q=5\/q=6\/q=7\/q=1000) (λ_=>0) w1 O4 w4:=(b2.mono (λ_ h=>zo) a6).J (f3.mono (λ_ h=>zo) a6);have f8:gp w4:=dV hT (a5.J a'.ext);have e4:=IZ hi.ok;refine zh ?_
 apply zc NQ (jb w1.heap.size O4 w4 1 2 3 rb t gv lc rc _ (kD t) h4 zd zd zd zd zd zd zd zd zd hi.ok e4 (by show 0+1<=_;decide) rfl g1 f8 b0 1 (bJ t (kD t) [1]) rfl);rintro v5 w5 ⟨O5,e0,h5,d3,b7,e9,g0⟩;rw[jQ t _ _ (by rw[d0];rfl)]at h5 d3 b7;have a9:=a'.J (e9.mono (λ_ h=>zo) a6);have f7:gp w5:=dV hT (a5.J a9.ext);refine zh ?_
 apply zc NQ (jb w1.heap.size O5 w5 1 2 4 rb t gv lc rc e0 (bJ t (kD t) [1]) h5 zd zd zd zd zd zd zd zd zd hi.ok d3 (by rw[d0];decide) rfl g0 f7 b0 2 (bJ t (kD t) [1,2]) rfl);rintro v6 w6 ⟨O6,d',h6,d2,b6,d5,f'⟩;rw[jQ t _ _ (by rw[c'];rfl)]at h6 d2 b6;have a8:=a9.J (d5.mono (λ_ h=>zo) a6);have f6:gp w6:=dV hT (a5.J a8.ext);refine zh ?_
 apply zc NQ (jb w1.heap.size O6 w6 1 2 5 rb t gv lc rc d' (bJ t (kD t) [1,2]) h6 zd zd zd zd zd zd zd zd zd hi.ok d2 (by rw[c'];decide) rfl f' f6 b0 2 (bJ t (kD t) [1,2,2]) rfl);rintro v7 w7 ⟨O7,d9,h7,d1,b5,c7,f9⟩;rw[jQ t _ _ (by rw[e1];rfl)]at h7 d1 b5;have a7:=a8.J (c7.mono (λ_ h=>zo) a6);have f5:gp w7:=dV hT (a5.J a7.ext);refine zh ?_
 apply zc call20 (tY w1.heap.size O7 w7 1 2 6 rb t gv lc rc d9 (bJ t (kD t) [1,2,2]) h7 zd zd zd zd zd zd zd zd zd hi.ok d1 rfl f9 f5 b0);rintro v8 w8 ⟨O8,g3,s8,h8,g8,g7,g',b4,b1,h9⟩;have c8:=a7.J (b1.mono (λ_ h=>zo) a6);have e8:closeL t (bJ t (kD t) [1,2,2]).wait (bJ t (kD t) [1,2,2]).row=[false,true]:=e6;replace b4:NV xg 4 1 O8 w8 6 v8 [false,true]:=by rw[<-e8];exact b4
 dsimp only at b7 b6 b5;have a2:=((b7.U d5 zd zd).U c7 zd zd).U b1 zd zd;have a1:=(b6.U c7 zd zd).U b1 zd zd;have a0:=b5.U b1 zd zd;refine zh ?_;apply ax (d:=26) rfl (b':=true) rfl;refine zh ?_;apply ax (d:=30) rfl (b':=true) rfl;refine zh ?_;refine zvH (Nb (by first|exact a2.sl|exact a1.sl|exact a0.sl) Mu rfl) ?_;refine zvH (Nb (by first|exact a2.sl|exact a1.sl|exact a0.sl) Mu rfl) ?_;refine zvH (N5 rfl rfl (MS zd)) ?_;refine zvH (Nb (by first|exact a2.sl|exact a1.sl|exact a0.sl) Mu rfl) ?_;refine zvH (N5 rfl rfl (MS zd)) ?_;apply ax (d:=41) rfl (b':=true) rfl;refine zh ?_;apply fD Mu (NK _) (zeroValue4 _) xg [false,true] rfl rfl rfl rfl zk (by simp) rfl;intro bv w9 e7 d6;refine zh ?_;apply zc call21 (yQ [false,true] [false,true] v8 bv w9 (b4.sl.ext d6) e7);rintro _ g4 ⟨rfl,c9⟩;refine zh ?_;refine af rfl rfl ⟨rfl,((a5.J c8.ext).J d6).J c9⟩
def nY{t:R3}(h:lM t=true):aZ t.1=true/\aZ t.2.1=true:=by
 unfold lM at h;simp only[ln]at h;exact h.1
abbrev Kh:TabM:=⟨0,0,0,0,[],⟨0,[],[],[],[]⟩,[],⟨0,[],[],[],[]⟩,[]⟩
def II(w:Lu):TabV w (.agg tab0) Kh:=
 ⟨nS,dW,dW,rfl,sl0 _,⟨_,_,_,_,_,rfl,sl0 _,sl0 _,sl0 _,sl0 _,sl0 _⟩,⟨_,_,_,_,_,rfl,sl0 _,sl0 _,sl0 _,sl0 _,sl0 _⟩⟩
def AV(b m j:Nat):(Ns ⟨b,0,none⟩ m).add j=Ns ⟨b,0,none⟩ (m+j):=by
 by_cases hm:m=0<;>by_cases hj:j=0<;>simp[Ns,hm,hj]
def D7(se:Bool)(l:List Nd):∃cl,∀d,stM se l=some d->Cls cl d:=by
 cases h:stM se l with
 |none=>exact⟨id,λd hd=>by cases hd⟩
 |some d0=>
  have h':=h;unfold stM at h'
  split at h'
  ·obtain⟨S,a1⟩:=jv h';obtain⟨cl,a0⟩:=KL (d:=d0) a1.right;exact⟨cl,λd hd=>by cases hd;exact a0⟩
  cases h'
def PostC.two{cs:List LK}{e:Int}{ts:List R3}(h:N0 B w (.tuple #[.agg cs.toArray,nI e]) li lk ts)(hr:dE li lk ts=true):
  ∃a1 a0,(∀d,stM true (fM ts)=some d->Cls a1 d)/\(∀d,stM false (cR ts)=some d->Cls a0 d)/\
   ((e=7/\(stM true (fM ts)=none\/stM false (cR ts)=none))\/(e=0/\∃a b gv lc rc,Made li lk ts a b a1 a0/\cs=dY (bF li lk ts a b a1 a0).ig (bF li lk ts a b a1 a0).kp (bF li lk ts a b a1 a0).br (bF li lk ts a b a1 a0).rules gv lc rc/\
    Ints w gv (bF li lk ts a b a1 a0).groups/\NF w lc (bF li lk ts a b a1 a0).left (bF li lk ts a b a1 a0).lt/\NF w rc (bF li lk ts a b a1 a0).right (bF li lk ts a b a1 a0).rt)):=by
 rcases h.made with⟨e',a5,hv,a2⟩|⟨a,b,a1,a0,gv,lc,rc,hM,hv,k1,k2,k3,hn⟩
 ·have a3:e=e':=by simpa using(show(Value.tuple #[.agg cs.toArray,nI e])=.tuple #[.agg tab0,nI e']from hv) |> λh=>(by simp at h;exact h.2:e=e')
  subst a3
  rcases a2 with⟨_,h0⟩|⟨h7,_,h1⟩
  ·rw[hr]at h0;cases h0
  obtain⟨a1,hA⟩:=D7 true (fM ts);obtain⟨a0,hB⟩:=D7 false (cR ts);exact⟨a1,a0,hA,hB,.inl ⟨h7,h1⟩⟩
 have a4:cs=dY (bF li lk ts a b a1 a0).ig (bF li lk ts a b a1 a0).kp (bF li lk ts a b a1 a0).br (bF li lk ts a b a1 a0).rules gv lc rc/\e=0:=by
  simp only[Mp,MC,My,Mw,Mv,and_true,true_and]at hv;simpa using hv
 obtain⟨rfl,rfl⟩:=a4;exact⟨a1,a0,λd hd=>by rw[hM.sa]at hd;cases hd;exact hM.ca,λd hd=>by rw[hM.sb]at hd;cases hd;exact hM.cb,.inr ⟨rfl,a,b,gv,lc,rc,hM,rfl,k1,k2,k3⟩⟩
set_option linter.constructorNameAsVariable false in
set_option maxHeartbeats 1000000 in
def qH(li lk:List Int)(ts:List R3)(v:LK)(w:Lu)(h:Tx w v li lk ts)(hT:gp w):
  Nz MT 3 [v] w λu w'=>u=.bool true/\M5 w w':=by
 obtain⟨ig,kp,ru,xs,rfl,h1,h2,h3,h4,h5⟩:=h;have hz:¬(0=1):=zd;apply LD func3 ntmps3 rfl rfl;refine zh ?_;apply aI (aw w) 1 zo rfl rfl;intro xb w1 O1 o4 s7 s9 m';have m7:∀W,M5 w W->Tx W (zP ig kp ru) li lk ts:=λW e=>⟨⟨ig,kp,ru,xs,rfl,h1.ext e,h2.ext e,h3.ext e,h4,λi hi=>(h5 i hi).ext e⟩⟩
 have ac:∀W,M5 w1 W->∀(j:Nat) (u:LK),[ig,kp,ru][j]? = some u->W.cell? (nA xb j)=some u:=λW e j u hu=>e.cell (o4.V j u hu)
 refine zh ?_;apply zv (ah (us:=[ig,kp,ru]) (ac w1 (L3 _)) (NM _) (NC _) rfl)
 apply zc call4 (A9 li lk ts (zP ig kp ru) w1 (m7 w1 m'));rintro _ w2 ⟨g,rfl,m1,hg⟩;have j1:=m'.J m1;refine zh ?_
 refine bR (M5 w2) (!true) 2 (L3 w2) rfl rfl rfl rfl rfl ?_ ?_
 ·intro a2;refine zh ?_;apply zc call5 (me w2 (dV hT j1));rintro _ w3 ⟨rfl,i7⟩;refine zh ?_;refine nE 17 3 i7 a2
 intro w3 i7;have b2:=j1.J i7;refine zh ?_;refine zC ?_ ?_
 ·intro hc;refine zh ?_;apply zc call5 (me w3 (dV hT b2));rintro _ w4 ⟨rfl,k0⟩;refine zh ?_;refine af rfl rfl ⟨rfl,b2.J k0⟩
 intro hc;simp only[M4,N8]at hc;obtain⟨h',h8,t0⟩:=hg hc.1;refine zh ?_;apply zv (ah (us:=[ig,kp,ru]) (ac w3 (m1.J i7)) (NM _) (NC _) rfl);apply zc call7 (IF li lk ts xs ig kp ru w3.heap.size (λ_=>0) w3 (aw w3) (h1.ext b2) (h2.ext b2) (h3.ext b2) h4 (λi hi=>(h5 i hi).ext b2) h');rintro _ w4 ⟨rv,rfl,o5,k0⟩;have f':=b2.J k0;apply zc call6 (qk li lk ts (zP ig kp rv) w4 (vf (h1.ext f') (h2.ext f') o5));rintro cv w5 ⟨m9,hC⟩;have m3:=f'.J m9;obtain⟨cs,e,rfl,i0,p4⟩:=hC.shape;refine zh ?_;apply au (aw w5) 1 zo (MV _) rfl;intro tb w6 O6 e9 p7 s8 s';apply bQ (us:=cs.toArray) e9 (show cs.toArray.size=17 from by simpa using i0) (by rw[show cs.toArray.size=17 from by simpa using i0];exact Ms _) (by simpa using p4) rfl rfl rfl;have k7:=e9.setRow (us:=cs.toArray);have f8:=(p7.J (Lq (us:=cs.toArray) hz e9.tag rfl)).ext;generalize w6.setRow tb cs.toArray=w7 at *;have j4:=m3.J f8
 have tc:∀W,M5 w7 W->∀(j:Nat) (u:LK),cs[j]? = some u->W.cell? (nA tb j)=some u:=λW e j u hu=>e.cell (by
  have:=k7.V j u
  simpa using this (by simpa using hu))
 have j0:M5 w1 w7:=((((m1.J i7).J k0).J m9).J f8)
 refine zh ?_;apply zv (ah (us:=[ig,kp,ru]) (ac w7 j0) (NM _) (NC _) rfl)
 apply zc call8 (tj li lk ts (zP ig kp ru) w7 (m7 w7 j4) h');rintro _ w8 ⟨rfl,j'⟩;have e1:=j4.J j';have f9:=j0.J j';refine zh ?_
 cases g':dE li lk ts with
 |false=>
  have hv:cs=tab0.toList/\e=1:=by
   rcases hC with⟨_,hv⟩|⟨h0,_⟩
   ·simp only[Mp,MC,My,Mw,Mv,and_true,true_and]at hv;simpa using hv
   rw[g']at h0;cases h0
  obtain⟨rfl,rfl⟩:=hv;refine zTH rfl rfl ?_;apply ax (d:=33) rfl (b':=true) rfl;refine zh ?_;refine zvH (ah (us:=tab0.toList) (tc w8 j') (MX _) (Ms _) rfl) ?_;apply zc call9 (gd Kh (.agg tab0) w8 (II w8));rintro _ w9 ⟨rfl,p9⟩;refine zh ?_;refine af rfl rfl ⟨rfl,e1.J p9⟩
 |true=>
  apply bh rfl rfl;obtain⟨b1,b0,l5,l4,e6⟩:=hC.two g';obtain⟨t1,_,_,g8⟩:=cL g';have o7:∀t∈fM ts,aZ t=true:=λt ht=>by
   obtain⟨x,hx,rfl⟩:=Nx.1 ht;exact(nY (g8 x hx)).1
  have o6:∀t∈cR ts,aZ t=true:=λt ht=>by
   obtain⟨x,hx,rfl⟩:=Nx.1 ht;exact(nY (g8 x hx)).2
  have s0:xs.length<=8:=zo;have p6:(2^40:Nat)=1099511627776:=zd;refine zh ?_;apply zlp (λz:Nat×(Nat->Nat)×World×LK×LK=>[(1,nP xb),(3,nP tb),(4,nI e),(5,z.2.2.2.1),(6,z.2.2.2.2),(7,.int .u64 ((fj ts z.1:Nat):Int)),(8,nI (z.1:Nat))]) (λz=>z.2.2.1) (λz=>z.1<=xs.length/\MF (λq=>q=4\/q=5) (λ_=>0) w8 z.2.1 z.2.2.1/\Rng w8.heap.size z.2.1 z.2.2.1/\NV aY 47 3 z.2.1 z.2.2.1 4 z.2.2.2.1 ((xs.take z.1).map (·.1))/\NV aY 47 3 z.2.1 z.2.2.1 5 z.2.2.2.2 ((xs.take z.1).map (·.2.1))) (λz=>xs.length-z.1) (0,(λ_=>0),w8,nS,nS) ⟨Ll _,Upd.refl zd _ _,aw w8,N4 _ _ _ _ _ _,N4 _ _ _ _ _ _⟩;rintro⟨i,O9,w9,lv,n9⟩ ⟨hi,l7,m8,d',d9⟩;dsimp only at hi l7 m8 d' d9 ⊢;have f7:=l7.ext;have i9:=f9.J f7;have d6:=e1.J f7;have s6:((xs.take i).map (·.1)).length=i:=by simp;omega
  have s1:((xs.take i).map (·.2.1)).length=i:=by simp;omega
  have x2:w9.cell? (nA xb 2)=some ru:=ac w9 i9 2 _ rfl;refine zh ?_;refine zvH (Nb (by first|exact h3.ext d6) LU rfl) ?_;refine zC ?_ ?_
  ·intro b7;replace b7:i<xs.length:=dT b7;have g9:=h3.ext d6;obtain⟨r1,r2,r3⟩:=iX g9 b7;have k6:=h5 i b7;have p1:=k6.1.one;have p2:=k6.2.1.one;have m6:(nth xs i).2.2=(nth ts i).2.2:=k6.2.2;have el:(xs.take (i+1)).map (·.1)=(xs.take i).map (·.1)++[(nth xs i).1]:=by rw[aG b7,MD];rfl
   have er:(xs.take (i+1)).map (·.2.1)=(xs.take i).map (·.2.1)++[(nth xs i).2.1]:=by rw[aG b7,MD];rfl
   apply NU;apply aF
   apply MP;apply WC.block
   apply MP;apply M9
   apply zv (Ly rfl);apply zv (RV.fa rfl)
   apply zv (RV.ld x2 rfl);apply zv (Ly rfl)
   refine zvH (M1 g9 LU (Mr _) rfl rfl i rfl b7) ?_;apply zv (ah (us:=aY (nth xs i).1) r1 (LL _) (Lp _) rfl)
   apply NT JW d' m8 ((nth xs i).1) (λ_=>rfl) rfl rfl rfl (gD p1) zo zo zo zd rfl rfl;intro g5 j6 O10 h7 i3 l9;have h6:=d9.U i3 zd zd;have c9:=l7.J (i3.mono (λ_ h=>.inl h) zd);have e3:=h3.ext (e1.J c9.ext);obtain⟨_,s2,s3⟩:=iX e3 b7;have y2:j6.cell? (nA xb 2)=some ru:=ac j6 (f9.J c9.ext) 2 _ rfl;apply zv (Mt rfl)
   apply MO;apply aF
   apply MP;apply M9
   apply zv (Ly rfl);apply zv (RV.fa rfl)
   apply zv (RV.ld y2 rfl);apply zv (Ly rfl)
   apply zv (M1 e3 LU (Mr _) rfl rfl i rfl b7);apply zv (RV.fa rfl)
   apply zv (ah (us:=aY (nth xs i).2.1) s2 (LL _) (Lp _) rfl);apply NT JW h6 l9 ((nth xs i).2.1) (λ_=>rfl) rfl rfl rfl (gD p2) zo zo zo zd rfl rfl
   intro g4 g0 O11 e4 e0 f6;have e5:=h7.U e0 zd zd;have b4:=c9.J (e0.mono (λ_ h=>.inr h) zd);have e2:=h3.ext (e1.J b4.ext);obtain⟨_,_,t3⟩:=iX e2 b7;have z2:g0.cell? (nA xb 2)=some ru:=ac g0 (f9.J b4.ext) 2 _ rfl;have p5:=ud ts i zo;apply zv (Mt rfl);apply MO;apply aF;apply MP;apply M9;apply zv (RV.fa rfl);apply zv (RV.ld (by first|exact z2|exact t3) rfl);apply zv (Ly rfl);apply zv (M1 e2 LU (Mr _) rfl rfl i rfl b7);apply zv (RV.fa rfl);apply zv (RV.ld (by first|exact z2|exact t3) rfl);apply MO;apply aF;refine zC ?_ ?_
   ·intro hb;have l6:fj ts (i+1)=fj ts i ||| 2^i:=by rw[show fj ts (i+1)=if(nth ts i).2.2=true then fj ts i ||| 2^i else fj ts i from rfl,ap (by rw[<-m6];exact hb)]
    have s4:2^i<2^40:=Nat.pow_lt_pow_right zd zo;apply M9;apply zv (Ly rfl);apply zv (Ly rfl);apply zv (lj (a:=1) (b:=i) rfl rfl rfl rfl (by show _<=64;omega) (by show _<=(18446744073709551615:Int);omega));rw[Nat.one_mul];apply zv (mQ (a:=fj ts i) (b:=2^i) rfl rfl rfl rfl (by show _<=(18446744073709551615:Int);omega) (by show _<=(18446744073709551615:Int);omega));apply zv (Mt rfl);apply MO;apply eM;apply aF;apply M9;apply zv (Ly rfl);apply zv (N5 rfl rfl (MS zo));apply zv (Mt rfl);apply MO;rw[<-l6];refine zxd (i+1,O11,g0,g5,g4) ⟨b7,b4,f6,by dsimp only;rw[el];exact e5,by dsimp only;rw[er];exact e4⟩
   intro hb;have l6:fj ts (i+1)=fj ts i:=by rw[show fj ts (i+1)=if(nth ts i).2.2=true then fj ts i ||| 2^i else fj ts i from rfl,am (by rw[<-m6,hb];decide)]
   rw[<-l6];apply NU;apply eM;apply aF;apply M9;apply zv (Ly rfl);apply zv (N5 rfl rfl (MS zo));apply zv (Mt rfl);apply MO;refine zxd (i+1,O11,g0,g5,g4) ⟨b7,b4,f6,by dsimp only;rw[el];exact e5,by dsimp only;rw[er];exact e4⟩
  intro j7;have p3:i=xs.length:=dF j7;subst p3;rw[Nf]at d' d9;have o9:∀W,M5 w W->∀j,j<(xs.map (·.1)).length->Nt (λ_=>0) W (nth (fM ts) j) (nth (xs.map (·.1)) j):=λW e j hj=>by
   rw[Nq]at hj;rw[cz hj,show fM ts=ts.map (·.1)from rfl,cz zo];exact(h5 j hj).1.ext e
  have o8:∀W,M5 w W->∀j,j<(xs.map (·.2.1)).length->Nt (λ_=>0) W (nth (cR ts) j) (nth (xs.map (·.2.1)) j):=λW e j hj=>by
   rw[Nq]at hj;rw[cz hj,show cR ts=ts.map (·.2.1)from rfl,cz zo];exact(h5 j hj).2.1.ext e
  apply WC.exit;apply bW
  apply bW;apply dO
  apply aF;apply MP
  apply M9;apply zv (Ly rfl)
  apply zc call10 (pY true (fM ts) (xs.map (·.1)) lv w9 d'.sl (by simp[h4]) (o9 w9 d6) o7 (by simp;omega) zo b1 l5);rintro _ j6 ⟨j3,na,ta,r',rfl,o3,o2,l2⟩;apply zv (Ly rfl)
  apply zv (MW rfl rfl);apply zv (MW rfl rfl)
  apply au (aw j6) 1 zo (MB _) rfl;intro ab g0 O11 c8 e0 f6 q';apply zsb (us:=#[na,ta]) c8 (M0 _) (by simp only[LN,o3,o2];rfl)
  have i2:=c8.setRow (us:=#[na,ta]);have d5:=(e0.J (Lq (us:=#[na,ta]) hz c8.tag rfl)).ext;generalize g0.setRow ab #[na,ta]=w12 at *;have e7:=j3.J d5;apply zv (Mt rfl);apply MO;apply aF;apply MP;apply M9;apply zv (Ly rfl);apply zc call10 (pY false (cR ts) (xs.map (·.2.1)) n9 w12 (d9.sl.ext e7) (by simp[h4]) (o8 w12 (d6.J e7)) o6 (by simp;omega) zo b0 l4);rintro _ n8 ⟨m2,nb,c5,n',rfl,o1,o0,l1⟩;apply zv (Ly rfl);apply zv (MW rfl rfl);apply zv (MW rfl rfl);apply au (aw n8) 1 zo (MB _) rfl;intro bb n7 O14 c7 l8 p8 p';apply zsb (us:=#[nb,c5]) c7 (M0 _) (by simp only[LN,o1,o0];rfl);have i1:=c7.setRow (us:=#[nb,c5]);have d2:=(l8.J (Lq (us:=#[nb,c5]) hz c7.tag rfl)).ext;generalize n7.setRow bb #[nb,c5]=w15 at *;have d3:=m2.J d2;have d4:=d5.J d3;have c':=j3.J d4;have i6:=f7.J c';have d0:=j'.J i6;have d8:=d6.J c';have j2:=i9.J c';have b5:=f8.J d0;apply zv (Mt rfl);apply MO;apply aF;apply MP;apply MP;apply M9;apply zv (Ly rfl);apply zv (RV.not rfl);apply zv (Ly rfl);refine bR (λw1=>_=w1) (not n') 2 rfl rfl rfl rfl rfl rfl ?_ ?_
  ·intro a3;refine zh ?_;refine nE 85 3 rfl a3
  rintro _ rfl;refine zh ?_;refine zC ?_ ?_
  ·intro s5;refine zh ?_
   rcases e6 with⟨rfl,_⟩|⟨rfl,a,b,gv,lc,rc,hM,g1,k1,k2,k3⟩
   ·apply ax (d:=91) rfl (b':=true) rfl;refine zh ?_
    refine af rfl rfl ⟨rfl,d8⟩
   have hi:=hM.inv;generalize bF li lk ts a b b1 b0=t at *;subst g1;apply ax (d:=91) rfl (b':=false) rfl;refine zh ?_;refine zvH (ah (us:=dY t.ig t.kp t.br t.rules gv lc rc) (tc w15 d0) (MX _) (by rw[i0];exact Ms _) rfl) ?_;apply zc call9 (gd t (.agg (dY t.ig t.kp t.br t.rules gv lc rc).toArray) w15 ⟨gv,lc,rc,rfl,k1.ext b5,k2.ext b5,k3.ext b5⟩);rintro _ k5 ⟨rfl,d1⟩;rw[hi.right];refine zh ?_;refine af rfl rfl ⟨rfl,d8.J d1⟩
  intro e8;simp only[M4,N8]at e8;obtain⟨dA,k9,l0,f5,f3⟩:=l2 e8.1;obtain⟨dB,k8,k',f4,e'⟩:=l1 e8.2
  rcases e6 with⟨_,h1|h1⟩|⟨rfl,a,b,gv,lc,rc,hM,g1,k1,k2,k3⟩
  ·rw[h1]at k9;cases k9
  ·rw[h1]at k8;cases k8
  obtain rfl:a=dA:=by have:=hM.sa;rw[k9]at this;cases this;rfl
  obtain rfl:b=dB:=by have:=hM.sb;rw[k8]at this;cases this;rfl
  have hi:=hM.inv;have j9:=dL l0 b1;have j8:=dL k' b0;have e_ig:(bF li lk ts a b b1 b0).ig=dd li:=rfl;have e_kp:(bF li lk ts a b b1 b0).kp=dd lk:=rfl;have e_br:(bF li lk ts a b b1 b0).br=fj ts xs.length:=by rw[show(bF li lk ts a b b1 b0).br=fj ts ts.length from rfl,h4]
  have e_ru:(bF li lk ts a b b1 b0).rules=(xs.length:Int):=by rw[show(bF li lk ts a b b1 b0).rules=(ts.length:Int)from rfl,h4]
  obtain⟨A,hA⟩:∃A,A=aV b1 a.1 a.2:=⟨_,rfl⟩
  obtain⟨B,hB⟩:∃B,B=aV b0 b.1 b.2:=⟨_,rfl⟩
  obtain⟨many,hg,h9⟩:=nJ [A.1,B.1];have e_gr:(bF li lk ts a b b1 b0).groups=ints (bB [A.1,B.1]):=by rw[hA,hB];rfl
  have e_l:(bF li lk ts a b b1 b0).left=cZ (bB [A.1,B.1]) many A.1:=by rw[<-hg.cnt,hA,hB];rfl
  have e_r:(bF li lk ts a b b1 b0).right=cZ (bB [A.1,B.1]) many B.1:=by rw[<-hg.cnt,hA,hB];rfl
  have e_lt:(bF li lk ts a b b1 b0).lt=A.2:=by rw[hA];rfl
  have e_rt:(bF li lk ts a b b1 b0).rt=B.2:=by rw[hB];rfl
  rw[<-hA]at j9 f5 f3;rw[<-hB]at j8 f4 e';generalize bF li lk ts a b b1 b0=t at *;subst g1;obtain⟨g2,j7⟩:∃g2,g2=bB [A.1,B.1]:=⟨_,rfl⟩
  rw[<-j7]at hg h9 e_gr e_l e_r;have g1:∀T∈[A,B],∀i j,i<37->j<37->nth g2 i=nth g2 j->∀r∈T.1,nth r i=nth r j:=λT hT i j hi hj e=>by
   refine oX (tabs:=[A.1,B.1]) (λrows c6 r hr=>?_) ((h9 i j hi hj).1 e) T.1 ?_
   ·have i5:∃m5,ND rows m5:=by
     rcases Ls.1 c6 with rfl|c6
     ·exact⟨_,j9⟩
     rw[Li.1 c6];exact⟨_,j8⟩
    obtain⟨m5,i5⟩:=i5;obtain⟨q,hq,rfl⟩:=cd hr;have h1:=(i5.row q hq).2 i hi;have h2:=(i5.row q hq).2 j hj;have:=i5.le;omega
   rcases Ls.1 hT with rfl|hT
   ·simp
   rw[Li.1 hT];simp
  have n4:∀W,M5 w15 W->∀j u,[na,ta][j]? = some u->W.cell? (nA ab j)=some u:=λW e j u hu=>(d3.J e).cell (i2.V j u hu)
  have n3:∀W,M5 w15 W->∀j u,[nb,c5][j]? = some u->W.cell? (nA bb j)=some u:=λW e j u hu=>e.cell (i1.V j u hu)
  refine zh ?_;apply zv (ah (us:=[na,ta]) (n4 w15 (L3 _)) (MI _) (M0 _) rfl)
  apply zv (ah (us:=[nb,c5]) (n3 w15 (L3 _)) (MI _) (M0 _) rfl);apply fD underlying56 (M0 _) (MB _) yW [(na,ta),(nb,c5)] rfl rfl rfl rfl zk (by simp) rfl
  intro g3 k5 g7 d1;have a9:=d4.J d1;have a8:=d2.J d1
  have i4:TabsD k5 g3 [(na,ta),(nb,c5)] [A.1,B.1] [A.2,B.2]:=⟨g7,rfl,rfl,λi hi=>by
   match i,hi with
   |0,_=>exact⟨by rw[ao,ao];exact f5.ext a9,by rw[ao,ao];exact f3.ext a9,by rw[ao,ao];exact j9⟩
   |1,_=>exact⟨by rw[aW,aW,ao,ao];exact f4.ext a8,by rw[aW,aW,ao,ao];exact e'.ext a8,by rw[aW,aW,ao,ao];exact j8⟩⟩
  apply zc call11 (vU [(na,ta),(nb,c5)] [A.1,B.1] [A.2,B.2] g3 k5 i4);rintro m4 b6 ⟨b3,a',_⟩;rw[<-j7]at b3;have a4:=d1.J a';have a5:=d0.J a4;have d7:=d8.J a4;have a7:=j2.J a4;have a6:=b5.J a4;obtain⟨ll,lo⟩:=k2.one;obtain⟨rl,ro⟩:=k3.one;have l3:(dY t.ig t.kp t.br t.rules gv lc rc).length=17:=i0;have n2:∀W,M5 b6 W->W.cell? (nA tb 0)=some (.int .u64 ((dd li:Nat):Int)):=λW e=>tc W (a5.J e) 0 _ (by rw[<-e_ig];rfl)
  have n1:∀W,M5 b6 W->W.cell? (nA tb 1)=some (.int .u64 ((dd lk:Nat):Int)):=λW e=>tc W (a5.J e) 1 _ (by rw[<-e_kp];rfl)
  have r8:∀W,M5 b6 W->W.cell? (nA tb 2)=some (.int .u64 ((fj ts xs.length:Nat):Int)):=λW e=>tc W (a5.J e) 2 _ (by rw[<-e_br];rfl)
  have n0:∀W,M5 b6 W->W.cell? (nA tb 3)=some (nI (xs.length:Int)):=λW e=>tc W (a5.J e) 3 _ (by rw[<-e_ru];rfl)
  have r7:∀W,M5 b6 W->W.cell? (nA tb 4)=some gv:=λW e=>tc W (a5.J e) 4 _ rfl
  have r6:∀W,M5 b6 W->∀j u,lc[j]? = some u->W.cell? ((nA tb 5).add j)=some u:=λW e j u hu=>by
   have hj:j<6:=by have:=(List.getElem?_eq_some_iff.1 hu).1;omega
   have:=tc W (a5.J e) (5+j) u (by
    rw[show dY t.ig t.kp t.br t.rules gv lc rc=[.int .u64 (t.ig:Int),.int .u64 (t.kp:Int),.int .u64 (t.br:Int),nI t.rules,gv]++(lc++rc)from List.append_assoc _ _ _,MR (by simp),List.getElem?_append_left (by simp;omega)]
    simpa using hu)
   rw[AV];exact this
  have clr:∀W,M5 b6 W->∀j u,rc[j]? = some u->W.cell? ((nA tb 11).add j)=some u:=λW e j u hu=>by
   have:=tc W (a5.J e) (11+j) u (by
    rw[MR (by simp[ll])]
    simpa[ll]using hu)
   rw[AV];exact this
  have p0:=(cL g').2.1;have o':=(cL g').2.2.1;refine zh ?_;apply aN (λW=>M5 b6 W) 57 rfl zk;refine zin (L3 b6).drew λzS=>?_
  apply zrm 0 rfl zS rfl;apply zr 1 rfl zS (λ_=>Nc rfl rfl)
  apply zrm 2 rfl zS rfl;apply et (d:=101) rfl (b':=true) rfl
  apply zto 3 rfl (L3 b6).drew (λw1 a1=>ah (us:=dY t.ig t.kp t.br t.rules gv lc rc) (tc w1 (a5.J a1)) (MX _) (by rw[i0];exact Ms _) rfl);apply Ln 4 zk rfl
  apply fe rfl;apply zc call9 (gd t (.agg (dY t.ig t.kp t.br t.rules gv lc rc).toArray) b6.drew ⟨gv,lc,rc,rfl,k1.ext a6.drew,k2.ext a6.drew,k3.ext a6.drew⟩)
  rintro _ j5 ⟨rfl,i'⟩;rw[hi.right];have a0:M5 b6 j5:=(L3 b6).drew.J i';refine zh ?_;apply ae a0;apply zr 5 rfl a0 (λ_=>aX rfl rfl);apply zrm 6 rfl a0 rfl;apply et (d:=105) rfl (b':=true) rfl;apply zro 7 rfl a0 (λ_=>RV.fa rfl);apply zto 8 rfl a0 (λw1 a1=>RV.ld (by first|exact n2 _ a1|exact ac _ (a7.J a1) 0 _ rfl) rfl);apply zro 9 rfl a0 (λ_=>RV.fa rfl);apply zto 10 rfl a0 (λw1 a1=>RV.ld (by first|exact n2 _ a1|exact ac _ (a7.J a1) 0 _ rfl) rfl);apply Ln 11 zk rfl;apply fe rfl;apply zc call12 (AP li ig j5 (h1.ext (d7.J a0)) p0);rintro _ wx ⟨rfl,g6⟩;rw[g6];clear g6 wx;refine zh ?_;apply ae a0;apply zro 12 rfl a0 (λ_=>Nc rfl rfl);apply zr 13 rfl a0 (λ_=>aX rfl rfl);apply zrm 14 rfl a0 rfl;apply et (d:=113) rfl (b':=true) ((by simp));apply zro 15 rfl a0 (λ_=>RV.fa rfl);apply zto 16 rfl a0 (λw1 a1=>RV.ld (by first|exact n1 _ a1|exact ac _ (a7.J a1) 1 _ rfl) rfl);apply zro 17 rfl a0 (λ_=>RV.fa rfl);apply zto 18 rfl a0 (λw1 a1=>RV.ld (by first|exact n1 _ a1|exact ac _ (a7.J a1) 1 _ rfl) rfl);apply Ln 19 zk rfl;apply fe rfl;apply zc call12 (AP lk kp j5 (h2.ext (d7.J a0)) o');rintro _ wx ⟨rfl,g6⟩;rw[g6];clear g6 wx;refine zh ?_;apply ae a0;apply zro 20 rfl a0 (λ_=>Nc rfl rfl)
  apply zr 21 rfl a0 (λ_=>aX rfl rfl);apply zrm 22 rfl a0 rfl
  apply et (d:=121) rfl (b':=true) ((by simp));apply zro 23 rfl a0 (λ_=>RV.fa rfl)
  apply zto 24 rfl a0 (λw1 a1=>RV.ld (r8 _ a1) rfl);apply zro 25 rfl a0 (λ_=>Ly rfl)
  apply zro 26 rfl a0 (λ_=>Nc rfl rfl);apply zr 27 rfl a0 (λ_=>aX rfl rfl)
  apply zrm 28 rfl a0 rfl;apply et (d:=127) rfl (b':=true) ((by simp))
  apply zro 29 rfl a0 (λ_=>RV.fa rfl);apply zto 30 rfl a0 (λw1 a1=>RV.ld (by first|exact n0 _ a1|exact ac _ (a7.J a1) 2 _ rfl) rfl)
  apply zro 31 rfl a0 (λ_=>RV.fa rfl);apply zto 32 rfl a0 (λw1 a1=>RV.ld (by first|exact n0 _ a1|exact ac _ (a7.J a1) 2 _ rfl) rfl)
  apply zro 33 rfl a0 (λ_=>aM h3.sh LU rfl);apply zro 34 rfl a0 (λ_=>Nc rfl rfl)
  apply zr 35 rfl a0 (λ_=>aX rfl rfl);apply zrm 36 rfl a0 rfl
  apply et (d:=135) rfl (b':=true) ((by simp));apply zro 37 rfl a0 (λ_=>RV.fa rfl)
  apply zto 38 rfl a0 (λw1 a1=>RV.ld (r7 _ a1) rfl);apply zro 39 rfl a0 (λ_=>Ly rfl)
  apply Ln 40 zk rfl;apply fe rfl
  apply zc call13 (BB t.groups (ints g2) gv m4 j5 (k1.ext (a6.J a0)) ((b3.ext a0).natIv));rintro _ n6 ⟨rfl,i8⟩;have b9:=a0.J i8;refine zh ?_
  apply ae b9;apply zr 41 rfl b9 (λ_=>aX rfl rfl)
  apply zrm 42 rfl b9 rfl;apply et (d:=141) rfl (b':=true) ((by rw[e_gr];simp))
  apply zro 43 rfl b9 (λ_=>RV.fa rfl);apply zto 44 rfl b9 (λw1 a1=>ah (us:=lc) (r6 _ a1) (isAgg33 _) (by rw[ll];exact sizeOf33 _) rfl)
  apply zro 45 rfl b9 (λ_=>Ly rfl);apply zto 46 rfl b9 (λw1 a1=>ah (us:=[na,ta]) (n4 _ (a4.J a1)) (MI _) (M0 _) rfl)
  apply Ln 47 zk rfl;apply fe rfl
  apply zc call14 (pZ g2 many m4 na ta A.1 A.2 lc n6 hg (b3.ext b9) (f5.ext (a9.J (a'.J b9))) (f3.ext (a9.J (a'.J b9))) j9 (g1 A (by simp)) (by rw[<-e_l,<-e_lt];exact k2.ext (a6.J b9)));rintro _ n5 ⟨rfl,m0⟩;have b8:=b9.J m0;refine zh ?_
  apply ae b8;apply zr 48 rfl b8 (λ_=>aX rfl rfl)
  apply zrm 49 rfl b8 rfl;apply et (d:=148) rfl (b':=true) rfl
  apply zro 50 rfl b8 (λ_=>RV.fa rfl);apply zto 51 rfl b8 (λw1 a1=>ah (us:=rc) (clr _ a1) (isAgg33 _) (by rw[rl];exact sizeOf33 _) rfl)
  apply zro 52 rfl b8 (λ_=>Ly rfl);apply zto 53 rfl b8 (λw1 a1=>ah (us:=[nb,c5]) (n3 _ (a4.J a1)) (MI _) (M0 _) rfl)
  apply Ln 54 zk rfl;apply fe rfl
  apply zc call14 (pZ g2 many m4 nb c5 B.1 B.2 rc n5 hg (b3.ext b8) (f4.ext (a8.J (a'.J b8))) (e'.ext (a8.J (a'.J b8))) j8 (g1 B (by simp)) (by rw[<-e_r,<-e_rt];exact k3.ext (a6.J b8)));rintro _ r9 ⟨rfl,l'⟩;have k4:=b8.J l';refine zh ?_
  apply ae k4;apply zr 55 rfl k4 (λ_=>aX rfl rfl)
  apply zra 56 rfl k4 rfl;apply Mz zk
  refine zh ?_;refine af rfl rfl ⟨rfl,d7.J k4⟩
end Go.Proofs.YtcfhbfflgnbacaaGreatDoor
