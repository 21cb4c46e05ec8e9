/- Texts that the proof of this statement needs, merged and shortened. -/
import Derived.Test.YtcfhbfflgnbacaaGreatDoorQTableMakes3
set_option linter.defProp false
open Go renaming Value->ix,World->ka,TypeId->MZ,Program->No,Oper->NV,Operand->P6,FuncId->Pm,Exit->Pw,Edge->PY,Act->Q0
open Nat renaming not_lt_zero->ln,zero_le->Li,le_refl->Ll,eq_of_beq_eq_true->Mv,sub_self->N4,beq->Nb,le_trans->Nx,blt->Ny,lt_succ_iff_lt_or_eq->NM,beq_refl->NP,le_zero->NW
open List renaming mem_singleton->L3,length_singleton->Lm,mem_cons->Lp,length_set->Lq,replicate->Ly,mem_append->Lz,range->LK,mem_cons_of_mem->M0,findIdx?_eq_some_iff_getElem->M1,map_cons->M4,append_nil->M5,take_length->M8,length_append->M9,mem_range->Mq,findIdx?_cons->Mu,flatMap_cons->Mz,all_cons->MA,length_cons->MB,map_append->ME,mem_append_right->MF,mem_append_left->MG,findIdx?_eq_none_iff->MI,flatMap_append->MK,mem_filter->MQ,mem_cons_self->MR,eq_nil_of_length_eq_zero->MW,nil_append->MY,filter_sublist->N0,all_nil->N1,filter_append->N5,pairwise_iff_getElem->N8,getElem?_eq_some_iff->N9,append_assoc->Na,mem_map->Nh,range_succ->Nk,findIdx?_append->Nn,findIdx?->Nq,nodup_append->Nw,nodup_range->NB,filter_cons->NC,cons_append->ND,nodup_cons->NG,length_nil->NH,nodup_nil->NJ,length_replicate->NQ,length_filter_le->NR,replicate_succ->NX,map_congr_left->NY,take_sublist->P7,foldl_append->P8,filter_congr->P9,getElem_map->Pa,flatMap_nil->Pb,drop_length->Pc,length_map->Ph,foldl_cons->Pi,take_zero->Pk,map_map->Pp,flatten->Pq,length->Pu
open Go.Proofs.Tryz renaming underlying22->Lj,sizeOf3->Ls,underlying168->LN,underlying50->M6,sizeOf78->M7,prog->Mw,zeroValue3->MC,underlying180->MD,zeroValue78->MM,zeroValue199->MO,sizeOf199->MP,underlying199->MS,isAgg78->MU,zeroValue22->N2,underlying5->Nf,underlying214->Ni,underlying188->Nj,underlying3->Ns,sizeOf75->Nu,underlying186->Nz,sizeOf22->NI,sizeOf31->NN,isAgg199->NO,underlying241->NT,underlying31->P3,isAgg75->P4,underlying9->Pd,sizeOf50->Pe,sizeOf178->Pr,call96->PA,underlying170->PF,underlying120->PG,isAgg31->PK,zeroValue75->PO,zeroValue5->PT,call89->PU
open Go.Value renaming oneCell'->Lk,bool->LL,string->Nc,ownBlock->Pg,agg->Px
open Go.VL.Ret renaming enter->Ln
open Go.VL.WH renaming one->Lo,done->MJ,two->NL
open Go.VL renaming Upd->Lr,RowT->My,MapO->MN,BlkO->MX,Rng->Ng,Free->Nm,Ext->Np,lowT->Nr,Ret->NA,Elem->Pj,NewV->PM,RangeO->PV
open Go.VL.Ext renaming refl->Lu
open Classical renaming byContradiction->LD
open Go.VL.Upd renaming setRow->LU,set->MV,refl->N6,alloc->PH
open UInt8 renaming ofNat->Mp
open Go.VL.RowT renaming nil->Mr,sl->PL
open Go.Region renaming ready->Ms
open Go.VL.WL renaming mapUpdate->Mt,nil->MH,storeAt->N7,push->Nl
open Go.VL.RV renaming lookup->MT,load->NS,entry->PS
open Prod.mk renaming inj->Nv
open Bool renaming and_eq_true->NF,and_true->Pn
open Go.World renaming block_lt_of_cell?->NK,ownsRow_lit->NZ,cell?->Po
open Go.Result renaming andThen_ok->NU
open Option renaming getD_some->P1,bind_some->P2,map_some->P5
open Go.VL.WC renaming tail->Pf,still->PP
open Go.Sem renaming run_bind->Ps
open List.Pairwise renaming imp_of_mem->Pv
open List.Sublist renaming append_left->Py
open Int renaming le_refl->Pz
open Go.VL.QF renaming of->PB
open Option.some renaming injEq->PC,inj->PD
open Go.VL.BlkO renaming cell->PE,U->PJ
open Go.VL.MapO renaming U->PI
open List.cons renaming injEq->PN
open Go.VL.Rng renaming U->PQ
open Go.IntKind renaming wrap_u8->PW,u8->PX
open Go.Builtin renaming len_->PZ
set_option maxRecDepth 10000
open Go.VL Go.Proofs Go.Proofs.Tryz
variable {α κ ν:Type}{td:List ((Int×Int)×Bool)}{D:List (Int×Int)}{S:List (List UInt8)}{F L a0 bl g l row:List Nat}{s:List UInt8}{E T:MZ}{B N a1 b i j k m m0 many n q r sb sr sz t to tr x:Nat}{st:Nat->List Nat}{O O' cl tl:Nat->Nat}{P0:Nat->Prop}{P:No}{y:P6}{Q:Pw->Q0->ka->Prop}{v:ix}{w w':ka}{enc:α->List ix}
namespace Go.Proofs.YtcfhbfflgnbacaaGreatDoor
mutual
def xd:∀(t:Nd) (wi:Bool),bP t wi=true->gW t=true/\dw t=true
 |.mk k c l,wi,h=>by
  unfold bP at h
  simp only[NF]at h
  obtain⟨h1,h2⟩:=h
  obtain⟨i1,i2⟩:=sj l h2
  unfold gW dw
  rw[i1,i2,Pn,Pn]
  have hl:l.isEmpty=true↔l.length=0:=by cases l<;>simp
  rcases dv h1 with⟨rfl,hn,_⟩|⟨rfl,hn,_⟩|⟨rfl,hn,_⟩|⟨rfl,hn,_⟩|⟨rfl,hn,_⟩|⟨rfl,hn,_⟩|⟨rfl,hn,_⟩|⟨rfl,hn,_⟩|⟨rfl,hn,_⟩|⟨rfl,hn,_⟩
  ·exact⟨by rw[am zd];exact hl.2 hn,by rw[am zd,am zd]⟩
  ·exact⟨by rw[am zd];exact hl.2 hn,by rw[am zd,am zd]⟩
  ·exact⟨by rw[am zd];exact hl.2 hn,by rw[am zd,am zd]⟩
  ·exact⟨by rw[am zd];exact hl.2 hn,by rw[am zd,am zd]⟩
  ·have:l.isEmpty=false:=by cases l;simp at hn;rfl
   exact⟨by rw[ap zd,this];rfl,by rw[ap rfl,this];rfl⟩
  ·have:l.isEmpty=false:=by cases l;simp at hn;rfl
   exact⟨by rw[ap zd,this];rfl,by rw[am zd,am zd]⟩
  ·have:l.isEmpty=false:=by cases l;simp at hn;rfl
   exact⟨by rw[ap zd,this];rfl,by rw[am zd,ap zd,hn];rfl⟩
  ·have:l.isEmpty=false:=by cases l;simp at hn;rfl
   exact⟨by rw[ap zd,this];rfl,by rw[am zd,ap zd,hn];rfl⟩
  ·have:l.isEmpty=false:=by cases l;simp at hn;rfl
   exact⟨by rw[ap zd,this];rfl,by rw[am zd,ap zd,hn];rfl⟩
  exact⟨by rw[am zd];exact hl.2 hn,by rw[am zd,am zd]⟩
def sj:∀(l:List Nd),eT l=true->bL l=true/\aU l=true
 |[],_=>⟨rfl,rfl⟩
 |t::r,h=>by
  rw[eT,NF]at h
  obtain⟨a1,a2⟩:=xd t true h.1
  obtain⟨b1,b2⟩:=sj r h.2
  unfold bL aU
  rw[a1,a2,b1,b2]
  exact⟨rfl,rfl⟩
end
def gT{t:Nd}(h:aZ t=true):gW t=true/\dw t=true/\nsz t<=2000:=by
 unfold aZ at h;simp only[NF,decide_eq_true_eq]at h;obtain⟨h1,h2⟩:=xd t false h.2;exact⟨h1,h2,h.1⟩
def iq:∀ {l:List Nd},(∀t∈l,aZ t=true)->bL l=true/\aU l=true
 |[],_=>⟨rfl,rfl⟩
 |t::r,h=>by
  obtain⟨a1,a2,_⟩:=gT (h t (by simp));obtain⟨b1,b2⟩:=iq (l:=r) λx hx=>h x (by simp[hx])
  unfold bL aU;rw[a1,a2,b1,b2];exact⟨rfl,rfl⟩
def AN:∀(xs:List Nd) (i:Nat) (g:Gr),WF g->0<g.ks.length->(∀k,g.en k<=i)->∀k,(bG xs i g).en k<=i+xs.length
 |[],i,g,_,_,h,k=>by have:=h k;show g.en k<=_;omega
 |x::r,i,g,hw,h0,h,k=>by
  obtain⟨h1,h2,h3⟩:=je hw h0 x i
  have:=AN r (i+1) (iu x i g) h1 zo (λq=>by
   rw[pI hw h0]
   split
   ·omega
   split
   ·have:=h q;omega
   omega) k
  simp only[MB];show(bG r (i+1) (iu x i g)).en k<=_;omega
def C6(xs:List Nd)(k:Nat):(dy xs).en k<=xs.length:=by
 have:=AN xs 0 g00 mz zd (λq=>by
  unfold Gr.en g00
  by_cases e:q=0
  ·subst e;rw[ao];exact Ll _
  rw[eF (by simp;omega)];exact Ll _) k
 rw[Nat.zero_add]at this;exact this
def Jg(xs:List Nd):Tot (dy xs):=xn xs 0 g00 mz zd (by simp[Tot,xX,g00])
def rG{xs:List Nd}(h1:bL xs=true)(h2:aU xs=true):(dy xs).ls.length=aA xs:=by
 have:=jB xs 0 g00 h1 h2;unfold dy;rw[this];simp[g00]
def Bd.mark{g:Gr}{M:Nat}(h:Bd g M){a e:Nat}(ha:a<g.ks.length):Bd (g.mark a e) M:=⟨by rw[cn];exact h.ks,h.ls,λk=>by rw[nt ha];exact h.fr k,λk=>by rw[ns ha];exact h.lv k⟩
def I9{g:Gr}(h:WF g)(h0:0<g.ks.length)(x:Nd)(i:Nat){M:Nat}(hM:Bd g M):Bd (iu x i g) (M+3+(9*nsz x-1)):=by
 have e1:=aE g;have e2:=cn g.knot g.ks.length (i+1);have e3:=aE (g.knot.mark g.ks.length (i+1));have hl:=dp g i;exact iD x _ _ _ _ (ec h h0 i).1 zo zo (((hM.knot.mark zo).knot).free zo)
def BU{xs:List Nd}{g:Gr}(h:q<xs.length):bG (xs.drop q) q g=bG (xs.drop (q+1)) (q+1) (iu (nth xs q) q g):=by
 rw[kX h,bG]
def KA:Bd g00 1:=by
 refine⟨zd,zd,λk=>?_,λk=>?_⟩
 ·unfold Gr.fr g00
  by_cases e:k=0
  ·subst e;rw[ao];decide
  rw[eF (by simp;omega)];decide
 unfold Gr.lv g00
 by_cases e:k=0
 ·subst e;rw[ao];decide
 rw[eF (by simp;omega)];decide
def dS(ts:List Nd):Int:=if 40<ts.length then 3 else if ts.any (λt=>!aZ t)=true then 1 else if 1000<1+aA ts then 7 else 0
def Gh(t:Nd)(x:N3)(w:ka)(h:Nt (λ_=>0) w t x):NA Mw 87 [nv x] w λv w'=>v=.bool (!aZ t)/\Np w w':=by
 have hx:=h.ones;have a3:=h.one;apply Ln func87 ntmps87 rfl rfl;refine zh ?_;apply aI (aw w) 1 zo rfl rfl;intro xb w1 O1 a1 a4 a5 a0;refine zh ?_;apply zv (ah (us:=aY x) a1.V (P4 _) (Nu _) rfl);apply zc call84 (gS t x w1 (h.ext a0));rintro v w2 ⟨rfl,a2⟩;refine zh ?_;refine af rfl rfl ⟨rfl,a0.J a2⟩
def C7(nb:Nat)(e:Int):ix:=.pointer (if e=0 then some ⟨nb,0,none⟩else none)
def Ji(se:Bool)(ts:List Nd)(xs:List N3)(sv:ix)(w:ka)(hs:Sl aY 3 w sv xs)(hl:ts.length=xs.length)(hk:∀i,i<xs.length->Nt (λ_=>0) w (nth ts i) (nth xs i)):
  NA Mw 50 [.bool se,sv] w λv w'=>∃nb,v=.tuple #[C7 nb (dS ts),nI (dS ts)]/\Np w w'/\(dS ts=0->NfD w' nb se (dy ts)):=by
 apply Ln func50 ntmps50 rfl rfl;refine zh ?_
 by_cases g4:40<ts.length
 ·have hM:dS ts=3:=by unfold dS;rw[ap g4]
  rw[hM];refine zTH rfl ((decide_eq_true zo)) ?_;refine cj rfl rfl rfl ⟨0,rfl,Lu _,λh=>by cases h⟩
 have hq:∀i,i<xs.length->∀w',Np w w'->NA Mw 87 ([nv (nth xs i)]++(#[]:Array ix).toList) w' λv w''=>v=.bool (!aZ (nth ts i))/\Np w' w'':=λi hi w' hE=>Gh _ _ w' ((hk i hi).ext hE)
 have j2:jZ (λi=>!aZ (nth ts i)) xs.length=ts.any (λt=>!aZ t):=by rw[<-hl];exact jD (p:=λt=>!aZ t)
 refine zFH rfl ((decide_eq_false zo)) ?_;apply zc call86 (dz call87 #[] xs sv (λi=>!aZ (nth ts i)) w hs hq)
 rw[j2];rintro v w1 ⟨rfl,k1⟩;refine zh ?_
 cases b0:ts.any (λt=>!aZ t)with
 |true=>
  have hM:dS ts=1:=by unfold dS;rw[am g4,ap b0]
  rw[hM];refine zTH rfl rfl ?_;refine cj rfl rfl rfl ⟨0,rfl,k1,λh=>by cases h⟩
 |false=>
  have a6:∀t∈ts,aZ t=true:=λt ht=>by
   have:=List.any_eq_false.1 b0 t ht;simpa using this
  obtain⟨e6,b7⟩:=iq a6;have hR:∀q,q<ts.length->aZ (nth ts q)=true:=λq hq=>a6 _ (aJ hq)
  have p0:=hs.ext k1;refine zFH rfl rfl ?_;apply zlp (λz:Nat×ka=>[(0,.bool se),(1,sv),(6,nI ((1+aA (ts.take z.1):Nat):Int)),(23,sv),(24,nI xs.length),(25,nI z.1)]) (λz=>z.2) (λz=>z.1<=ts.length/\Np w z.2/\aA (ts.take z.1)<=z.1*2000) (λz=>ts.length-z.1) (0,w1) ⟨Li _,k1,by simp[aA]⟩;rintro⟨q,w2⟩ ⟨m',b5,l0⟩;dsimp only at m' b5 l0 ⊢;have k9:=hs.ext b5;refine zh ?_;refine zC ?_ ?_
  ·intro a0;replace a0:q<ts.length:=dT a0;have a7:=(hk q zo).ext b5;have i6:=a7.one;have p3:=nz (nth ts q);have m7:=(gT (hR q a0)).2.2;have m6:=jj ts q a0;refine zh ?_;apply zv (ah (us:=aY (nth xs q)) (λj u hu=>k9.cell zo hu) (P4 _) (Nu _) rfl);apply au (aw w2) 1 zo (PO _) rfl;intro yb w3 O3 j1 j4 l6 p4;apply zsb (us:=#[nI (nth xs q).1,nI (nth xs q).2.1,(nth xs q).2.2]) j1 (Nu _) (cH i6);have l8:Np w2 (w3.setRow yb #[nI (nth xs q).1,nI (nth xs q).2.1,(nth xs q).2.2]):=(j4.J (LU zd j1.tag rfl)).ext;have o0:=j1.setRow (us:=#[nI (nth xs q).1,nI (nth xs q).2.1,(nth xs q).2.2]);generalize w3.setRow yb #[nI (nth xs q).1,nI (nth xs q).2.1,(nth xs q).2.2]=w4 at *;refine zh ?_;apply zv (ah (us:=aY (nth xs q)) o0.V (P4 _) (Nu _) rfl);apply zc call88 (rQ (nsz (nth ts q)) zo (nth ts q) (Ll _) (nth xs q) w4 (a7.ext l8));rintro v w5 ⟨rfl,l7⟩;refine zh ?_;rw[show((1+aA (ts.take q):Nat):Int)+((aK (nth ts q):Nat):Int)=((1+aA (ts.take (q+1)):Nat):Int)from by rw[m6];omega];refine zxd (q+1,w5) ⟨a0,(b5.J l8).J l7,by dsimp only;omega⟩
  intro i8;obtain rfl:q=ts.length:=dF i8;rw[M8]at l0 ⊢;refine zh ?_
  by_cases e9:1000<1+aA ts
  ·have hM:dS ts=7:=by unfold dS;rw[am g4,am (by rw[b0];decide),ap e9]
   rw[hM];refine zTH rfl ((decide_eq_true zo)) ?_;refine cj rfl rfl rfl ⟨0,rfl,b5,λh=>by cases h⟩
  have hM:dS ts=0:=by unfold dS;rw[am g4,am (by rw[b0];decide),am e9]
  rw[hM];refine zFH rfl ((decide_eq_false zo)) ?_;apply bx kvI id (aw w2) 1 zd rfl;intro nr w3 O3 n4 j4 l6;apply bx kvI tvU l6 2 zd rfl;intro tr w4 O4 n3 l4 o4;have h':=n4.U l4 zd zd;apply zv (aH Ko (zeroValue173 _) rfl (by first|rfl|(simp only[MA,N1];rfl)) rfl rfl);apply aI o4 3 zo rfl rfl;intro nb w5 O5 n' j3 o3 l7;have i5:=h'.U j3 zd zd;have i2:=n3.U j3 zd zd;have f6:Lr (λq=>1<=q) (λ_=>0) w2 O5 w5:=((j4.mono (λ_ h=>zo) zo).J (l4.mono (λ_ h=>zo) zo)).J (j3.mono (λ_ h=>zo) zo);have h5:NfO O5 w5 3 nb se ⟨[],[]⟩ (.map (some nr)) (.map (some tr)) nS nS []:=⟨n',Mr _ _ _ _ _ _,⟨Mr _ _ _ _ _ _,rfl,λk hk=>absurd hk (ln k),λk hk=>absurd hk (ln k),λk hk=>absurd hk (ln k)⟩⟩
  refine zh ?_;apply zc PU (jW w2.heap.size O5 w5 3 nb se ⟨[],[]⟩ _ _ _ _ _ zd o3 h5 zd)
  rintro _ w6 ⟨rfl,O6,m0,m2,l9,o1,o2,h6⟩;have o':=k9.ext f6.ext;refine zh ?_;refine zvH (aM hs.sh underlying73 rfl) ?_;apply zlp (λz:Nat×(Nat->Nat)×World×Gr×ix×ix×List K3=>[(9,nP nb),(43,sv),(44,nI xs.length),(45,nI z.1)]) (λz=>z.2.2.1) (λz=>z.1<=ts.length/\Lr (λq=>3<=q) O5 w5 z.2.1 z.2.2.1/\Ng w2.heap.size z.2.1 z.2.2.1/\NfO z.2.1 z.2.2.1 3 nb se z.2.2.2.1 (.map (some nr)) (.map (some tr)) z.2.2.2.2.1 z.2.2.2.2.2.1 z.2.2.2.2.2.2/\WF z.2.2.2.1/\0<z.2.2.2.1.ks.length/\Bd z.2.2.2.1 (1+z.1*18010)/\bG ts 0 g00=bG (ts.drop z.1) z.1 z.2.2.2.1) (λz=>ts.length-z.1) (0,O6,w6,g00,m0,m2,l9) ⟨Li _,o1,o2,h6,mz,(show 0<g00.ks.length by decide),(show Bd g00 (1+0*18010)from KA),rfl⟩;rintro⟨q,O7,w7,g,g1,g9,g5⟩ ⟨m9,f5,c9,h7,b6,f9,f3,b3⟩;dsimp only at m9 f5 c9 h7 b6 f9 f3 b3 ⊢;have c7:=f6.J (f5.mono (S':=λq=>1<=q) (λq h=>zo) zo);have k2:=b5.J c7.ext;refine zh ?_;refine zC ?_ ?_
  ·intro a0;replace a0:q<ts.length:=dT a0;rw[BU a0]at b3;have m8:=hs.ext k2;have a7:Nt O7 w7 (nth ts q) (nth xs q):=((hk q zo).ext b5).U c7;have i6:=a7.one;have m7:=(gT (hR q a0)).2.2;have h3:=(gT (hR q a0)).2.1;obtain⟨T,j7,hT⟩:=c9.bound;refine zh ?_;apply zv (ah (us:=aY (nth xs q)) (λj u hu=>m8.cell zo hu) (P4 _) (Nu _) rfl);apply au c9 T zo (PO _) rfl;intro yb w8 O8 g2 d2 l5 o5;refine zh ?_;apply zsb (us:=#[nI (nth xs q).1,nI (nth xs q).2.1,(nth xs q).2.2]) g2 (Nu _) (cH i6);have f4:Lr (λj=>j=T) O8 w8 O8 (w8.setRow yb #[nI (nth xs q).1,nI (nth xs q).2.1,(nth xs q).2.2]):=LU zo g2.tag rfl;obtain⟨g3,n7⟩:=ID j7 hT d2 f4 (g2.setRow (us:=#[nI (nth xs q).1,nI (nth xs q).2.1,(nth xs q).2.2]));generalize w8.setRow yb #[nI (nth xs q).1,nI (nth xs q).2.1,(nth xs q).2.2]=w9 at *;clear g2 d2 l5 o5 f4;have h9:=h7.ext g3 zd;have f8:=c9.ext g3;have c6:Lr (λq=>3<=q) O7 w7 O7 w9:=aa zo O7 g3;have e7:=a7.ext g3;have n6:=f3.ks;have e1:=aE g;refine zh ?_;apply zc PU (jW w2.heap.size O7 w9 3 nb se g _ _ _ _ _ zd f8 h9 zo);rintro _ g0 ⟨rfl,O10,g8,h0,a5,b2,d0,a'⟩;have m4:=a'.ks.len;have d7:g.ks.length<a5.length:=zo;have c2:=a'.c2;refine zh ?_;rw[show((q:Nat):Int)+1=((q+1:Nat):Int)from by omega];refine zvH (ai a'.ks.row.sl.sh underlying171 (sizeOf175 _) rfl rfl g.ks.length rfl d7) ?_
   apply qw a'.ks.row g.ks.length d7 2 zd (((nth a5 g.ks.length).1,(nth a5 g.ks.length).2.1,q+1):K3) (Ls _) rfl zo rfl rfl rfl rfl;intro d4 b8 a4;have e2:=cn g.knot g.ks.length (q+1);have k5:NfO O10 d4 3 nb se (g.knot.mark g.ks.length (q+1)) (.map (some nr)) (.map (some tr)) g8 h0 (a5.set g.ks.length ((nth a5 g.ks.length).1,(nth a5 g.ks.length).2.1,q+1)):=by
    refine⟨a'.blk.U a4 zd zd,a'.ls.U a4 zd zd,⟨b8,by rw[Lq];omega,λk hk=>?_,λk hk=>?_,λk hk=>?_⟩⟩
    ·rw[Lq]at hk;rw[bm d7,nt zo]
     split
     ·rename_i e;subst e;exact(a'.ks.fr _ hk).U a4 zo zo
     exact(a'.ks.fr k hk).U a4 zo zo
    ·rw[Lq]at hk;rw[bm d7,ns zo]
     split
     ·rename_i e;subst e;exact(a'.ks.lv _ hk).U a4 zo zo
     exact(a'.ks.lv k hk).U a4 zo zo
    rw[Lq]at hk;rw[bm d7,yF zo]
    split
    ·rfl
    exact a'.ks.en k hk
   have c':=d0.U a4;have f7:=ji a4 (i:=3) zd zd;refine zh ?_;apply zc PU (jW w2.heap.size O10 d4 3 nb se (g.knot.mark g.ks.length (q+1)) _ _ _ _ _ zd c' k5 zo);rintro _ f' ⟨rfl,O12,m1,m3,l',c8,j',o8⟩;have e3:=aE (g.knot.mark g.ks.length (q+1));rw[show((g.knot.mark g.ks.length (q+1)).ks.length:Nat)=g.ks.length+1 from by omega];have b4:=(f3.knot.mark (a:=g.ks.length) (e:=q+1) zo).knot;refine zh ?_;apply zc call90 (iE w2.heap.size O12 f' 3 nb se (g.knot.mark g.ks.length (q+1)).knot _ _ _ _ _ 0 (g.ks.length+1) zd j' o8 zo (by have:=b4.fr 0;omega) zo);rintro _ k7 ⟨O13,g7,g',g6,j6,j9,o7⟩;have k4:NfO O13 k7 3 nb se (cG g q) (.map (some nr)) (.map (some tr)) g7 g' g6:=o7;obtain⟨m5,k8⟩:=ec b6 f9 q;have o9:=dp g q;have n8:Bd (cG g q) (1+q*18010+3):=b4.free zo;have a8:=((b2.J f7).J c8).J j6;refine zh ?_;refine zvH (ah (us:=aY (nth xs q)) (λj u hu=>((n7 j u hu).U a8).c) (P4 _) (Nu _) rfl) ?_;apply zc call91 (Dn (nsz (nth ts q)) (nth ts q) (Ll _) w2.heap.size O13 k7 3 nb se (cG g q) _ _ _ _ _ (g.ks.length+1) g.ks.length (nth xs q) (1+q*18010+3) zd j9 k4 m5 zo zo n8 zo h3 (e7.U a8));rintro _ k6 ⟨O14,d5,d6,d3,j5,j8,o6⟩;have k3:NfO O14 k6 3 nb se (iu (nth ts q) q g) (.map (some nr)) (.map (some tr)) d5 d6 d3:=o6;obtain⟨n2,p2,p1⟩:=je b6 f9 (nth ts q) q;have n1:=I9 b6 f9 (nth ts q) q f3;refine zh ?_
   refine zxd (q+1,O14,k6,iu (nth ts q) q g,d5,d6,d3) ⟨a0,((f5.J c6).J a8).J j5,j8,k3,n2,by dsimp only;omega,n1.mono (by dsimp only;omega),b3⟩
  intro i8;obtain rfl:q=ts.length:=dF i8;rw[Pc,bG]at b3;have b3:dy ts=g:=b3;have i4:=i5.U f5 zd zd;have i1:=i2.U f5 zd zd;have l3:∀k,g.en k<=40:=λk=>by rw[<-b3];have:=C6 ts k;omega
  have n5:=rG e6 b7;rw[b3]at n5 ⊢;have e':Bd g 1000000:=f3.mono zo;refine zh ?_;apply zc call92 (Az w2.heap.size O7 w7 3 nb se g nr tr g1 g9 g5 [] [] 0 0 1000000 zd c9 h7 i4 i1 b6 f9 e' zd l3);rintro _ w8 ⟨v0,d2,i3,i0,h2,i9⟩;have h8:=h7.U d2 zd zo;have l5:=c9.U d2;have c1:=h8.c1;have n0:g.pl 0=0:=rfl;refine zh ?_;refine zvH (aM h8.ls.sl.sh PF rfl) ?_;apply zlp (λz:Nat×ka×List (Int×ix)×List (Int×Nat)=>[(9,nP nb),(77,g1),(78,nI g.ls.length),(79,nI z.1)]) (λz=>z.2.1) (λz=>z.1<=g.ls.length/\Lr (λq=>q=1\/q=2) O7 w7 O7 z.2.1/\MN kvI id O7 z.2.1 1 nr z.2.2.1/\MN kvI tvU O7 z.2.1 2 tr z.2.2.2/\(∀p:Nat,p<=z.1->∃v,bC z.2.2.1 (p:Int)=some v/\Sl aL 1 z.2.1 v (cS g p)/\Nm O7 z.2.1 v)/\(∀p:Nat,p<=z.1->bC z.2.2.2 (p:Int)=some (iU g p))) (λz=>g.ls.length-z.1) (0,w8,dc [] 0 v0,dc [] 0 ((gi g 0).foldl (gw g) 0)) ⟨Li _,d2,i3,i0,λp hp=>⟨v0,by obtain rfl:p=0:=NW.1 hp;rfl,by obtain rfl:p=0:=NW.1 hp;exact h2,i9⟩,λp hp=>by obtain rfl:p=0:=NW.1 hp;rfl⟩;rintro⟨j,w9,l1,l2⟩ ⟨hj,c6,b',b9,h4,h1⟩;dsimp only at hj c6 b' b9 h4 h1 ⊢;have h9:=h7.U c6 zd zo;have f8:=c9.U c6;have e5:=h9.ls.sl;refine zh ?_;refine zC ?_ ?_
  ·intro a0;replace a0:j<g.ls.length:=dT a0;have n9:=b6.ls j a0;obtain⟨T,j7,hT⟩:=f8.bound;refine zh ?_;apply zv (RV.indexAddr e5 PF (Pr _) rfl rfl j rfl a0);apply zv (ah (us:=tV (nth g.ls j)) (λq u hu=>e5.cell a0 hu) (isAgg178 _) (Pr _) rfl);apply au f8 T zo (zeroValue178 _) rfl;intro yb g0 O10 b1 b2 d0 k0;refine zh ?_;apply zsa (us:=(tV (nth g.ls j)).toArray) b1 (Pr _);have f4:Lr (λj=>j=T) O10 g0 O10 (g0.setRow yb (tV (nth g.ls j)).toArray):=LU zo b1.tag rfl;obtain⟨d1,j0⟩:=ID j7 hT b2 f4 (b1.setRow (us:=(tV (nth g.ls j)).toArray));generalize g0.setRow yb (tV (nth g.ls j)).toArray=d4 at *;clear b1 b2 d0 k0 f4;have c5:Lr (λ_=>False) O7 w9 O7 d4:=aa (λh=>h) O7 d1;have k5:=h9.ext d1 zd;have c':=f8.ext d1;have e4:=b'.U c5 zd λh=>h
   have d':=b9.U c5 zd λh=>h
   have p5:=(j0 2 _ rfl).c;refine zh ?_;apply zc call92 (Az w2.heap.size O7 d4 3 nb se g nr tr g1 g9 g5 l1 l2 ((j:Nat)+1) (nth g.ls j).2.2 1000000 zd c' k5 e4 d' b6 n9 e' zd l3);rintro _ f' ⟨v1,c8,e0,d9,d8,e8⟩;have a9:Lr (λq=>q=1\/q=2) O7 w9 O7 f':=(c5.mono (λ_ h=>h.elim) zo).J c8;have k':g.pl (j+1)=(nth g.ls j).2.2:=by unfold Gr.pl;rw[am zo];rfl
   refine zh ?_;refine zxd (j+1,f',dc l1 ((j:Nat)+1) v1,dc l2 ((j:Nat)+1) ((gi g (nth g.ls j).2.2).foldl (gw g) 0)) ⟨a0,c6.J a9,e0,d9,λp hp=>?_,λp hp=>?_⟩
   ·dsimp only at hp ⊢;rw[bn]
    by_cases e:p=j+1
    ·subst e;exact⟨v1,by rw[ap zo],by unfold cS;rw[k'];exact d8,e8⟩
    obtain⟨v,a1,a2,a3⟩:=h4 p zo;exact⟨v,by rw[am zo];exact a1,a2.U a3 a9,a3.U a9⟩
   dsimp only at hp ⊢;rw[bn]
   by_cases e:p=j+1
   ·subst e;rw[ap zo];unfold iU;rw[k']
   rw[am zo];exact h1 p zo
  intro i7;obtain rfl:j=g.ls.length:=dF i7;refine zh ?_;refine cj rfl rfl rfl ⟨nb,rfl,b5.J (c7.J (c6.mono (S':=λq=>1<=q) (λq h=>zo) zo)).ext,λ_=>⟨nr,tr,g1,g9,g5,l1,l2,h9.r,b'.fgt (i':=0) rfl,b9.fgt (i':=0) rfl,λp hp=>by obtain⟨v,a1,a2,_⟩:=h4 p hp;exact⟨v,a1,a2⟩,h1⟩⟩
abbrev DW(b:UInt8):List ix:=[.int .u8 (b.toNat:Int)]
def L5:Pj Mw 188 5 1 1:=⟨Nj,by kernel_rfl,zd⟩
def AJ:Pj Mw 50 22 1 24:=⟨M6,by kernel_rfl,zd⟩
def iP:Pj Mw 31 28 1 8:=⟨P3,by kernel_rfl,zd⟩
def sS(n:Nat):PX.wrap (n:Int)=((Mp (n % 256)).toNat:Int):=by
 rw[PW];simp only[UInt8.toNat_ofNat'];omega
def BN(s:List Int)(sv:ix)(w:ka)(h:Sl encI 1 w sv s)(ho:okS s)(hl:s.length<=100000):NA Mw 128 [sv] w λv w'=>v=.string (bs (xM s))/\Np w w':=by
 apply Ln func128 ntmps128 rfl rfl;refine zh ?_
 apply zlp (λz:Nat×ix×(Nat->Nat)×World=>[(3,z.2.1),(6,sv),(7,nI s.length),(8,nI z.1)]) (λz=>z.2.2.2) (λz=>z.1<=s.length/\My DW 5 1 z.2.2.1 z.2.2.2 1 z.2.1 (xM (s.take z.1))/\(xM (s.take z.1)).length=2*z.1/\Lr (λq=>q=1) (λ_=>0) w z.2.2.1 z.2.2.2/\Ng w.heap.size z.2.2.1 z.2.2.2) (λz=>s.length-z.1) (0,nS,λ_=>0,w) ⟨Li _,Mr _ _ _ _ _ _,rfl,N6 zd _ _,aw w⟩;rintro⟨q,v1,O1,w1⟩ ⟨hq,a0,a4,hU,hR⟩;dsimp only at hq a0 a4 hU hR ⊢;have h1:=h.ext hU.ext;refine zh ?_
 refine zC ?_ ?_
 ·intro a1;replace a1:q<s.length:=dT a1;have a7:=ho _ (aJ a1);obtain⟨p,hp⟩:∃p:Nat,nth s q=(p:Int):=⟨(nth s q).toNat,zo⟩
  have b1:p<=999:=by have:=a7.2;rw[hp]at this;simpa using this
  have m1:w1.cell? (adr sv 1 q)=some (nI (nth s q)):=by have:=h1.cell (j:=0) a1 rfl;rwa[ar]at this
  rw[hp]at m1;have a3:xM (s.take (q+1))=xM (s.take q)++[Mp (p / 256),Mp (p % 256)]:=by
   unfold xM;rw[aG a1,MK,hp];simp
  refine zh ?_;apply zv (jI (a:=p) (b:=8) rfl rfl rfl rfl zd)
  refine zvH (oY Ns Nf rfl) ?_;apply zv (oY Ns Nf rfl)
  rw[sS p,sS (p / 2^8),show p / 2^8 % 256=p / 256 from by omega];apply fD Nj (sizeOf5 _) (PT _) DW [Mp (p / 256),Mp (p % 256)] rfl rfl rfl rfl zk (by simp) rfl;intro bv w2 a9 a6;have a5:Lr (λ_=>False) O1 w1 O1 w2:=aa (λh=>h) O1 a6;apply aC L5 (a0.U a5 zd λh=>h) (hR.ext a6) a9 (by simp) rfl rfl (by simp) (by simp[Lk]) (by simp;omega) (by simp;omega) zd rfl;intro v3 w3 O3 a2 a' b0;refine zh ?_;refine zxd (q+1,v3,O3,w3) ⟨a1,by dsimp only;rw[a3];exact a2,by dsimp only;rw[a3];simp[a4];omega,(hU.J (a5.mono (λ_ h=>h.elim) zd)).J a',b0⟩
 intro a8;obtain rfl:q=s.length:=dF a8;rw[M8]at a0;refine zh ?_;refine zvH (AY a0.sl Nj Nf Pd rfl) ?_;refine af rfl rfl ⟨rfl,hU.ext⟩
def Dk:cC Mw 182 #[(0,1),(1,1),(2,1)]:=⟨_,underlying182,λw=>by kernel_rfl⟩
def B2:cC Mw 78 #[(0,1),(1,1)]:=⟨_,underlying78,λw=>by kernel_rfl⟩
def vR:KeyL Mw 9 Nc:=G4 Pd
abbrev sn(v:ix):List ix:=[v]
structure MkO(O:Nat->Nat)(w:ka)(i mb nb kr:Nat)(sv:ix)(vs:List ix)(S:List (List Int))(l:List (ByteArray×Int)):Prop where
 blk:MX O w i mb #[nP nb,.map (some kr),sv] 182
 map:MN Nc kvI O w (i+1) kr l
 row:My sn 22 1 O w (i+2) sv vs
 len:vs.length=S.length
 at_:∀k,k<S.length->Sl encI 1 w (nth vs k) (nth S k)/\Nm O w (nth vs k)
 ok:∀s∈S,okS s
 key:∀s,okS s->bC l (bs (xM s))=(BD S s).map fun(k:Nat)=>(k:Int)
def MkO.U{T:Nat->Prop}{O O':Nat->Nat}{w w':ka}{i mb nb kr:Nat}{sv:ix}{vs:List ix}{S:List (List Int)}{l:List (ByteArray×Int)}(h:MkO O w i mb nb kr sv vs S l)(u:Lr T O w O' w')(hi:i≠0)(h1:¬T i)(h2:¬T (i+1))(h3:¬T (i+2)):MkO O' w' i mb nb kr sv vs S l:=
 ⟨h.blk.U u hi h1,h.map.U u zo h2,h.row.U u zo h3,h.len,λk hk=>⟨(h.at_ k hk).1.U (h.at_ k hk).2 u,(h.at_ k hk).2.U u⟩,h.ok,h.key⟩
def Dz{S:List (List Int)}{s t:List Int}(h:BD S s=none):BD (S++[s]) t=if s=t then some S.length else BD S t:=by
 unfold BD at h ⊢;rw[Nn]
 by_cases e:s=t
 ·subst e;rw[h,ap rfl];simp[Mu]
 rw[am e]
 cases hq:S.findIdx? (· == t)with
 |some k=>simp
 |none=>simp[Mu,e]
def oo(B:Nat)(O:Nat->Nat)(w:ka)(i mb nb kr:Nat)(mv:ix)(vs:List ix)(S:List (List Int))(l:List (ByteArray×Int))(s:List Int)(sv:ix)(hi:i≠0)(hR:Ng B O w)(h:MkO O w i mb nb kr mv vs S l)(hs:Sl encI 1 w sv s)(hf:Nm O w sv)(ho:okS s)(b8:s.length<=100000)(d1:S.length<=100000):
  NA Mw 93 [nP mb,sv] w λv w'=>∃O' mv' vs' l',v=nI ((Ai S s:Nat):Int)/\Lr (λq=>i<=q/\q<=i+2) O w O' w'/\Ng B O' w'/\MkO O' w' i mb nb kr mv' vs' (oP S s) l':=by
 have hz:¬(λq=>i<=q/\q<=i+2) 0:=zo;have b9:=hs.shape;obtain⟨sa,sc,rfl,_⟩:=b9;apply Ln func93 ntmps93 rfl rfl;refine zh ?_;apply zc call128 (BN s _ w hs ho b8);rintro _ w1 ⟨rfl,b7⟩;have a':Lr (λ_=>False) O w O w1:=aa (λh=>h) O b7;have h1:=h.U a' hi (λh=>h) (λh=>h) λh=>h
 have b6:=hR.U a';have b3:=hs.ext b7;have a9:=hf.U a';have a4:=h.key s ho;have a7:Lr (λq=>i<=q/\q<=i+2) O w O w1:=a'.mono (λ_ h=>h.elim) hz;have c1:w1.cell? (nA mb 1)=some (.map (some kr)):=h1.blk.cell 1 rfl;have c2:w1.cell? (nA mb 2)=some mv:=h1.blk.cell 2 rfl;refine zh ?_
 cases a0:BD S s with
 |some k=>
  rw[a0]at a4;have hn:Ai S s=k:=by unfold Ai;rw[a0];rfl
  have hS:oP S s=S:=by unfold oP;rw[a0];rfl
  rw[hn,hS];refine zvH (dm (u:=.tuple #[kvI (k:Int),.bool true]) h1.map MD vR (MC _) (bs (xM s)) rfl rfl rfl (by rw[a4];rfl)) ?_;refine zFH rfl rfl ?_;refine af rfl rfl ⟨O,mv,vs,l,rfl,a7,b6,h1⟩
 |none=>
  rw[a0]at a4;have hn:Ai S s=S.length:=by unfold Ai;rw[a0];rfl
  have hS:oP S s=S++[s]:=by unfold oP;rw[a0];rfl
  rw[hn,hS];have a8:=h.len;refine zvH (dm (u:=.tuple #[kvI 0,.bool false]) h1.map MD vR (MC _) (bs (xM s)) rfl rfl rfl (by rw[a4];rfl)) ?_;refine zTH rfl rfl ?_;refine zvH (aM h1.row.sl.sh M6 rfl) ?_;apply Mt h1.map MD vR zo (bs (xM s)) (vs.length:Int) rfl rfl rfl rfl rfl;intro w2 c6 a6;have b5:=h1.blk.U a6 hi zo;have b':=h1.row.U a6 zo zo;have c9:=b6.U a6;have c':=b3.U a9 a6;have d0:=a9.U a6;have d2:w2.cell? (nA mb 2)=some mv:=b5.cell 2 rfl;refine zh ?_;apply Nl AJ b' c9 ((.slice sa s.length sc:ix)) (λ_=>rfl) rfl rfl rfl (by simp[Lk]) zo zo zo zd rfl rfl;intro a5 w3 O3 b4 b2 c8;have b1:=b5.U b2 hi zo;have c5:=c6.U b2 zo zo;refine zh ?_;apply aj (j:=2) b1 rfl (Pe _) b4.one rfl rfl rfl;have b0:Lr (λq=>q=i) O3 w3 O3 (w3.setCell ⟨mb,2,none⟩ a5):=MV (λe=>hi e.symm) b1.tag rfl;have c7:MX O3 (w3.setCell ⟨mb,2,none⟩ a5) i mb #[nP nb,.map (some kr),a5] 182:=b1.set 2 a5;have a3:Lr (λq=>i<=q/\q<=i+2) O w1 O3 (w3.setCell ⟨mb,2,none⟩ a5):=((a6.mono (λq h=>zo) hz).J (b2.mono (λq h=>zo) hz)).J (b0.mono (λq h=>zo) hz);refine zh ?_;refine af rfl rfl ⟨O3,a5,vs++[.slice sa s.length sc],dc l (bs (xM s)) (vs.length:Int),by rw[a8],a7.J a3,(c8.U b0),⟨c7,c5.U b0 zo zo,b4.U b0 zo zo,by simp[a8],λk hk=>?_,λt ht=>?_,λt ht=>?_⟩⟩
  ·rw[az,az,a8]
   by_cases e:k<S.length
   ·rw[ap e,ap e];obtain⟨a1,a2⟩:=h1.at_ k e;exact⟨a1.U a2 a3,a2.U a3⟩
   rw[am e,am e];simp only[M9,MB,NH]at hk;rw[show k-S.length=0 from by omega,ao,ao];exact⟨b3.U a9 a3,a9.U a3⟩
  ·rcases Lz.1 ht with ht|ht
   ·exact h.ok t ht
   rw[L3.1 ht];exact ho
  rw[bn,Dz a0]
  by_cases e:s=t
  ·subst e;rw[ap rfl,ap rfl,a8];rfl
  rw[am (λe2=>e (AA ho ht (Ip e2))),am e];exact h.key t ht
def F7{r:List Nat}(hr:r.length=m)(hm:m<N):(r++Ly (N-m) 0).set m x=(r++[x])++Ly (N-(m+1)) 0:=by
 obtain⟨k,hk⟩:∃k,N-m=k+1:=⟨N-m-1,zo⟩
 rw[show N-(m+1)=k from by omega,hk,List.set_append_right _ _ zo,hr,N4,NX,List.set_cons_zero,Na];rfl
def Free.lowT(h:Nm O w v)(T:Nat):Nm (Nr O T) w v:=λa n c e hn=>⟨lZ (h a n c e hn).1,(h a n c e hn).2⟩
def MkO.lowT{O:Nat->Nat}{w:ka}{i mb nb kr:Nat}{sv:ix}{vs:List ix}{S:List (List Int)}{l:List (ByteArray×Int)}(h:MkO O w i mb nb kr sv vs S l){T:Nat}(hT:i+2<T):MkO (Nr O T) w i mb nb kr sv vs S l:=
 ⟨h.blk.lowT zo,h.map.fgt (by unfold Nr;rw[h.map.tag,am zo]),h.row.lowT zo,h.len,λk hk=>⟨(h.at_ k hk).1,Free.lowT (h.at_ k hk).2 T⟩,h.ok,h.key⟩
def Ik{g:Gr}(hl:g.ls.length<=999){s:List Int}(h:inP g s):okS s:=λx hx=>⟨(h x hx).1,Nx (h x hx).2 hl⟩
def D3(B:Nat)(O:Nat->Nat)(w w0:ka)(i mb nb kr:Nat)(se:Bool)(g:Gr)(mv:ix)(vs:List ix)(S:List (List Int))(l:List (ByteArray×Int))(q:Nat)(hi:i≠0)(hR:Ng B O w)(h:MkO O w i mb nb kr mv vs S l)(hD:NfD w0 nb se g)(f5:Lr (λq=>1<=q) (λ_=>0) w0 O w) 
  (hw:WF g) (h0:0<g.ks.length) (ht:Tot g) (d4:g.ls.length<=999) (d5:∀s∈S,inP g s) (c9:∀s∈S,s.length<=1000) (hq:q<S.length) (hS:S.length<=1000) :
  NA Mw 95 [nP mb,nI (q:Nat)] w λv w'=>∃O' mv' vs' l',Lr (λq=>i<=q/\q<=i+2) O w O' w'/\Ng B O' w'/\MkO O' w' i mb nb kr mv' vs' (bX (cD se g) (nth S q) S 37).1 l'/\Sl aL 1 w' v (bX (cD se g) (nth S q) S 37).2/\Nm O' w' v/\(∀s∈(bX (cD se g) (nth S q) S 37).1,inP g s/\s.length<=1000):=by
 obtain⟨T0,g3,c6⟩:=hR.bound;obtain⟨T,g2⟩:∃T,T=T0+i+3:=⟨_,rfl⟩
 have hT:∀b,O b<T:=λb=>by have:=c6 b;omega
 have a5:=gR (cD se g) (nth S q) S;have b5:=d5 _ (aJ hq);have e3:=c9 _ (aJ hq);apply Ln func95 ntmps95 rfl rfl;refine zh ?_;obtain⟨N,hN⟩:∃N:Nat,N=37:=⟨_,rfl⟩
 apply cY gE (val:=λn:Nat=>nI (n:Int)) (0:Nat) zk (λ_=>rfl) hR T zo 37 rfl rfl zd zd zd zd rfl;intro w1 O1 ov e5 a4 d7 f8 g4;clear e5;have e8:=h.U d7 hi zo zo zo;refine zh ?_
 refine zvH (aM a4.sl.sh Lj rfl) ?_;rw[NQ];apply zlp (λz:Nat×(Nat->Nat)×World×ix×List ix×List (ByteArray×Int)=>[(0,nP mb),(1,nI (q:Nat)),(5,ov),(8,ov),(9,nI ((37:Nat):Int)),(10,nI z.1)]) (λz=>z.2.2.1) (λz=>z.1<=37/\Lr (λj=>j=T\/i<=j/\j<=i+2) O w z.2.1 z.2.2.1/\Ng B z.2.1 z.2.2.1/\MkO z.2.1 z.2.2.1 i mb nb kr z.2.2.2.1 z.2.2.2.2.1 (bX (cD se g) (nth S q) S z.1).1 z.2.2.2.2.2/\My aL 3 1 z.2.1 z.2.2.1 T ov ((bX (cD se g) (nth S q) S z.1).2++Ly (37-z.1) 0)/\∀s∈(bX (cD se g) (nth S q) S z.1).1,inP g s/\s.length<=1000) (λz=>37-z.1) (0,O1,w1,mv,vs,l) ⟨Li _,d7.mono (λ_ h=>.inl h) zo,f8,e8,a4,λs hs=>⟨d5 s hs,c9 s hs⟩⟩
 rintro⟨m,O2,w2,a',a9,l2⟩ ⟨b7,b4,a8,b0,a0,a1⟩;dsimp only at b7 b4 a8 b0 a0 a1 ⊢;have c':=(a5 m).len;have c8:=(a5 m).top;have b2:((bX (cD se g) (nth S q) S m).2++Ly (37-m) 0).length=37:=by simp[c'];omega
 refine zh ?_;refine zC ?_ ?_
 ·intro b1;replace b1:m<37:=dT b1;obtain⟨pq,d0⟩:=(a5 m).pre;have e4:q<(bX (cD se g) (nth S q) S m).1.length:=by rw[d0];simp;omega
  have e6:nth (bX (cD se g) (nth S q) S m).1 q=nth S q:=by rw[d0,az,ap hq]
  have c5:=f5.J (b4.mono (S':=λq=>1<=q) (λj h=>zo) zo);have hU02d:=c5.drew;have f9:=hD.ext hU02d.ext;have hm2d:=b0.U (aa (S:=λ_=>False) (λh=>h) O2 (Lu w2).drew) hi (λh=>h) (λh=>h) λh=>h
  have c0:w2.drew.cell? (nA mb 0)=some (nP nb):=hm2d.blk.cell 0 rfl;have c2:w2.drew.cell? (nA mb 2)=some a':=hm2d.blk.cell 2 rfl;have c7:=hm2d.row.sl;have g0:=hm2d.len;have cq:w2.drew.cell? (adr a' 1 q)=some (nth a9 q):=by have:=c7.cell (i:=q) (j:=0) zo rfl;rwa[ar]at this
  obtain⟨a6,f3⟩:=hm2d.at_ q e4;rw[e6]at a6;refine zh ?_;apply aN (λW=>W.cell? (nA mb 0)=some (nP nb)) 19 rfl zk;apply zrm 0 rfl c0 rfl;apply zrm 1 rfl c0 rfl;apply zrm 2 rfl c0 rfl;apply zrm 3 rfl c0 rfl;apply zr 4 rfl c0 (λ_=>ak rfl);apply zrf 5 rfl c0 rfl;apply zt 6 rfl c0 (λw1 e1=>RV.ld e1 rfl);apply zrm 7 rfl c0 rfl;apply zr 8 rfl c0 (λ_=>ak rfl);apply zrf 9 rfl c0 rfl;apply zrm 11 rfl c0 rfl;apply zrm 14 rfl c0 rfl;apply Lo 10 zk rfl;refine zvH (RV.ld c2 rfl) ?_;apply ae c0;apply zr 12 rfl c0 (λ_=>ai c7.sh M6 (NI _) rfl rfl q rfl zo);apply Lo 13 zk rfl;refine zvH (RV.ld cq rfl) ?_;apply ae c0;apply Lo 15 zk rfl;apply zc call129 (step_ret w2.drew nb se g (nth S q) (nth a9 q) (m:Nat) f9 a6 hw h0 ht b5 e3 d4);rintro tv w3 ⟨e2,d8,e'⟩;refine zh ?_;apply ae (d8.cell c0);have b8:=e' B O2 a8.drew;have b3:Lr (λ_=>False) O2 w2 O2 w3:=aa (λh=>h) O2 ((Lu w2).drew.J d8);have e7:=b0.U b3 hi (λh=>h) (λh=>h) λh=>h
  have f7:=a8.U b3;have a7:=a0.U b3 zo λh=>h
  have d1:=sV hw h0 (iV se g) b5 (m:Nat);have g1:=F0 (se:=se) hw h0 b5 (m:Nat);apply Lo 16 zk rfl;apply zc call93 (oo B O2 w3 i mb nb kr a' a9 (bX (cD se g) (nth S q) S m).1 l2 (cD se g (nth S q) (m:Nat)) tv hi f7 e7 e2 b8 (Ik d4 d1) zo zo);rintro _ w4 ⟨O4,e0,d',l4,rfl,d6,f6,d3⟩;have d9:w4.cell? (nA mb 0)=some (nP nb):=d3.blk.cell 0 rfl;refine zh ?_;apply ae d9;have a3:=a7.U d6 zo zo;have b6:=a3.sl;apply zr 17 rfl d9 (λ_=>ai b6.sh Lj (Ls _) rfl rfl m rfl zo);apply Lo 18 zk rfl;apply N7 a3 m zo (Ai (bX (cD se g) (nth S q) S m).1 (cD se g (nth S q) (m:Nat))) (Ls _) rfl zo rfl rfl rfl rfl;intro w5 a2 b9;rw[F7 c' b1]at a2;have d2:=d3.U b9 hi zo zo zo;have f':w5.cell? (nA mb 0)=some (nP nb):=d2.blk.cell 0 rfl;refine zh ?_;apply ae f';have b':Lr (λj=>j=T\/i<=j/\j<=i+2) O w O4 w5:=((b4.J (b3.mono (λ_ h=>h.elim) zo)).J (d6.mono (λ_ h=>.inr h) zo)).J (b9.mono (λ_ h=>.inl h) zo);apply MJ zk;refine zh ?_;refine zxd (m+1,O4,w5,e0,d',l4) ⟨b1,b',f6.U b9,d2,a2,λs hs=>?_⟩
  ·have hs:s∈oP (bX (cD se g) (nth S q) S m).1 (cD se g (nth S q) (m:Nat)):=hs;unfold oP at hs
   split at hs
   ·exact a1 s hs
   rcases Lz.1 hs with hs|hs
   ·exact a1 s hs
   rw[L3.1 hs];exact⟨d1,zo⟩
 intro e9;obtain rfl:m=37:=dF e9;rw[N4,List.replicate_zero,M5]at a0
 have f4:=b4.lowT (S':=λq=>i<=q/\q<=i+2) hT (λb hb=>by
  rcases hb with hb|hb
  ·have:=hT b;omega
  exact hb) zo
 refine zh ?_;refine af rfl rfl ⟨lowT O2 T,a',a9,l2,f4,a8.lowT T,MkO.lowT b0 zo,a0.sl,λa n c e hn=>?_,a1⟩
 have hb:=a0.1.tag a.block (by subst e;rfl);refine⟨by unfold lowT;rw[hb,ap (Ll _)],(a8.rng a.block (by rw[hb];omega)).2⟩
abbrev fq(n:Nat):List ix:=[.int .u64 (n:Int)]
def RowsN(w:ka)(v:ix)(rows:List (List Nat)):Prop:=∃vs,Sl sn 1 w v vs/\vs.length=rows.length/\∀i,i<rows.length->Sl aL 1 w (nth vs i) (nth rows i)
def RowsN.ext{w w':ka}{v:ix}{rows:List (List Nat)}(h:RowsN w v rows)(e:Np w w'):RowsN w' v rows:=by
 obtain⟨vs,h1,h2,h3⟩:=h;exact⟨vs,h1.ext e,h2,λi hi=>(h3 i hi).ext e⟩
structure RwO(O:Nat->Nat)(w:ka)(i:Nat)(v:ix)(vs:List ix)(rows:List (List Nat)):Prop where
 row:My sn 22 1 O w i v vs
 len:vs.length=rows.length
 at_:∀k,k<rows.length->Sl aL 1 w (nth vs k) (nth rows k)/\Nm O w (nth vs k)
def RwO.U{S:Nat->Prop}{O O':Nat->Nat}{w w':ka}{i:Nat}{v:ix}{vs:List ix}{rows:List (List Nat)}(h:RwO O w i v vs rows)(u:Lr S O w O' w')(hi:i≠0)(hS:¬S i):RwO O' w' i v vs rows:=
 ⟨h.row.U u hi hS,h.len,λk hk=>⟨(h.at_ k hk).1.U (h.at_ k hk).2 u,(h.at_ k hk).2.U u⟩⟩
def RwO.drew{O:Nat->Nat}{w:ka}{i:Nat}{v:ix}{vs:List ix}{rows:List (List Nat)}(h:RwO O w i v vs rows):RwO O w.drew i v vs rows:=⟨h.row.drew,h.len,λk hk=>⟨(h.at_ k hk).1.drew,(h.at_ k hk).2.U (aa (S:=λ_=>False) (λh=>h) O (Lu w).drew)⟩⟩
def RwO.rows{O:Nat->Nat}{w:ka}{i:Nat}{v:ix}{vs:List ix}{rows:List (List Nat)}(h:RwO O w i v vs rows):RowsN w v rows:=⟨vs,h.row.sl,h.len,λk hk=>(h.at_ k hk).1⟩
def LV(w:ka)(v:ix):Option (List (List Nat)×List Nat)->Prop
 |some d=>∃nv tv,v=.tuple #[.agg #[nv,tv],nI 0]/\nv.oneCell'=true/\tv.oneCell'=true/\RowsN w nv d.1/\Sl fq 1 w tv d.2
 |none=>v=.tuple #[.agg #[nS,nS],nI 7]
set_option maxHeartbeats 1000000 in
def D4(nb:Nat)(se:Bool)(g:Gr)(w:ka)(hD:NfD w nb se g)(hw:WF g)(h0:0<g.ks.length)(ht:Tot g)(m0:g.ls.length<=999)(j0:∀q,g.en q<=40):
  NA Mw 51 [nP nb] w λv w'=>Np w w'/\LV w' v (D2 (cD se g) (df g)):=by
 have e4:∀s,df g s<2^40:=λs=>by
  have m8:∀(s:List Int) (b:Nat),b<2^40->s.foldl (λb p=>b ||| iU g p.toNat) b<2^40:=λs=>by
   induction s with
   |nil=>exact λb hb=>hb
   |cons p s ih=>exact λb hb=>ih _ (Nat.or_lt_two_pow hb (lD j0 _ 0 zd))
  exact m8 s 0 zd
 apply Ln func51 ntmps51 rfl rfl;refine zh ?_
 apply au (aw w) 7 zo (MM _) rfl;intro cb wa Oa k8 n6 o0 o9;refine zh ?_
 refine zvH (ib (q:=some ⟨nb,0,none⟩) underlying115 rfl rfl) ?_;refine zFH rfl rfl ?_
 apply bx Nc kvI o0 2 zd rfl;intro kr wb Ob n1 m2 n';apply zv (aH Dk (zeroValue182 _) rfl (by first|rfl|(simp only[MA,N1];rfl)) rfl rfl)
 apply aI n' 1 zo rfl rfl;intro mb wc Oc n0 l3 m3 o8;have k2:MkO Oc wc 1 mb nb kr nS [] [] []:=⟨n0,n1.U l3 zd zd,Mr _ _ _ _ _ _,rfl,λk hk=>absurd hk (ln k),λs hs=>absurd hs (by simp),λs _=>rfl⟩
 have l5:=((n6.mono (S':=λj=>1<=j) (λj h=>zo) zd).J (m2.mono (λj h=>zo) zd)).J (l3.mono (λj h=>zo) zd);refine zh ?_;apply zc call94 (Ff wc nb);rintro bv wd ⟨n4,o3,n5⟩;have k9:=n5 w.heap.size Oc m3;have j7:Lr (λ_=>False) Oc wc Oc wd:=aa (λh=>h) Oc o3;have i':inP g [0]:=λx hx=>by rw[L3.1 hx];exact⟨Pz _,Li _⟩
 apply zc call93 (oo w.heap.size Oc wd 1 mb nb kr _ _ _ _ [0] bv zd (m3.U j7) (k2.U j7 zd (λh=>h) (λh=>h) λh=>h) n4 k9 (Ik m0 i') zd zd);rintro _ we ⟨Oe,m7,m5,le,rfl,m1,n9,i9⟩;have n7:oP [] [0]=[[0]]:=rfl;rw[n7]at i9;have l1:Lr (λj=>1<=j) Oc wd Oe we:=m1.mono (λj h=>zo) zd;refine zh ?_
 apply au n9 4 zo (MM _) rfl;intro db wf Of k4 l0 n8 o7;have k7:=(((k8.U m2 zd zd).U l3 zd zd).U j7 zd λh=>h)
 have k6:=(k7.U m1 zd zd).U l0 zd zd;have l4:=((l5.J (j7.mono (λ_ h=>h.elim) zd)).J l1).J (l0.mono (λj h=>zo) zd);refine zh ?_;apply zlp (λz:Nat×(Nat->Nat)×World×ix×List ix×List (List Int)×List (ByteArray×Int)×List (List Nat)×List Nat×List ix×ix×ix=>[(0,nP nb),(2,nP cb),(3,nI 0),(4,nP mb),(5,nP db),(6,nI z.1)]) (λz=>z.2.2.1) (λz=>Lr (λj=>1<=j) (λ_=>0) w z.2.1 z.2.2.1/\Ng w.heap.size z.2.1 z.2.2.1/\MkO z.2.1 z.2.2.1 1 mb nb kr z.2.2.2.1 z.2.2.2.2.1 z.2.2.2.2.2.1 z.2.2.2.2.2.2.1/\MX z.2.1 z.2.2.1 4 db #[z.2.2.2.2.2.2.2.2.2.2.1,z.2.2.2.2.2.2.2.2.2.2.2] 78/\RwO z.2.1 z.2.2.1 5 z.2.2.2.2.2.2.2.2.2.2.1 z.2.2.2.2.2.2.2.2.2.1 z.2.2.2.2.2.2.2.1/\My fq 28 1 z.2.1 z.2.2.1 6 z.2.2.2.2.2.2.2.2.2.2.2 z.2.2.2.2.2.2.2.2.1/\MX z.2.1 z.2.2.1 7 cb #[nS,nS] 78/\DI (cD se g) (df g) z.1 z.2.2.2.2.2.1 z.2.2.2.2.2.2.2.1 z.2.2.2.2.2.2.2.2.1/\(∀s∈z.2.2.2.2.2.1,inP g s/\s.length<=1000)/\GQ (cD se g) (df g) (1002-z.1) z.1 z.2.2.2.2.2.1 z.2.2.2.2.2.2.2.1 z.2.2.2.2.2.2.2.2.1=D2 (cD se g) (df g)) (λz=>1002-z.1) (0,Of,wf,m7,m5,[[0]],le,[],[],[],nS,nS) ⟨l4,n8,i9.U l0 zd zd zd zd,k4,⟨Mr _ _ _ _ _ _,rfl,λk hk=>absurd hk (ln k)⟩,Mr _ _ _ _ _ _,k6,A1 _ _,λs hs=>by rw[L3.1 hs];exact⟨i',zd⟩,rfl⟩;rintro⟨q,O1,w1,mv,vs,S,l,rows,i7,i4,nv,tv⟩ ⟨b2,m4,e9,f4,d',e3,e0,i6,f7,c6⟩;dsimp only at b2 m4 e9 f4 d' e3 e0 i6 f7 c6 ⊢;have o6:=i6.le
 have o5:=i6.rl;have o4:=i6.tl;have j3:=i6.len;have m':=d'.len;have c2:w1.cell? (nA mb 2)=some mv:=e9.blk.cell 2 rfl;have i5:=e9.len;refine zh ?_;refine zvH (aM e9.row.sl.sh M6 rfl) ?_;refine zC ?_ ?_
 ·intro g0;replace g0:q<S.length:=dT g0;obtain⟨n,hn⟩:∃n,1002-q=n+1:=⟨1001-q,zo⟩
  rw[hn,GQ,ap g0]at c6;have e':=gR (cD se g) (nth S q) S 37;have j2:=i6.next g0;have j6:=(f7 _ (aJ g0)).1;have n3:w1.drew.cell? (nA db 0)=some nv:=f4.cell 0 rfl;have hmk1d:=e9.U (aa (S:=λ_=>False) (λh=>h) O1 (Lu w1).drew) zd (λh=>h) (λh=>h) λh=>h
  have h1:=D3 w.heap.size O1 w1.drew w 1 mb nb kr se g mv vs S l q zd m4.drew hmk1d hD b2.drew hw h0 ht m0 (λs hs=>(f7 s hs).1) (λs hs=>(f7 s hs).2) g0 j3;generalize bX (cD se g) (nth S q) S 37=RT at *;obtain⟨S1,r1⟩:=RT;dsimp only at c6 e' j2 h1;refine zh ?_;apply aN (λ_=>True) 9 rfl zk;refine zin trivial λzS=>?_
  apply zrf 0 rfl zS rfl;apply zrm 2 rfl zS rfl
  apply zrm 3 rfl zS rfl;refine NL 1 4 zk rfl rfl ?_ ?_
  ·refine zvH (RV.ld n3 rfl) ?_;apply ae trivial
   apply Lo 4 zk rfl;apply zc call95 h1
   rintro rv w2 ⟨O2,a7,b',l2,k',l8,h6,e6,e8,f3⟩;have g9:=e6.shape;obtain⟨ra,rc,rfl,_⟩:=g9;have b6:Lr (λj=>1<=j/\j<=3) O1 w1.drew O2 w2:=k';have g8:=d'.drew.U b6 zd zd;have f8:=f4.drew.U b6 zd zd;have h9:=e0.drew.U b6 zd zd;have g6:=e3.drew.U b6 zd zd;have h':Lr (λj=>1<=j/\j<=3) O1 w1 O2 w2:=(aa zd O1 (Lu w1).drew).J b6;refine zh ?_;apply ae trivial;apply Lo 5 zk rfl;apply cA AJ (enc:=sn) (.slice ra r1.length rc:ix) rfl rfl rfl zd rfl;intro m6 w3 g7 l9;have c7:Lr (λ_=>False) O2 w2 O2 w3:=aa (λh=>h) O2 l9;have i0:Lr (λq=>1<=q) O1 w1 O2 w3:=(h'.mono (λj h=>zo) zd).J (c7.mono (λ_ h=>h.elim) zd);have l7:=l8.U c7;have d2:=g8.U c7 zd λh=>h
   have h7:=f8.U c7 zd λh=>h
   have h8:=h9.U c7 zd λh=>h
   have g5:=g6.U c7 zd λh=>h
   have h5:=h6.U c7 zd (λh=>h) (λh=>h) λh=>h
   have g':=e6.U e8 c7;have d3:=e8.U c7;refine zh ?_;apply ae trivial;apply Lo 6 zk rfl;apply aC AJ d2.row l7 g7 (by simp) rfl rfl (by simp) (λu hu c hc=>by rw[L3.1 hu]at hc;rw[L3.1 hc];rfl) (by simp;omega) (by simp;omega) zd rfl;intro b3 w4 O4 c8 b8 l6;have d8:=h7.U b8 zd zd;refine zh ?_;apply ae trivial;apply zrf 7 rfl trivial rfl;apply Lo 8 zk rfl;apply aj (j:=0) d8 rfl (Pe _) c8.one rfl rfl rfl;have c5:Lr (λj=>j=4) O4 w4 O4 (w4.setCell ⟨db,0,none⟩ b3):=MV zd d8.tag rfl;have d7:MX O4 (w4.setCell ⟨db,0,none⟩ b3) 4 db #[b3,tv] 78:=d8.set 0 b3;refine zh ?_;apply ae trivial;have j1:=l6.U c5;have e7:=c8.U c5 zd zd;have a8:=(h5.U b8 zd zd zd zd).U c5 zd zd zd zd;have e2:=(g5.U b8 zd zd).U c5 zd zd;have f5:=(h8.U b8 zd zd).U c5 zd zd;have e5:RwO O4 (w4.setCell ⟨db,0,none⟩ b3) 5 b3 (i4++[.slice ra r1.length rc]) (rows++[r1]):=by
    have i5:=d2.len;refine⟨e7,by simp[i5],λk hk=>?_⟩;rw[az,az,i5]
    by_cases e:k<rows.length
    ·rw[ap e,ap e];obtain⟨a1,a2⟩:=d2.at_ k e;exact⟨(a1.U a2 b8).U (a2.U b8) c5,(a2.U b8).U c5⟩
    rw[am e,am e];simp only[M9,MB,NH]at hk;rw[show k-rows.length=0 from by omega,ao,ao];exact⟨(g'.U d3 b8).U (d3.U b8) c5,(d3.U b8).U c5⟩
   have d9:Lr (λq=>1<=q) O1 w1 O4 (w4.setCell ⟨db,0,none⟩ b3):=(i0.J (b8.mono (λj h=>zo) zd)).J (c5.mono (λj h=>zo) zd);generalize w4.setCell ⟨db,0,none⟩ b3=w5 at *;apply MJ zk;refine zh ?_;have g4:=a8.len;have i8:q<b'.length:=by obtain⟨pq,h3⟩:=e'.pre;rw[g4,h3];simp;omega
   have h2:q<S1.length:=zo;have h4:nth S1 q=nth S q:=by obtain⟨pq,h3⟩:=e'.pre;rw[h3,az,ap g0]
   have b0:w5.drew.cell? (nA mb 2)=some a7/\w5.drew.cell? (adr a7 1 q)=some (nth b' q):=⟨a8.blk.cell 2 rfl,by have:=a8.row.sl.cell (i:=q) (j:=0) i8 rfl;rwa[ar]at this⟩
   have sd:∀W,Np w5.drew W->W.cell? (nA mb 2)=some a7/\W.cell? (adr a7 1 q)=some (nth b' q):=λW hE=>⟨hE.cell b0.1,hE.cell b0.2⟩
   have j5:w5.drew.cell? (nA db 1)=some tv:=d7.cell 1 rfl;have j4:=hD.ext (b2.J d9).drew.ext;obtain⟨d0,k0⟩:=a8.at_ q h2;rw[h4]at d0;have m9:=e4 (nth S q);apply aN (λW=>W.cell? (nA mb 2)=some a7/\W.cell? (adr a7 1 q)=some (nth b' q)) 15 rfl zk;apply zrf 0 rfl b0 rfl;apply zrm 2 rfl b0 rfl;apply zrm 3 rfl b0 rfl;apply zr 4 rfl b0 (λ_=>ak rfl);apply zrf 5 rfl b0 rfl;apply zt 6 rfl b0 (λw1 g1=>RV.ld g1.1 rfl);apply zrm 7 rfl b0 rfl;apply zr 8 rfl b0 (λ_=>ai a8.row.sl.sh M6 (NI _) rfl rfl q rfl i8);apply zt 9 rfl b0 (λw1 g1=>RV.ld g1.2 rfl);refine NL 1 10 zk rfl rfl ?_ ?_
   ·refine zvH (RV.ld j5 rfl) ?_;apply ae b0
    apply Lo 10 zk rfl;apply zc PA (lB w5.drew nb se g (nth S q) _ j4 d0.drew j6 j0)
    rintro j8 w9 ⟨rfl,e1⟩;rw[e1];clear e1 w9;refine zh ?_;apply ae b0;apply Lo 11 zk rfl;apply cA iP (enc:=fq) (df g (nth S q)) rfl rfl rfl zd rfl;intro j9 w6 c' f';refine zh ?_;apply ae (sd _ f');have a':Lr (λ_=>False) O4 w5 O4 w6:=aa (λh=>h) O4 ((Lu w5).drew.J f');have c9:=e2.U a' zd λh=>h
    have d6:=d7.U a' zd λh=>h
    have d4:=a8.U a' zd (λh=>h) (λh=>h) λh=>h
    have i3:=j1.U a';apply Lo 12 zk rfl;apply aC iP c9 i3 c' (by simp) rfl rfl (by simp) (by simp[Lk]) (by simp;omega) (by simp;omega) zd rfl;intro a3 w7 O7 a6 b7 i2;have a9:=d6.U b7 zd zd;have a4:=d4.U b7 zd zd zd zd;have g3:=a4.len;have s7:w7.cell? (nA mb 2)=some a7/\w7.cell? (adr a7 1 q)=some (nth b' q):=⟨a4.blk.cell 2 rfl,by have:=a4.row.sl.cell (i:=q) (j:=0) zo rfl;rwa[ar]at this⟩
    refine zh ?_;apply ae s7
    apply zrf 13 rfl s7 rfl;apply Lo 14 zk rfl
    apply aj (j:=1) a9 rfl (NN _) a6.one rfl rfl rfl;have b1:Lr (λj=>j=4) O7 w7 O7 (w7.setCell ⟨db,1,none⟩ a3):=MV zd a9.tag rfl;have d5:MX O7 (w7.setCell ⟨db,1,none⟩ a3) 4 db #[b3,a3] 78:=a9.set 1 a3;have a0:=a4.U b1 zd zd zd zd;have g2:=a0.len;have s8:(w7.setCell ⟨db,1,none⟩ a3).cell? (nA mb 2)=some a7/\(w7.setCell ⟨db,1,none⟩ a3).cell? (adr a7 1 q)=some (nth b' q):=⟨a0.blk.cell 2 rfl,by have:=a0.row.sl.cell (i:=q) (j:=0) zo rfl;rwa[ar]at this⟩
    refine zh ?_;apply ae s8
    have b4:=a6.U b1 zd zd;have i1:=i2.U b1;have d1:=((e5.U a' zd λh=>h).U b7 zd zd).U b1 zd zd;have a5:=((f5.U a' zd λh=>h).U b7 zd zd).U b1 zd zd;have b9:Lr (λq=>1<=q) O1 w1 O7 (w7.setCell ⟨db,1,none⟩ a3):=((d9.J (a'.mono (λ_ h=>h.elim) zd)).J (b7.mono (λj h=>zo) zd)).J (b1.mono (λj h=>zo) zd);generalize w7.setCell ⟨db,1,none⟩ a3=w8 at *;have l':=s8.1;apply MJ zk;refine zh ?_;refine zvH (aM a0.row.sl.sh M6 rfl) ?_
    by_cases b5:1000<S1.length
    ·rw[ap b5]at c6;rw[<-c6];refine zTH rfl ((decide_eq_true zo)) ?_;apply zv (aH B2 (MM _) rfl (by first|rfl|(simp only[MA,N1];rfl)) rfl rfl);apply zsa (us:=#[nS,nS]) a5 (M7 _);have f9:=a5.setRow (us:=#[nS,nS]);have f6:Lr (λj=>j=7) O7 w8 O7 (w8.setRow cb #[nS,nS]):=LU zd a5.tag rfl;refine zh ?_;refine bz rfl rfl rfl f9.V (MU _) (M7 _) ⟨((b2.J b9).J (f6.mono (λj h=>zo) zd)).ext,rfl⟩
    rw[am b5]at c6;refine zFH rfl ((decide_eq_false zo)) ?_;refine zxd (q+1,O7,w8,a7,b',S1,l2,rows++[r1],i7++[df g (nth S q)],i4++[.slice ra r1.length rc],b3,a3) ⟨b2.J b9,i1,a0,d5,d1,b4,a5,j2 zo,f3,by dsimp only;rw[show 1002-(q+1)=n from by omega];exact c6⟩
   apply zc PA (lB w5.drew nb se g (nth S q) _ j4 d0.drew j6 j0);rintro j8 w9 ⟨rfl,e1⟩;rw[e1];clear e1 w9;refine zh ?_
   apply ae b0;apply bU 1 11 iP (enc:=fq) (df g (nth S q)) rfl rfl zk zk zk zk (λW hE=>NS (hE.cell j5) (PK _) rfl) sd rfl rfl rfl zd rfl rfl rfl rfl rfl
   intro j9 w6 c' f';have a':Lr (λ_=>False) O4 w5 O4 w6:=aa (λh=>h) O4 ((Lu w5).drew.J f');have c9:=e2.U a' zd λh=>h
   have d6:=d7.U a' zd λh=>h
   have d4:=a8.U a' zd (λh=>h) (λh=>h) λh=>h
   have i3:=j1.U a';apply Lo 12 zk rfl;apply aC iP c9 i3 c' (by simp) rfl rfl (by simp) (by simp[Lk]) (by simp;omega) (by simp;omega) zd rfl;intro a3 w7 O7 a6 b7 i2;have a9:=d6.U b7 zd zd;have a4:=d4.U b7 zd zd zd zd;have g3:=a4.len;have s7:w7.cell? (nA mb 2)=some a7/\w7.cell? (adr a7 1 q)=some (nth b' q):=⟨a4.blk.cell 2 rfl,by have:=a4.row.sl.cell (i:=q) (j:=0) zo rfl;rwa[ar]at this⟩
   refine zh ?_;apply ae s7
   apply zrf 13 rfl s7 rfl;apply Lo 14 zk rfl
   apply aj (j:=1) a9 rfl (NN _) a6.one rfl rfl rfl;have b1:Lr (λj=>j=4) O7 w7 O7 (w7.setCell ⟨db,1,none⟩ a3):=MV zd a9.tag rfl;have d5:MX O7 (w7.setCell ⟨db,1,none⟩ a3) 4 db #[b3,a3] 78:=a9.set 1 a3;have a0:=a4.U b1 zd zd zd zd;have g2:=a0.len;have s8:(w7.setCell ⟨db,1,none⟩ a3).cell? (nA mb 2)=some a7/\(w7.setCell ⟨db,1,none⟩ a3).cell? (adr a7 1 q)=some (nth b' q):=⟨a0.blk.cell 2 rfl,by have:=a0.row.sl.cell (i:=q) (j:=0) zo rfl;rwa[ar]at this⟩
   refine zh ?_;apply ae s8
   have b4:=a6.U b1 zd zd;have i1:=i2.U b1;have d1:=((e5.U a' zd λh=>h).U b7 zd zd).U b1 zd zd;have a5:=((f5.U a' zd λh=>h).U b7 zd zd).U b1 zd zd;have b9:Lr (λq=>1<=q) O1 w1 O7 (w7.setCell ⟨db,1,none⟩ a3):=((d9.J (a'.mono (λ_ h=>h.elim) zd)).J (b7.mono (λj h=>zo) zd)).J (b1.mono (λj h=>zo) zd);generalize w7.setCell ⟨db,1,none⟩ a3=w8 at *;have l':=s8.1;apply MJ zk;refine zh ?_;refine zvH (aM a0.row.sl.sh M6 rfl) ?_
   by_cases b5:1000<S1.length
   ·rw[ap b5]at c6;rw[<-c6];refine zTH rfl ((decide_eq_true zo)) ?_;apply zv (aH B2 (MM _) rfl (by first|rfl|(simp only[MA,N1];rfl)) rfl rfl);apply zsa (us:=#[nS,nS]) a5 (M7 _);have f9:=a5.setRow (us:=#[nS,nS]);have f6:Lr (λj=>j=7) O7 w8 O7 (w8.setRow cb #[nS,nS]):=LU zd a5.tag rfl;refine zh ?_;refine bz rfl rfl rfl f9.V (MU _) (M7 _) ⟨((b2.J b9).J (f6.mono (λj h=>zo) zd)).ext,rfl⟩
   rw[am b5]at c6;refine zFH rfl ((decide_eq_false zo)) ?_;refine zxd (q+1,O7,w8,a7,b',S1,l2,rows++[r1],i7++[df g (nth S q)],i4++[.slice ra r1.length rc],b3,a3) ⟨b2.J b9,i1,a0,d5,d1,b4,a5,j2 zo,f3,by dsimp only;rw[show 1002-(q+1)=n from by omega];exact c6⟩
  apply zc call95 h1;rintro rv w2 ⟨O2,a7,b',l2,k',l8,h6,e6,e8,f3⟩;have g9:=e6.shape;obtain⟨ra,rc,rfl,_⟩:=g9;have b6:Lr (λj=>1<=j/\j<=3) O1 w1.drew O2 w2:=k';have g8:=d'.drew.U b6 zd zd;have f8:=f4.drew.U b6 zd zd;have h9:=e0.drew.U b6 zd zd;have g6:=e3.drew.U b6 zd zd;have h':Lr (λj=>1<=j/\j<=3) O1 w1 O2 w2:=(aa zd O1 (Lu w1).drew).J b6;refine zh ?_
  apply ae trivial;have k5:w2.cell? (nA db 0)=some nv:=f8.cell 0 rfl;apply bU 1 5 AJ (enc:=sn) (.slice ra r1.length rc:ix) rfl rfl zk zk zk zk (λW hE=>NS (hE.cell k5) (isAgg50 _) rfl) (λ_ _=>trivial) rfl rfl rfl zd rfl rfl rfl rfl rfl
  intro m6 w3 g7 l9;have c7:Lr (λ_=>False) O2 w2 O2 w3:=aa (λh=>h) O2 l9;have i0:Lr (λq=>1<=q) O1 w1 O2 w3:=(h'.mono (λj h=>zo) zd).J (c7.mono (λ_ h=>h.elim) zd);have l7:=l8.U c7;have d2:=g8.U c7 zd λh=>h
  have h7:=f8.U c7 zd λh=>h
  have h8:=h9.U c7 zd λh=>h
  have g5:=g6.U c7 zd λh=>h
  have h5:=h6.U c7 zd (λh=>h) (λh=>h) λh=>h
  have g':=e6.U e8 c7;have d3:=e8.U c7;apply Lo 6 zk rfl;apply aC AJ d2.row l7 g7 (by simp) rfl rfl (by simp) (λu hu c hc=>by rw[L3.1 hu]at hc;rw[L3.1 hc];rfl) (by simp;omega) (by simp;omega) zd rfl;intro b3 w4 O4 c8 b8 l6;have d8:=h7.U b8 zd zd;refine zh ?_;apply ae trivial;apply zrf 7 rfl trivial rfl;apply Lo 8 zk rfl;apply aj (j:=0) d8 rfl (Pe _) c8.one rfl rfl rfl;have c5:Lr (λj=>j=4) O4 w4 O4 (w4.setCell ⟨db,0,none⟩ b3):=MV zd d8.tag rfl;have d7:MX O4 (w4.setCell ⟨db,0,none⟩ b3) 4 db #[b3,tv] 78:=d8.set 0 b3;refine zh ?_;apply ae trivial;have j1:=l6.U c5;have e7:=c8.U c5 zd zd;have a8:=(h5.U b8 zd zd zd zd).U c5 zd zd zd zd;have e2:=(g5.U b8 zd zd).U c5 zd zd;have f5:=(h8.U b8 zd zd).U c5 zd zd;have e5:RwO O4 (w4.setCell ⟨db,0,none⟩ b3) 5 b3 (i4++[.slice ra r1.length rc]) (rows++[r1]):=by
   have i5:=d2.len;refine⟨e7,by simp[i5],λk hk=>?_⟩;rw[az,az,i5]
   by_cases e:k<rows.length
   ·rw[ap e,ap e];obtain⟨a1,a2⟩:=d2.at_ k e;exact⟨(a1.U a2 b8).U (a2.U b8) c5,(a2.U b8).U c5⟩
   rw[am e,am e];simp only[M9,MB,NH]at hk;rw[show k-rows.length=0 from by omega,ao,ao];exact⟨(g'.U d3 b8).U (d3.U b8) c5,(d3.U b8).U c5⟩
  have d9:Lr (λq=>1<=q) O1 w1 O4 (w4.setCell ⟨db,0,none⟩ b3):=(i0.J (b8.mono (λj h=>zo) zd)).J (c5.mono (λj h=>zo) zd);generalize w4.setCell ⟨db,0,none⟩ b3=w5 at *;apply MJ zk;refine zh ?_;have g4:=a8.len;have i8:q<b'.length:=by obtain⟨pq,h3⟩:=e'.pre;rw[g4,h3];simp;omega
  have h2:q<S1.length:=zo;have h4:nth S1 q=nth S q:=by obtain⟨pq,h3⟩:=e'.pre;rw[h3,az,ap g0]
  have b0:w5.drew.cell? (nA mb 2)=some a7/\w5.drew.cell? (adr a7 1 q)=some (nth b' q):=⟨a8.blk.cell 2 rfl,by have:=a8.row.sl.cell (i:=q) (j:=0) i8 rfl;rwa[ar]at this⟩
  have sd:∀W,Np w5.drew W->W.cell? (nA mb 2)=some a7/\W.cell? (adr a7 1 q)=some (nth b' q):=λW hE=>⟨hE.cell b0.1,hE.cell b0.2⟩
  have j5:w5.drew.cell? (nA db 1)=some tv:=d7.cell 1 rfl;have j4:=hD.ext (b2.J d9).drew.ext;obtain⟨d0,k0⟩:=a8.at_ q h2;rw[h4]at d0;have m9:=e4 (nth S q);apply aN (λW=>W.cell? (nA mb 2)=some a7/\W.cell? (adr a7 1 q)=some (nth b' q)) 15 rfl zk;apply zrf 0 rfl b0 rfl;apply zrm 2 rfl b0 rfl;apply zrm 3 rfl b0 rfl;apply zr 4 rfl b0 (λ_=>ak rfl);apply zrf 5 rfl b0 rfl;apply zt 6 rfl b0 (λw1 g1=>RV.ld g1.1 rfl);apply zrm 7 rfl b0 rfl;apply zr 8 rfl b0 (λ_=>ai a8.row.sl.sh M6 (NI _) rfl rfl q rfl i8);apply zt 9 rfl b0 (λw1 g1=>RV.ld g1.2 rfl);refine NL 1 10 zk rfl rfl ?_ ?_
  ·refine zvH (RV.ld j5 rfl) ?_;apply ae b0
   apply Lo 10 zk rfl;apply zc PA (lB w5.drew nb se g (nth S q) _ j4 d0.drew j6 j0)
   rintro j8 w9 ⟨rfl,e1⟩;rw[e1];clear e1 w9;refine zh ?_;apply ae b0;apply Lo 11 zk rfl;apply cA iP (enc:=fq) (df g (nth S q)) rfl rfl rfl zd rfl;intro j9 w6 c' f';refine zh ?_;apply ae (sd _ f');have a':Lr (λ_=>False) O4 w5 O4 w6:=aa (λh=>h) O4 ((Lu w5).drew.J f');have c9:=e2.U a' zd λh=>h
   have d6:=d7.U a' zd λh=>h
   have d4:=a8.U a' zd (λh=>h) (λh=>h) λh=>h
   have i3:=j1.U a';apply Lo 12 zk rfl;apply aC iP c9 i3 c' (by simp) rfl rfl (by simp) (by simp[Lk]) (by simp;omega) (by simp;omega) zd rfl;intro a3 w7 O7 a6 b7 i2;have a9:=d6.U b7 zd zd;have a4:=d4.U b7 zd zd zd zd;have g3:=a4.len;have s7:w7.cell? (nA mb 2)=some a7/\w7.cell? (adr a7 1 q)=some (nth b' q):=⟨a4.blk.cell 2 rfl,by have:=a4.row.sl.cell (i:=q) (j:=0) zo rfl;rwa[ar]at this⟩
   refine zh ?_;apply ae s7
   apply zrf 13 rfl s7 rfl;apply Lo 14 zk rfl
   apply aj (j:=1) a9 rfl (NN _) a6.one rfl rfl rfl;have b1:Lr (λj=>j=4) O7 w7 O7 (w7.setCell ⟨db,1,none⟩ a3):=MV zd a9.tag rfl;have d5:MX O7 (w7.setCell ⟨db,1,none⟩ a3) 4 db #[b3,a3] 78:=a9.set 1 a3;have a0:=a4.U b1 zd zd zd zd;have g2:=a0.len;have s8:(w7.setCell ⟨db,1,none⟩ a3).cell? (nA mb 2)=some a7/\(w7.setCell ⟨db,1,none⟩ a3).cell? (adr a7 1 q)=some (nth b' q):=⟨a0.blk.cell 2 rfl,by have:=a0.row.sl.cell (i:=q) (j:=0) zo rfl;rwa[ar]at this⟩
   refine zh ?_;apply ae s8
   have b4:=a6.U b1 zd zd;have i1:=i2.U b1;have d1:=((e5.U a' zd λh=>h).U b7 zd zd).U b1 zd zd;have a5:=((f5.U a' zd λh=>h).U b7 zd zd).U b1 zd zd;have b9:Lr (λq=>1<=q) O1 w1 O7 (w7.setCell ⟨db,1,none⟩ a3):=((d9.J (a'.mono (λ_ h=>h.elim) zd)).J (b7.mono (λj h=>zo) zd)).J (b1.mono (λj h=>zo) zd);generalize w7.setCell ⟨db,1,none⟩ a3=w8 at *;have l':=s8.1;apply MJ zk;refine zh ?_;refine zvH (aM a0.row.sl.sh M6 rfl) ?_
   by_cases b5:1000<S1.length
   ·rw[ap b5]at c6;rw[<-c6];refine zTH rfl ((decide_eq_true zo)) ?_;apply zv (aH B2 (MM _) rfl (by first|rfl|(simp only[MA,N1];rfl)) rfl rfl);apply zsa (us:=#[nS,nS]) a5 (M7 _);have f9:=a5.setRow (us:=#[nS,nS]);have f6:Lr (λj=>j=7) O7 w8 O7 (w8.setRow cb #[nS,nS]):=LU zd a5.tag rfl;refine zh ?_;refine bz rfl rfl rfl f9.V (MU _) (M7 _) ⟨((b2.J b9).J (f6.mono (λj h=>zo) zd)).ext,rfl⟩
   rw[am b5]at c6;refine zFH rfl ((decide_eq_false zo)) ?_;refine zxd (q+1,O7,w8,a7,b',S1,l2,rows++[r1],i7++[df g (nth S q)],i4++[.slice ra r1.length rc],b3,a3) ⟨b2.J b9,i1,a0,d5,d1,b4,a5,j2 zo,f3,by dsimp only;rw[show 1002-(q+1)=n from by omega];exact c6⟩
  apply zc PA (lB w5.drew nb se g (nth S q) _ j4 d0.drew j6 j0);rintro j8 w9 ⟨rfl,e1⟩;rw[e1];clear e1 w9;refine zh ?_
  apply ae b0;apply bU 1 11 iP (enc:=fq) (df g (nth S q)) rfl rfl zk zk zk zk (λW hE=>NS (hE.cell j5) (PK _) rfl) sd rfl rfl rfl zd rfl rfl rfl rfl rfl
  intro j9 w6 c' f';have a':Lr (λ_=>False) O4 w5 O4 w6:=aa (λh=>h) O4 ((Lu w5).drew.J f');have c9:=e2.U a' zd λh=>h
  have d6:=d7.U a' zd λh=>h
  have d4:=a8.U a' zd (λh=>h) (λh=>h) λh=>h
  have i3:=j1.U a';apply Lo 12 zk rfl;apply aC iP c9 i3 c' (by simp) rfl rfl (by simp) (by simp[Lk]) (by simp;omega) (by simp;omega) zd rfl;intro a3 w7 O7 a6 b7 i2;have a9:=d6.U b7 zd zd;have a4:=d4.U b7 zd zd zd zd;have g3:=a4.len;have s7:w7.cell? (nA mb 2)=some a7/\w7.cell? (adr a7 1 q)=some (nth b' q):=⟨a4.blk.cell 2 rfl,by have:=a4.row.sl.cell (i:=q) (j:=0) zo rfl;rwa[ar]at this⟩
  refine zh ?_;apply ae s7
  apply zrf 13 rfl s7 rfl;apply Lo 14 zk rfl
  apply aj (j:=1) a9 rfl (NN _) a6.one rfl rfl rfl;have b1:Lr (λj=>j=4) O7 w7 O7 (w7.setCell ⟨db,1,none⟩ a3):=MV zd a9.tag rfl;have d5:MX O7 (w7.setCell ⟨db,1,none⟩ a3) 4 db #[b3,a3] 78:=a9.set 1 a3;have a0:=a4.U b1 zd zd zd zd;have g2:=a0.len;have s8:(w7.setCell ⟨db,1,none⟩ a3).cell? (nA mb 2)=some a7/\(w7.setCell ⟨db,1,none⟩ a3).cell? (adr a7 1 q)=some (nth b' q):=⟨a0.blk.cell 2 rfl,by have:=a0.row.sl.cell (i:=q) (j:=0) zo rfl;rwa[ar]at this⟩
  refine zh ?_;apply ae s8
  have b4:=a6.U b1 zd zd;have i1:=i2.U b1;have d1:=((e5.U a' zd λh=>h).U b7 zd zd).U b1 zd zd;have a5:=((f5.U a' zd λh=>h).U b7 zd zd).U b1 zd zd;have b9:Lr (λq=>1<=q) O1 w1 O7 (w7.setCell ⟨db,1,none⟩ a3):=((d9.J (a'.mono (λ_ h=>h.elim) zd)).J (b7.mono (λj h=>zo) zd)).J (b1.mono (λj h=>zo) zd);generalize w7.setCell ⟨db,1,none⟩ a3=w8 at *;have l':=s8.1;apply MJ zk;refine zh ?_;refine zvH (aM a0.row.sl.sh M6 rfl) ?_
  by_cases b5:1000<S1.length
  ·rw[ap b5]at c6;rw[<-c6];refine zTH rfl ((decide_eq_true zo)) ?_;apply zv (aH B2 (MM _) rfl (by first|rfl|(simp only[MA,N1];rfl)) rfl rfl);apply zsa (us:=#[nS,nS]) a5 (M7 _);have f9:=a5.setRow (us:=#[nS,nS]);have f6:Lr (λj=>j=7) O7 w8 O7 (w8.setRow cb #[nS,nS]):=LU zd a5.tag rfl;refine zh ?_;refine bz rfl rfl rfl f9.V (MU _) (M7 _) ⟨((b2.J b9).J (f6.mono (λj h=>zo) zd)).ext,rfl⟩
  rw[am b5]at c6;refine zFH rfl ((decide_eq_false zo)) ?_;refine zxd (q+1,O7,w8,a7,b',S1,l2,rows++[r1],i7++[df g (nth S q)],i4++[.slice ra r1.length rc],b3,a3) ⟨b2.J b9,i1,a0,d5,d1,b4,a5,j2 zo,f3,by dsimp only;rw[show 1002-(q+1)=n from by omega];exact c6⟩
 intro n2;obtain rfl:q=S.length:=dF n2;have k3:D2 (cD se g) (df g)=some (rows,i7):=by
  rw[<-c6];obtain⟨n,hn⟩:∃n,1002-S.length=n+1:=⟨1001-S.length,zo⟩
  rw[hn,GQ,am zo]
 rw[k3];have o1:=d'.row.one;have o2:=e3.one;refine zh ?_;apply zv (ah (us:=[nv,tv]) f4.V (MU _) (M7 _) rfl);apply zsb (us:=#[nv,tv]) e0 (M7 _) (by simp only[MA,o1,o2];rfl);have f9:=e0.setRow (us:=#[nv,tv]);have f6:Lr (λj=>j=7) O1 w1 O1 (w1.setRow cb #[nv,tv]):=LU zd e0.tag rfl;have k1:=d'.U f6 zd zd;have j':=e3.U f6 zd zd;refine zh ?_;refine bz rfl rfl rfl f9.V (MU _) (M7 _) ⟨(b2.J (f6.mono (λj h=>zo) zd)).ext,nv,tv,rfl,o1,o2,k1.rows,j'.sl⟩
def Dd(l:List Nat):Nat:=l.foldl max 0
def Dc(l:List Nat)(x:Nat):Dd (l++[x])=max (Dd l) x:=by unfold Dd;rw[P8];rfl
def Jm(h0:0<n):∀(l:List Nat),(∀x∈l,x<n)->Dd l<n:=by
 have a0:∀(l:List Nat) (a:Nat),a<n->(∀x∈l,x<n)->l.foldl max a<n:=λl=>by
  induction l with
  |nil=>exact λa ha _=>ha
  |cons x l ih=>exact λa ha h=>ih _ (by have:=h x (by simp);exact Nat.max_lt.2 ⟨ha,this⟩) λy hy=>h y (by simp[hy])
 exact λl h=>a0 l 0 h0 h
def Gm(l:List Nat)(sv:ix)(w:ka)(h:Sl aL 1 w sv l)(a1:0<l.length):NA Mw 68 [sv] w λv w'=>v=nI ((Dd l:Nat):Int)/\w'=w:=by
 have hl:=h.len_le;have m0:w.cell? (adr sv 1 0)=some (nI ((nth l 0:Nat):Int)):=by have:=h.cell (j:=0) a1 rfl;rwa[ar]at this
 have e1:nth l 0=Dd (l.take 1):=by
  have h1:=aG a1;rw[h1];simp[Dd]
 apply Ln func68 ntmps68 rfl rfl;refine zh ?_
 refine zFH rfl ((decide_eq_false zo)) ?_;rw[e1];refine zh ?_
 apply zlp (λz:Nat=>[(0,sv),(3,nI ((Dd (l.take z):Nat):Int)),(4,nI z)]) (λz=>w) (λz=>1<=z/\z<=l.length) (λz=>l.length-z) 1 ⟨Ll _,a1⟩;rintro q ⟨a3,hq⟩;refine zh ?_
 refine zC ?_ ?_
 ·intro a0;replace a0:q<l.length:=dT a0;have m1:w.cell? (adr sv 1 q)=some (nI ((nth l q:Nat):Int)):=by have:=h.cell (j:=0) a0 rfl;rwa[ar]at this
  refine zh ?_;refine zvH (fY rfl rfl) ?_
  rw[show max ((Dd (l.take q):Nat):Int) ((nth l q:Nat):Int)=((Dd (l.take (q+1)):Nat):Int)from by rw[aG a0,Dc];omega];refine zxd (q+1) ⟨zo,a0⟩
 intro a2;obtain rfl:q=l.length:=dF a2;rw[M8];refine zh ?_;refine af rfl rfl ⟨rfl,rfl⟩
def Gi(l:List Nat)(sv:ix)(w:ka)(h:Sl aL 1 w sv l)(a1:0<l.length):NA Mw 99 [sv] w λv w'=>(∃k:Nat,v=nI (k:Int))/\w'=w:=by
 have hl:=h.len_le;have m0:w.cell? (adr sv 1 0)=some (nI ((nth l 0:Nat):Int)):=by have:=h.cell (j:=0) a1 rfl;rwa[ar]at this
 apply Ln func99 ntmps99 rfl rfl;refine zh ?_
 refine zFH rfl ((decide_eq_false zo)) ?_;apply zlp (λz:Nat×Nat=>[(0,sv),(3,nI ((z.2:Nat):Int)),(4,nI z.1)]) (λz=>w) (λz=>1<=z.1/\z.1<=l.length) (λz=>l.length-z.1) (1,nth l 0) ⟨Ll _,a1⟩
 rintro⟨q,k⟩ ⟨a2,hq⟩;dsimp only at a2 hq ⊢;refine zh ?_;refine zC ?_ ?_
 ·intro a0;replace a0:q<l.length:=dT a0;have m1:w.cell? (adr sv 1 q)=some (nI ((nth l q:Nat):Int)):=by have:=h.cell (j:=0) a0 rfl;rwa[ar]at this
  refine zh ?_;refine zvH (JQ rfl rfl) ?_
  rw[show min ((k:Nat):Int) ((nth l q:Nat):Int)=((min k (nth l q):Nat):Int)from by omega];refine zxd (q+1,min k (nth l q)) ⟨by dsimp only;omega,a0⟩
 intro a3;refine zh ?_;refine af rfl rfl ⟨⟨k,rfl⟩,rfl⟩
structure RightD(rows:List (List Nat))(tls:List Nat):Prop where
 pos:0<rows.length
 le:rows.length<=1000
 tl:tls.length=rows.length
 row:∀j,j<rows.length->(nth rows j).length=37/\∀m,m<37->nth (nth rows j) m<rows.length
def DI.right{step:List Int->Int->List Int}{a0:List Int->Nat}{S:List (List Int)}{rows:List (List Nat)}{a1:List Nat}(h:DI step a0 S.length S rows a1):RightD rows a1:=by
 have h1:=h.rl;have h2:=h.p0;have h3:=h.len;exact⟨zo,zo,by rw[h.tl,h1],λj hj=>⟨(h.row j zo).1,λm hm=>by have:=((h.row j zo).2 m hm).1;omega⟩⟩
def kY(nv tv:ix)(rows:List (List Nat))(a5:List Nat)(w:ka)(hn:RowsN w nv rows)(b0:Sl fq 1 w tv a5)(hr:RightD rows a5):NA Mw 56 [.agg #[nv,tv]] w λv w'=>v=.bool true/\Np w w':=by
 obtain⟨vs,a7,b1,a8⟩:=hn;have a4:=hr.pos;have b3:=hr.le;have a9:=hr.tl;apply Ln func56 ntmps56 rfl rfl;refine zh ?_;apply aI (aw w) 1 zo rfl rfl;intro db w1 O1 a6 b5 b6 a2;have c0:w1.cell? (nA db 0)=some nv:=a6.cell 0 rfl;have c1:w1.cell? (nA db 1)=some tv:=a6.cell 1 rfl;have a3:=a7.ext a2;have a':=b0.ext a2;refine zh ?_;apply ax (d:=11) rfl (b':=false) ((by rw[beq_eq_false_iff_ne];omega));refine zh ?_;apply ax (d:=15) rfl (b':=false) ((decide_eq_false zo));refine zh ?_;refine zFH rfl ((by rw[bne_eq_false_iff_eq];omega)) ?_;apply zlp (λz:Nat×ka=>[(3,nI vs.length),(23,nv),(24,nI vs.length),(25,nI z.1)]) (λz=>z.2) (λz=>z.1<=vs.length/\z.2=w1) (λz=>vs.length-z.1) (0,w1) ⟨Li _,rfl⟩;rintro⟨q,w2⟩ ⟨hq,rfl⟩;dsimp only at hq ⊢;refine zh ?_;refine zC ?_ ?_
 ·intro a1;replace a1:q<vs.length:=dT a1;have m1:w2.cell? (adr nv 1 q)=some (nth vs q):=by have:=a3.cell (j:=0) a1 rfl;rwa[ar]at this
  obtain⟨r1,r2⟩:=hr.row q zo;have hk:=(a8 q zo).ext a2;have b2:Dd (nth rows q)<rows.length:=Jm a4 _ λx hx=>by
   obtain⟨j,hj,rfl⟩:=cd hx;exact r2 j zo
  refine zh ?_;apply ax (d:=32) rfl (b':=false) ((by rw[r1];rfl))
  refine zh ?_;apply zc call99 (Gi (nth rows q) _ w2 hk zo)
  rintro v w9 ⟨⟨k,rfl⟩,a0⟩;rw[a0];clear a0 w9;refine zh ?_;apply ax (d:=37) rfl (b':=false) ((decide_eq_false zo));refine zh ?_;apply zc call68 (Gm (nth rows q) _ w2 hk zo);rintro v w9 ⟨rfl,a0⟩;rw[a0];clear a0 w9;refine zh ?_;refine zFH rfl ((decide_eq_false zo)) ?_;refine zxd (q+1,w2) ⟨a1,rfl⟩
 intro b4;refine zh ?_;refine af rfl rfl ⟨rfl,a2⟩
def runN(nx:Nat->Nat->Nat)(w:List Nat)(q:Nat):Nat:=w.foldl nx q
def Alike(nx:Nat->Nat->Nat)(tl:Nat->Nat)(p q:Nat):Prop:=∀w:List Nat,(∀m∈w,m<37)->tl (runN nx w p)=tl (runN nx w q)
def Alike.step{nx:Nat->Nat->Nat}{p:Nat}(h:Alike nx tl p q)(hm:m<37):Alike nx tl (nx p m) (nx q m):=λw hw=>h (m::w) λx hx=>by
 rcases Lp.1 hx with rfl|hx
 ·exact hm
 exact hw x hx
def Alike.symm{nx:Nat->Nat->Nat}{tl:Nat->Nat}{p q:Nat}(h:Alike nx tl p q):Alike nx tl q p:=λw hw=>(h w hw).symm
structure Blk(nx:Nat->Nat->Nat)(tl:Nat->Nat)(n:Nat)(bl:List Nat)(st:Nat->List Nat)(many:Nat):Prop where
 len:bl.length=n
 lt:∀i,i<n->nth bl i<many
 mem:∀b,b<many->∀x,x∈st b↔x<n/\nth bl x=b
 nd:∀b,b<many->(st b).Nodup
 ne:∀b,b<many->st b≠[]
 told:∀p q,p<n->q<n->nth bl p=nth bl q->tl p=tl q
 alike:∀p q,p<n->q<n->Alike nx tl p q->nth bl p=nth bl q
def Blk.many_le{nx:Nat->Nat->Nat}(h:Blk nx tl n bl st many):many<=n:=by
 have a0:∀b,b<many->(st b).headD 0∈st b:=λb hb=>by
  have:=h.ne b hb
  cases hs:st b with
  |nil=>exact absurd hs this
  |cons a r=>simp
 have a1:((LK many).map λb=>(st b).headD 0).Nodup:=by
  refine List.pairwise_map.2 (Pv ?_ NB);intro a b ha hb a2 e;have ha:=Mq.1 ha;have hb:=Mq.1 hb;have h1:=((h.mem a ha _).1 (a0 a ha)).2;have h2:=((h.mem b hb _).1 (a0 b hb)).2;exact a2 (by rw[<-h1,<-h2,e])
 have:=gk a1 (n:=n) λx hx=>by
  obtain⟨b,hb,rfl⟩:=Nh.1 hx;have hb:=Mq.1 hb;exact((h.mem b hb _).1 (a0 b hb)).1
 simpa using this
def Pend(nx:Nat->Nat->Nat)(n:Nat)(bl:List Nat)(td:Nat->Nat->Prop)(m0:Nat)(P0:Nat->Prop)(a0:Nat->Prop):Prop:=
 ∀p q m,p<n->q<n->m<37->nth bl p=nth bl q->nth bl (nx p m)≠nth bl (nx q m)->(td (nth bl (nx p m)) m\/td (nth bl (nx q m)) m)\/(m=m0/\¬(P0 p↔P0 q)/\a0 (nth bl p))
def Todo(nx:Nat->Nat->Nat)(n:Nat)(bl:List Nat)(td:Nat->Nat->Prop):Prop:=
 ∀p q m,p<n->q<n->m<37->nth bl p=nth bl q->nth bl (nx p m)≠nth bl (nx q m)->td (nth bl (nx p m)) m\/td (nth bl (nx q m)) m
def Todo.take{nx:Nat->Nat->Nat}{td a1:Nat->Nat->Prop}(h:Todo nx n bl td)(b0 m0:Nat)(ht:∀b m,td b m->a1 b m\/(b=b0/\m=m0))(a2:Nat->Prop)(hr:∀p,p<n->nth bl (nx p m0)=b0->a2 (nth bl p)):
  Pend nx n bl a1 m0 (λp=>nth bl (nx p m0)=b0) a2:=λp q m hp hq hm e a0=>by
 rcases h p q m hp hq hm e a0 with h1|h1
 ·rcases ht _ _ h1 with h2|⟨h2,rfl⟩
  ·exact .inl (.inl h2)
  exact .inr ⟨rfl,λhi=>a0 (by rw[h2,hi.1 h2]),hr p hp h2⟩
 rcases ht _ _ h1 with h2|⟨h2,rfl⟩
 ·exact .inl (.inr h2)
 exact .inr ⟨rfl,λhi=>a0 (by rw[h2,hi.2 h2]),by rw[e];exact hr q hq h2⟩
def Pend.done{nx:Nat->Nat->Nat}{td:Nat->Nat->Prop}{a0:Nat->Prop}(h:Pend nx n bl td m0 P0 a0)(hr:∀b,¬a0 b):Todo nx n bl td:=λp q m hp hq hm e a1=>by
 rcases h p q m hp hq hm e a1 with h1|⟨_,_,h1⟩
 ·exact h1
 exact absurd h1 (hr _)
def Pend.whole{nx:Nat->Nat->Nat}{td:Nat->Nat->Prop}{a1 a0:Nat->Prop}(h:Pend nx n bl td m0 P0 a1)(hk:∀p,p<n->nth bl p=k->P0 p)(hr:∀b,a1 b->b=k\/a0 b):Pend nx n bl td m0 P0 a0:=λp q m hp hq hm e a2=>by
 rcases h p q m hp hq hm e a2 with h1|⟨h1,h2,h3⟩
 ·exact .inl h1
 rcases hr _ h3 with h4|h4
 ·exact absurd ⟨λ_=>hk q hq (e.symm.J h4),λ_=>hk p hp h4⟩ h2
 exact .inr ⟨h1,h2,h4⟩
structure Cut(n:Nat)(bl bl':List Nat)(st st':Nat->List Nat)(many k:Nat)(L:List Nat):Prop where
 len:bl'.length=n
 bl:∀x,x<n->nth bl' x=if x∈L then many else nth bl x
 new:st' many=L
 old:st' k=(st k).filter λx=>!(L.contains x)
 oth:∀b,b≠many->b≠k->st' b=st b
def Blk.cut{nx:Nat->Nat->Nat}{a4:List Nat}{a6:Nat->List Nat}(h:Blk nx tl n bl st many)(c:Cut n bl a4 st a6 many k L)(hk:k<many)(hL:∀x∈L,x<n/\nth bl x=k)(a':L.Nodup)(b0:L≠[])(b1:L.length<(st k).length) 
  (a9:∀p q,p<n->q<n->Alike nx tl p q->p∈L->q∈L):Blk nx tl n a4 a6 (many+1):=by
 have a0:∀x,x<n->x∉L->nth a4 x=nth bl x:=λx hx hn=>by rw[c.bl x hx,am hn]
 have a3:∀x,x<n->x∈L->nth a4 x=many:=λx hx hn=>by rw[c.bl x hx,ap hn]
 refine⟨c.len,λi hi=>?_,λb hb x=>?_,λb hb=>?_,λb hb=>?_,λp q hp hq e=>?_,λp q hp hq ha=>?_⟩
 ·have:=h.lt i hi
  by_cases a7:i∈L
  ·rw[a3 i hi a7];omega
  rw[a0 i hi a7];omega
 ·by_cases a1:b=many
  ·subst a1;rw[c.new]
   constructor
   ·intro hx;exact⟨(hL x hx).1,a3 x (hL x hx).1 hx⟩
   rintro⟨hx,e⟩;refine LD λhn=>?_
   rw[a0 x hx hn]at e;have:=h.lt x hx;omega
  have a8:b<many:=zo
  by_cases a2:b=k
  ·subst a2;rw[c.old,MQ,h.mem b a8 x]
   constructor
   ·rintro⟨⟨h1,h2⟩,h3⟩;have hn:x∉L:=by simpa using h3
    exact⟨h1,by rw[a0 x h1 hn];exact h2⟩
   rintro⟨h1,h2⟩;have hn:x∉L:=λhx=>by rw[a3 x h1 hx]at h2;omega
   exact⟨⟨h1,by rw[<-a0 x h1 hn];exact h2⟩,by simpa using hn⟩
  rw[c.oth b a1 a2,h.mem b a8 x]
  constructor
  ·rintro⟨h1,h2⟩;have hn:x∉L:=λhx=>a2 (by rw[<-h2];exact(hL x hx).2)
   exact⟨h1,by rw[a0 x h1 hn];exact h2⟩
  rintro⟨h1,h2⟩;have hn:x∉L:=λhx=>a1 (by rw[<-h2];exact a3 x h1 hx)
  exact⟨h1,by rw[<-a0 x h1 hn];exact h2⟩
 ·by_cases a1:b=many
  ·subst a1;rw[c.new];exact a'
  by_cases a2:b=k
  ·subst a2;rw[c.old];exact(h.nd b zo).filter _
  rw[c.oth b a1 a2];exact h.nd b zo
 ·by_cases a1:b=many
  ·subst a1;rw[c.new];exact b0
  by_cases a2:b=k
  ·subst a2;rw[c.old];intro e;have a5:st b ⊆ L:=λx hx=>by
    refine LD λhn=>?_
    have:x∈(st b).filter λx=>!(L.contains x):=MQ.2 ⟨hx,by simpa using hn⟩
    rw[e]at this;simp at this
   have:=(h.nd b zo).length_le_of_subset a5;omega
  rw[c.oth b a1 a2];exact h.ne b zo
 ·apply h.told p q hp hq
  by_cases h1:p∈L
  ·by_cases h2:q∈L
   ·rw[(hL p h1).2,(hL q h2).2]
   rw[a3 p hp h1,a0 q hq h2]at e;have:=h.lt q hq;omega
  by_cases h2:q∈L
  ·rw[a0 p hp h1,a3 q hq h2]at e;have:=h.lt p hp;omega
  rw[a0 p hp h1,a0 q hq h2]at e;exact e
 by_cases h1:p∈L
 ·rw[a3 p hp h1,a3 q hq (a9 p q hp hq ha h1)]
 have h2:q∉L:=λhx=>h1 (a9 q p hq hp ha.symm hx)
 rw[a0 p hp h1,a0 q hq h2];exact h.alike p q hp hq ha
def Pend.cut{nx:Nat->Nat->Nat}{a6:List Nat}{b4:Nat->List Nat}{td a3:Nat->Nat->Prop}{a' a5:Nat->Prop}(hB:Blk nx tl n bl st many)(h:Pend nx n bl td m0 P0 a')(c:Cut n bl a6 st b4 many k L)(_:k<many) 
  (b2:∀p m,p<n->m<37->nx p m<n) (hL:∀x,x∈L↔x<n/\nth bl x=k/\P0 x)
  (ht:∀b m,td b m->a3 b m) (b5:∀m,m<37->td k m->a3 many m) (b1:∀m,m<37->a3 many m\/a3 k m) (hr:∀b,a' b->b=k\/a5 b):Pend nx n a6 a3 m0 P0 a5:=λp q m hp hq hm e b3=>by
 have a0:∀x,x<n->x∉L->nth a6 x=nth bl x:=λx hx hn=>by rw[c.bl x hx,am hn]
 have a2:∀x,x<n->x∈L->nth a6 x=many:=λx hx hn=>by rw[c.bl x hx,ap hn]
 have a4:∀x,x∈L->nth bl x=k:=λx hx=>((hL x).1 hx).2.1
 have a1:nth bl p=nth bl q/\(p∈L↔q∈L):=by
  by_cases h1:p∈L
  ·by_cases h2:q∈L
   ·exact⟨by rw[a4 p h1,a4 q h2],by simp[h1,h2]⟩
   rw[a2 p hp h1,a0 q hq h2]at e;have:=hB.lt q hq;omega
  by_cases h2:q∈L
  ·rw[a0 p hp h1,a2 q hq h2]at e;have:=hB.lt p hp;omega
  rw[a0 p hp h1,a0 q hq h2]at e;exact⟨e,by simp[h1,h2]⟩
 have hx:=b2 p m hp hm;have hy:=b2 q m hq hm;have hh:=h p q m hp hq hm a1.1;generalize nx p m=x at *;generalize nx q m=y at *;have b0:∀z,z<n->td (nth bl z) m->a3 (nth a6 z) m:=λz hz a9=>by
  by_cases h1:z∈L
  ·rw[a2 z hz h1];rw[a4 z h1]at a9;exact b5 m hm a9
  rw[a0 z hz h1];exact ht _ _ a9
 by_cases a7:nth bl x=nth bl y
 ·by_cases h1:x∈L
  ·by_cases h2:y∈L
   ·exact absurd (by rw[a2 x hx h1,a2 y hy h2]) b3
   have e1:=a4 x h1;rw[a2 x hx h1,a0 y hy h2,<-a7,e1];exact .inl (b1 m hm)
  by_cases h2:y∈L
  ·have e1:=a4 y h2;rw[a2 y hy h2,a0 x hx h1,a7,e1];exact .inl ((b1 m hm).symm)
  exact absurd (by rw[a0 x hx h1,a0 y hy h2,a7]) b3
 rcases hh a7 with(h1|h1)|⟨h1,h2,h3⟩
 ·exact .inl (.inl (b0 x hx h1))
 ·exact .inl (.inr (b0 y hy h1))
 by_cases a8:nth bl p=k
 ·exact absurd ⟨λa=>((hL q).1 (a1.2.1 ((hL p).2 ⟨hp,a8,a⟩))).2.2,λa=>((hL p).1 (a1.2.2 ((hL q).2 ⟨hq,by rw[<-a1.1];exact a8,a⟩))).2.2⟩ h2
 have b6:p∉L:=λa=>a8 (a4 p a)
 rcases hr _ h3 with h4|h4
 ·exact absurd h4 a8
 exact .inr ⟨h1,h2,by rw[a0 p hp b6];exact h4⟩
def Blk.final{nx:Nat->Nat->Nat}(h:Blk nx tl n bl st many)(ht:Todo nx n bl λ_ _=>False)(a0:∀p m,p<n->m<37->nx p m<n)(p q:Nat)(hp:p<n)(hq:q<n):nth bl p=nth bl q↔Alike nx tl p q:=by
 refine⟨λe w=>?_,h.alike p q hp hq⟩
 induction w generalizing p q with
 |nil=>exact λ_=>h.told p q hp hq e
 |cons m w ih=>
  intro hw;have hm:=hw m (by simp);refine ih (nx p m) (nx q m) (a0 p m hp hm) (a0 q m hq hm) (LD λa1=>?_) λx hx=>hw x (by simp[hx])
  rcases ht p q m hp hq hm e a1 with h1|h1<;>exact h1
section
variable(cl:Nat→Nat)(nx:Nat→Nat→Nat)
def vX(F:List Nat)(t:Nat):Option Nat:=F.findIdx? λo=>cl o==cl t
def fnI(F:List Nat)(t:Nat):Nat:=(vX cl F t).getD F.length
def fnF(F:List Nat)(t:Nat):List Nat:=if(vX cl F t).isSome=true then F else F++[t]
def gh(p:Nat)(F:List Nat):Nat->List Nat×List Nat
 |0=>(F,[])
 |m+1=>(fnF cl (gh p F m).1 (nx p m),(gh p F m).2++[fnI cl (gh p F m).1 (nx p m)])
end
def DJ(h:vX cl F t=some k):k<F.length/\cl (nth F k)=cl t:=by
 obtain⟨h1,h2,_⟩:=M1.1 h;exact⟨h1,by rw[aB h1];simpa using h2⟩
def DL(h:vX cl F t=none):∀o∈F,cl o≠cl t:=by
 intro o ho e;have:=MI.1 h o ho;simp[e]at this
def Jv(cl:Nat->Nat)(F:List Nat)(t:Nat):∃r,fnF cl F t=F++r:=by
 unfold fnF
 split
 ·exact⟨[],by simp⟩
 exact⟨_,rfl⟩
def KB(cl:Nat->Nat)(F:List Nat)(t:Nat):fnI cl F t<(fnF cl F t).length/\cl (nth (fnF cl F t) (fnI cl F t))=cl t:=by
 unfold fnI fnF
 cases h:vX cl F t with
 |some k=>exact DJ h
 |none=>
  simp only[Option.getD_none,Option.isSome_none,Bool.false_eq_true,if_false];exact⟨by simp,by rw[az,am zo,N4,ao]⟩
structure Reps(cl:Nat->Nat)(n:Nat)(F:List Nat):Prop where
 lt:∀o∈F,o<n
 nd:F.Pairwise λa b=>cl a≠cl b
def Reps.add(h:Reps cl n F)(ht:t<n):Reps cl n (fnF cl F t):=by
 unfold fnF
 cases hf:vX cl F t with
 |some k=>exact h
 |none=>
  have a0:=DL hf
  exact⟨λo ho=>by
   rcases Lz.1 ho with ho|ho
   ·exact h.lt o ho
   rw[L3.1 ho];exact ht,List.pairwise_append.2 ⟨h.nd,by simp,λa ha b hb=>by rw[L3.1 hb];exact a0 a ha⟩⟩
def Reps.len(h:Reps cl n F):F.length<=n:=
 gk (h.nd.imp fun {a b} a0 e=>a0 (by rw[e])) h.lt
structure RowR(cl:Nat->Nat)(nx:Nat->Nat->Nat)(n p:Nat)(F F' r:List Nat)(m:Nat):Prop where
 pre:∃q,F'=F++q
 len:r.length=m
 lt:∀j,j<m->nth r j<F'.length/\cl (nth F' (nth r j))=cl (nx p j)
 reps:Reps cl n F'
def oO{cl:Nat->Nat}{nx:Nat->Nat->Nat}{n p:Nat}{F:List Nat}(hF:Reps cl n F)(a3:∀m,m<37->nx p m<n):∀m,m<=37->RowR cl nx n p F (gh cl nx p F m).1 (gh cl nx p F m).2 m
 |0,_=>⟨⟨[],by simp[gh]⟩,rfl,λj hj=>absurd hj (ln j),hF⟩
 |m+1,hm=>by
  have ih:=oO hF a3 m zo;unfold gh;generalize gh cl nx p F m=R at *;obtain⟨F1,r⟩:=R;dsimp only at ih ⊢;obtain⟨q,hq⟩:=ih.pre;obtain⟨q2,a0⟩:=Jv cl F1 (nx p m);have a5:=KB cl F1 (nx p m);have a4:=ih.len;have a6:F1.length<=(fnF cl F1 (nx p m)).length:=by rw[a0];simp
  refine⟨⟨q++q2,by rw[a0,hq,Na]⟩,by simp[a4],λj hj=>?_,ih.reps.add (a3 m zo)⟩;rw[az]
  by_cases e:j<r.length
  ·rw[ap e];obtain⟨a1,a2⟩:=ih.lt j zo;exact⟨zo,by rw[a0,az,ap a1];exact a2⟩
  rw[am e,show j-r.length=0 from by omega,ao];obtain rfl:j=m:=zo;exact a5
def fg(cl:Nat->Nat)(nx:Nat->Nat->Nat)(tl:Nat->Nat):Nat->Nat->List Nat->List (List Nat)->List Nat->List (List Nat)×List Nat
 |0,_,_,rows,tls=>(rows,tls)
 |n+1,i,F,rows,tls=>
  if i<F.length then fg cl nx tl n (i+1) (gh cl nx (nth F i) F 37).1 (rows++[(gh cl nx (nth F i) F 37).2]) (tls++[tl (nth F i)])
  else(rows,tls)
def nxD(rows:List (List Nat))(q m:Nat):Nat:=nth (nth rows q) m
def aV(cl:Nat->Nat)(rows:List (List Nat))(a0:List Nat):List (List Nat)×List Nat:=fg cl (nxD rows) (nth a0) (rows.length+1) 0 [0] [] []
structure LI(cl:Nat->Nat)(nx:Nat->Nat->Nat)(tl:Nat->Nat)(n i:Nat)(F:List Nat)(rows:List (List Nat))(tls:List Nat):Prop where
 le:i<=F.length
 rl:rows.length=i
 tln:tls.length=i
 p0:0<F.length
 fst:nth F 0=0
 reps:Reps cl n F
 row:∀j,j<i->(nth rows j).length=37/\∀m,m<37->nth (nth rows j) m<F.length/\cl (nth F (nth (nth rows j) m))=cl (nx (nth F j) m)
 tel:∀j,j<i->nth tls j=tl (nth F j)
def mS{nx:Nat->Nat->Nat}(h0:0<n):LI cl nx tl n 0 [0] [] []:=⟨zd,rfl,rfl,zd,ao _ _,⟨λo ho=>by rw[L3.1 ho];exact h0,by simp⟩,λj hj=>absurd hj (ln j),λj hj=>absurd hj (ln j)⟩
def LI.next{nx:Nat->Nat->Nat}{rows:List (List Nat)}{a3:List Nat}(h:LI cl nx tl n i F rows a3)(hi:i<F.length)(a4:∀p m,p<n->m<37->nx p m<n):
  LI cl nx tl n (i+1) (gh cl nx (nth F i) F 37).1 (rows++[(gh cl nx (nth F i) F 37).2]) (a3++[tl (nth F i)]):=by
 have hr:=oO (p:=nth F i) h.reps (λm hm=>a4 (nth F i) m (h.reps.lt _ (aJ hi)) hm) 37 (Ll _);generalize gh cl nx (nth F i) F 37=R at *;obtain⟨F1,r⟩:=R;dsimp only at hr ⊢;obtain⟨q,hq⟩:=hr.pre;have a0:∀k,k<F.length->nth F1 k=nth F k:=λk hk=>by rw[hq,az,ap hk]
 have a5:F.length<=F1.length:=by rw[hq];simp
 have h1:=h.rl;have h2:=h.tln;have h3:=h.p0;refine⟨zo,by simp[h1],by simp[h2],zo,by rw[a0 0 h3];exact h.fst,hr.reps,λj hj=>?_,λj hj=>?_⟩
 ·rw[az]
  by_cases e:j<rows.length
  ·rw[ap e];obtain⟨a1,a2⟩:=h.row j zo;refine⟨a1,λm hm=>?_⟩;obtain⟨b1,b2⟩:=a2 m hm;exact⟨zo,by rw[a0 _ b1,a0 j zo];exact b2⟩
  rw[am e,show j-rows.length=0 from by omega,ao];obtain rfl:j=i:=zo;refine⟨hr.len,λm hm=>?_⟩;obtain⟨b1,b2⟩:=hr.lt m hm;exact⟨b1,by rw[a0 j hi];exact b2⟩
 rw[az]
 by_cases e:j<a3.length
 ·rw[ap e,a0 j zo];exact h.tel j zo
 rw[am e,show j-a3.length=0 from by omega,ao];obtain rfl:j=i:=zo;rw[a0 j hi]
def iC{cl:Nat->Nat}{nx:Nat->Nat->Nat}{tl:Nat->Nat}{n:Nat}(a1:∀p m,p<n->m<37->nx p m<n):∀(f i:Nat) (F:List Nat) (rows:List (List Nat)) (a0:List Nat),LI cl nx tl n i F rows a0->n+1<=i+f->∃F',LI cl nx tl n F'.length F' (fg cl nx tl f i F rows a0).1 (fg cl nx tl f i F rows a0).2
 |0,i,F,rows,a0,h,hf=>by have:=h.le;have:=h.reps.len;omega
 |f+1,i,F,rows,a0,h,hf=>by
  unfold fg
  split
  ·rename_i hi;exact iC a1 f (i+1) _ _ _ (h.next hi a1) zo
  rename_i hi;have:=h.le;obtain rfl:i=F.length:=zo;exact⟨F,h⟩
def L9(F:Pm)(cs:Array ix)(i:Nat)(_:Nat)(O:Nat->Nat)(w:ka)(l:List Nat)(q:Nat->Bool):Prop:=
 ∀x∈l,∀(O':Nat->Nat) (W:ka),Lr (λk=>k=i) O w O' W->NA Mw F ([nI (x:Nat)]++cs.toList) W λv W'=>v=.bool (q x)/\Np W W'
def qR{F:Pm}(hF:∀(args:Array ix) (w:ka),(callFunc F args).run Mw w=.ok (.enter F args) w)(cs:Array ix)(B:Nat)(O:Nat->Nat)(w:ka)(i:Nat)(sv:ix)(l:List Nat)(q:Nat->Bool)(hi:i≠0)(_:Ng B O w)(hr:My aL 3 1 O w i sv l)(hq:L9 F cs i B O w l q):
  NA Mw 159 [sv,.func (.func F) #[] cs] w λv w'=>v=nI (ey (λj=>q (nth l j)) l.length)/\Np w w':=by
 have hl:=hr.sl.len_le;apply Ln func159 ntmps159 rfl rfl;refine zh ?_;refine zvH (aM hr.sl.sh Lj rfl) ?_;apply zlp (λx:Nat×ka=>[(0,sv),(1,.func (.func F) #[] cs),(7,nI l.length),(8,nI x.1)]) (λx=>x.2) (λx=>x.1<=l.length/\Np w x.2/\∀j,j<x.1->q (nth l j)=false) (λx=>l.length-x.1) (0,w) ⟨Li _,Lu _,λi hi=>absurd hi (ln i)⟩;rintro⟨k,w1⟩ ⟨hk,hE,a1⟩;dsimp only at hk hE a1 ⊢;have h1:=hr.sl.ext hE;refine zh ?_;refine zC ?_ ?_
 ·intro a0;replace a0:k<l.length:=dT a0;have m1:w1.cell? (adr sv 1 k)=some (nI ((nth l k:Nat):Int)):=by have:=h1.cell (j:=0) a0 rfl;rwa[ar]at this
  refine zh ?_;apply eo rfl hF rfl (hq _ (aJ a0) O w1 (aa (λe=>hi e.symm) O hE)) rfl
  rintro v w2 ⟨rfl,a3⟩;refine zh ?_;refine zC ?_ ?_
  ·intro hy;refine zh ?_;refine af rfl rfl ⟨by rw[cX (q:=λj=>q (nth l j)) a0 hy a1],hE.J a3⟩
  intro hy;refine zh ?_;refine zxd (k+1,w2) ⟨a0,hE.J a3,λi hi=>(NM.1 hi).elim (a1 i) (λe=>by rw[e];exact hy)⟩
 intro a2;replace a2:l.length<=k:=dF a2;refine zh ?_;refine af rfl rfl ⟨by rw[cU (q:=λj=>q (nth l j)) λi hi=>a1 i zo],hE⟩
def iO(q:Nat->Bool)(l:List Nat):List Nat:=l.filter λx=>!q x
def jX{q:Nat->Bool}(h:j<l.length):iO q (l.take (j+1))=iO q (l.take j)++if q (nth l j)=true then []else [nth l j]:=by
 unfold iO;rw[aG h,N5,NC]
 cases q (nth l j)<;>rfl
def qV{F:Pm}(hF:∀(args:Array ix) (w:ka),(callFunc F args).run Mw w=.ok (.enter F args) w)(cs:Array ix)(B:Nat)(O:Nat->Nat)(w:ka)(i:Nat)(sv:ix)(l:List Nat)(q:Nat->Bool)(hi:i≠0)(hR:Ng B O w)(hr:My aL 3 1 O w i sv l)(hq:L9 F cs i B O w l q):
  NA Mw 157 [sv,.func (.func F) #[] cs] w λv w'=>My aL 3 1 O w' i v (iO q l)/\Lr (λk=>k=i) O w O w':=by
 have hl:=hr.sl.len_le;have hz:¬(λk=>k=i) 0:=λe=>hi e.symm
 apply Ln func157 ntmps157 rfl rfl;refine zh ?_
 apply zc call159 (qR hF cs B O w i sv l q hi hR hr hq);rintro _ w1 ⟨rfl,d1⟩;have d0:Lr (λk=>k=i) O w O w1:=aa hz O d1;have c5:My aL 3 1 O w1 i sv l:=hr.U (aa (S:=λ_=>False) (λh=>h) O d1) hi λh=>h
 refine zh ?_
 by_cases a':jZ (λj=>q (nth l j)) l.length=true
 ·obtain⟨j0,b1,b5,a9⟩:∃j0,j0<l.length/\q (nth l j0)=true/\∀j,j<j0->q (nth l j)=false:=by
   have hf:=(firstN_any (q:=λj=>q (nth l j)) (n:=l.length)).J a'
   cases c9:(LK l.length).find? (λj=>q (nth l j))with
   |none=>rw[ey,c9]at hf;exact absurd hf zd
   |some k=>
    obtain⟨a1,a2,a3⟩:=List.find?_range_eq_some.1 c9;exact⟨k,Mq.1 a2,a1,λj hj=>by simpa using a3 j hj⟩
  have b7:ey (λj=>q (nth l j)) l.length=(j0:Int):=cX b1 b5 a9;rw[b7];have c8:∀j,j<=j0->iO q (l.take j)=l.take j:=λj=>by
   induction j with
   |zero=>intro _;rfl
   |succ j ih=>
    intro hj;rw[jX zo,ih zo,a9 j zo,aG zo];rfl
  refine zFH rfl ((by rw[beq_eq_false_iff_ne];omega)) ?_;apply zlp (λz:Nat×Nat×ka×List Nat=>[(0,sv),(1,.func (.func F) #[] cs),(5,nI z.1),(6,nI z.2.1)]) (λz=>z.2.2.1) (λz=>z.2.1<=l.length/\z.1<z.2.1/\z.1=(iO q (l.take z.2.1)).length/\z.2.2.2.length=l.length/\z.2.2.2.take z.1=iO q (l.take z.2.1)/\(∀j,z.2.1<=j->j<l.length->nth z.2.2.2 j=nth l j)/\My aL 3 1 O z.2.2.1 i sv z.2.2.2/\Lr (λk=>k=i) O w O z.2.2.1) (λz=>l.length-z.2.1) (j0,j0+1,w1,l) ⟨b1,Nat.lt_succ_self _,by dsimp only;rw[jX b1,b5,ap rfl,M5,c8 j0 (Ll _)];simp;omega,rfl,by dsimp only;rw[jX b1,b5,ap rfl,M5,c8 j0 (Ll _)],λ_ _ _=>rfl,c5,d0⟩
  rintro⟨a,j,w2,l2⟩ ⟨hj,d6,ha,b6,a7,a0,b0,b3⟩;dsimp only at hj d6 ha b6 a7 a0 b0 b3 ⊢;have b':=b0.sl;refine zh ?_;refine zC ?_ ?_
  ·intro a4;replace a4:j<l.length:=dT a4;have d3:=a0 j (Ll _) a4;have m1:w2.cell? (adr sv 1 j)=some (nI ((nth l j:Nat):Int)):=by have:=b'.cell (i:=j) (j:=0) zo rfl;rw[ar,d3]at this;exact this
   have a6:=jX (q:=q) a4;refine zh ?_;apply eo rfl hF rfl (hq _ (aJ a4) O w2 b3) rfl;rintro v w3 ⟨rfl,d8⟩;have c':Lr (λ_=>False) O w2 O w3:=aa (λh=>h) O d8;have a5:=b0.U c' hi λh=>h
   have b2:=b3.J (c'.mono (λ_ h=>h.elim) hz);refine zh ?_
   cases c6:q (nth l j)with
   |true=>
    rw[c6,ap rfl,M5]at a6;refine zFH rfl rfl ?_;refine zxd (a,j+1,w3,l2) ⟨a4,by dsimp only;omega,by dsimp only;rw[a6];exact ha,b6,by dsimp only;rw[a6];exact a7,λx h1 h2=>a0 x (by dsimp only at h1;omega) h2,a5,b2⟩
   |false=>
    rw[c6,am zd]at a6;have b9:=a5.sl;refine zTH rfl rfl ?_;apply N7 a5 a zo (nth l j) (Ls _) rfl hi rfl rfl rfl rfl;intro w4 d2 d7;refine zh ?_;refine zxd (a+1,j+1,w4,l2.set a (nth l j)) ⟨a4,by dsimp only;omega,by dsimp only;rw[a6,M9,<-ha];rfl,by dsimp only;rw[Lq];exact b6,?_,λx h1 h2=>?_,d2,b2.J d7⟩
    ·dsimp only;have d5:a<(l2.set a (nth l j)).length:=by rw[Lq];omega
     rw[a6,List.take_succ_eq_append_getElem d5,List.getElem_set_self,List.take_set_of_le (Ll _),a7]
    dsimp only at h1 ⊢;rw[bm zo,am zo];exact a0 x zo h2
  intro d4;obtain rfl:j=l.length:=dF d4;rw[M8]at ha a7;refine zh ?_;apply zv (sM b' Lj (Ls _) rfl rfl a rfl zo);apply xG b0 a zo (0:Nat) hi Lj MC rfl rfl rfl rfl;intro w3 l3 a5 b4 d9 b2;have b8:=a5.short (n:=a) zo;rw[b4,a7]at b8;have b9:=a5.sl;refine zh ?_;refine zvH (B6 b9 Lj (Ls _) rfl rfl a rfl zo) ?_;refine af rfl rfl ⟨b8,b3.J b2⟩
 have c7:=bD.1 (by simpa using a');have b7:ey (λj=>q (nth l j)) l.length = -1:=cU c7;rw[b7];have a8:iO q l=l:=List.filter_eq_self.2 λx hx=>by
  obtain⟨j,hj,rfl⟩:=cd hx;rw[c7 j hj];rfl
 rw[a8];refine zTH rfl rfl ?_;refine af rfl rfl ⟨c5,d0⟩
def K6:KeyL Mw 199 eP:=FG MS Ns zk zk
def Dj:cC Mw 217 #[(0,2),(2,1),(3,1),(4,1),(5,1),(6,1)]:=⟨_,underlying217,λw=>by kernel_rfl⟩
def rS(B:Nat)(O:Nat->Nat)(w:ka)(sb tr:Nat)(td:List ((Int×Int)×Bool))(hR:Ng B O w)(hc:Cell0 O w (nA sb 5) (.map (some tr))\/(O (nA sb 5).block=1/\w.cell? (nA sb 5)=some (.map (some tr))))(hm:MN eP LL O w 4 tr td):
  NA Mw 132 [nP sb] w λv w'=>
   (td=[]/\v=.tuple #[eP (0,0),.bool false]/\Lr (λq=>q=4) O w O w'/\MN eP LL O w' 4 tr td)\/
   ∃b4 k x b3,td=b4++(k,x)::b3/\v=.tuple #[eP k,.bool true]/\Lr (λq=>q=4) O w O w'/\MN eP LL O w' 4 tr (qZ td k):=by
 obtain⟨T0,d',c'⟩:=hR.bound;obtain⟨T,e3⟩:∃T,T=T0+10:=⟨_,rfl⟩
 have hT:∀b,O b<T:=λb=>by have:=c' b;omega
 have d4:=hm.tag;have a2:w.cell? (nA sb 5)=some (.map (some tr)):=by
  rcases hc with h|h
  ·exact h.c
  exact h.2
 have d5:O (nA sb 5).block=0\/O (nA sb 5).block=1:=by
  rcases hc with h|h
  ·exact .inl h.z
  exact .inr h.1
 have a3:∀ {S:Nat->Prop} {O':Nat->Nat} {W:ka},Lr S O w O' W->¬S 1->W.cell? (nA sb 5)=some (.map (some tr)):=fun {S O' W} u hS=>by
  refine jz (u.blk _ (NK w _ a2) ?_) a2
  rcases d5 with h|h
  ·rw[h];exact u.z
  rw[h];exact hS
 apply Ln func132 ntmps132 rfl rfl;refine zh ?_
 apply au hR T zo (MO _) rfl;intro cb w1 O1 a1 c9 e2 e6;have d9:=hm.U c9 zd zo;have c1:=a3 c9 zo;refine zh ?_
 apply qx d9 Ni e2 (T+1) zo zd rfl rfl;intro q w2 O2 d3 d0 b0 e1;have a5:Lr (λk=>T<=k) O w O2 w2:=(c9.mono (λ_ h=>zo) zo).J (b0.mono (λ_ h=>zo) zo);have c2:=a3 a5 zo;refine zh ?_
 apply zlp (λx:Unit=>[(0,nP sb),(2,nP cb),(9,nP q)]) (λx=>w2) (λx=>True) (λx=>0) () trivial;rintro⟨⟩ -;refine zh ?_
 refine sK d3 zo zo rfl rfl ?_ ?_
 ·intro h0;refine zh ?_;refine zFH rfl rfl ?_;apply zv (eJ MS (Ls _) (MO _) rfl rfl);apply zsa (us:=#[nI 0,nI 0]) (a1.U b0 zo zo) (MP _);have a8:=a1.U b0 zo zo;have b8:=a8.setRow (us:=#[nI 0,nI 0]);have a9:Lr (λk=>T<=k) O2 w2 O2 (w2.setRow cb #[nI 0,nI 0]):=LU zo a8.tag (Ll _);have b9:=a5.J a9;refine zh ?_;refine bz rfl rfl rfl b8.V (NO _) (MP _) (.inl ⟨h0,rfl,b9.fgt (λb h=>by have:=hT b;omega) zd,(d0.U a9 zd zo).fgt hm.tag⟩)
 intro b4 k x b3 w3 d2 b5 a';obtain⟨k1,k2⟩:=k;refine zh ?_;refine zTH rfl rfl ?_;refine zvH (PS b5 rfl) ?_;have c8:Lr (λk=>T<=k) O w O2 w3:=a5.J (a'.mono (λ_ h=>zo) zo);have e0:=e1.U a';have d8:=d0.U a' zo zo;apply au e0 (T+2) zo (MO _) rfl;intro eb w4 O4 a0 b2 e4 e5;have d7:=d8.U b2 zo zo;apply zsa (us:=#[nI k1,nI k2]) a0 (MP _);have a6:=a0.setRow (us:=#[nI k1,nI k2]);have d1:Lr (λk=>T<=k) O4 w4 O4 (w4.setRow eb #[nI k1,nI k2]):=LU zo a0.tag zo;have b6:=d7.U d1 zd zo;have a7:=(((a1.U b0 zo zo).U a' zo zo).U b2 zo zo)
 have c6:Lr (λk=>T+1<=k) O2 w3 O4 (w4.setRow eb #[nI k1,nI k2]):=(b2.mono (λ_ h=>zo) zo).J (LU zo a0.tag zo);have a7:=((a1.U b0 zo zo).U a' zo zo).U c6 zo zo;have b1:=(c8.J (b2.mono (λ_ h=>zo) zo)).J d1;generalize w4.setRow eb #[nI k1,nI k2]=w5 at *;have c5:=a3 b1 zo;refine zh ?_;apply Pf 5 rfl rfl zk zk;refine zh ?_;apply zw (ah (us:=[nI k1,nI k2]) a6.drew.V (NO _) (MP _) rfl);apply dX;have hm5d:MN eP LL O4 w5.drew 4 tr td:=⟨b6.blk,b6.tag,b6.born⟩
 apply WL.delete hm5d Ni K6 zd (k1,k2) rfl rfl rfl;intro w6 d6 b';have b7:=a6.drew.U b' zo zo;have a4:=a7.drew.U b' zo zo;have c7:Lr (λk=>k=4\/T<=k) O w O4 w6:=(b1.drew.mono (λ_ h=>.inr h) zo).J (b'.mono (λ_ h=>.inl h) zo);refine zh ?_
 apply zv (ah (us:=[nI k1,nI k2]) b7.V (NO _) (MP _) rfl);apply zsa (us:=#[nI k1,nI k2]) a4 (MP _)
 have b8:=a4.setRow (us:=#[nI k1,nI k2]);have a9:Lr (λk=>k=T) O4 w6 O4 (w6.setRow cb #[nI k1,nI k2]):=LU zo a4.tag rfl;have b9:=c7.J (a9.mono (λ_ h=>.inr zo) zo);refine zh ?_;refine bz rfl rfl rfl b8.V (NO _) (MP _) (.inr ⟨b4,(k1,k2),x,b3,d2,rfl,b9.priv hT zd,(d6.U a9 zd zo).fgt hm.tag⟩)
end Go.Proofs.YtcfhbfflgnbacaaGreatDoor
namespace Go.Proofs.YtcfhbfflgnbacaaGreatDoor
abbrev KVR:=Int×ix×List Nat
abbrev vQ(e:KVR):Int×ix:=(e.1,e.2.1)
def zj(E:List KVR)(k:Int)(v:ix)(l:List Nat):(dc E k (v,l)).map vQ=dc (E.map vQ) k v:=by
 induction E with
 |nil=>rfl
 |cons e r ih=>
  simp only[dc,M4,vQ]
  by_cases h:e.1=k
  ·rw[ap h,ap h];rfl
  rw[am h,am h,M4,ih]
def GY(E:List KVR)(k:Int):bC (E.map vQ) k=(bC E k).map (·.1):=by
 induction E with
 |nil=>rfl
 |cons e r ih=>
  simp only[bC,M4,vQ]
  by_cases h:e.1=k
  ·rw[ap h,ap h];rfl
  rw[am h,am h];exact ih
structure MpR(base i:Nat)(O:Nat->Nat)(w:ka)(r:Nat)(E:List KVR):Prop where
 map:MN (λk:Int=>nI k) (λv:ix=>v) O w i r (E.map vQ)
 row:∀k,k<E.length->My aL 3 1 O w (base+k) (nth E k).2.1 (nth E k).2.2
def MpR.U{base i:Nat}{S:Nat->Prop}{O O':Nat->Nat}{w w':ka}{r:Nat}{E:List KVR}(h:MpR base i O w r E)(u:Lr S O w O' w')(hi:i≠0)(hb:0<base)(hS:¬S i)(a0:∀k,¬S (base+k)):MpR base i O' w' r E:=
 ⟨h.map.U u hi hS,λk hk=>(h.row k hk).U u zo (a0 k)⟩
def mX(E:List KVR)(k:Int):Nat:=(ke E k).getD E.length
def eh(E:List KVR)(k:Int):List Nat:=((bC E k).map (·.2)).getD []
def FJ(E:List KVR)(k:Int):ix:=((bC E k).map (·.1)).getD (nS)
def MpR.at{base i:Nat}{O:Nat->Nat}{w:ka}{r:Nat}{E:List KVR}(h:MpR base i O w r E)(k:Int):My aL 3 1 O w (base+mX E k) (FJ E k) (eh E k):=by
 unfold mX FJ eh;rw[mL]
 cases ha:ke E k with
 |none=>exact Mr _ _ _ _ _ _
 |some j=>
  obtain⟨x,hx⟩:=jE ha;obtain⟨hj,a0⟩:=N9.1 hx;have h1:=h.row j hj;rw[aB hj,a0]at h1;simp only[P2,hx,P5,P1];exact h1
def MpR.put{base:Nat}{O2:Nat->Nat}{w2:ka}{E:List KVR}(h:MpR base i O w r E)(k:Int)(_:i≠0)(hb:i<base)(u:Lr (λq=>q=base+mX E k) O w O' w')(hr:My aL 3 1 O' w' (base+mX E k) v l) 
  (hm:MN (λk:Int=>nI k) (λv:ix=>v) O2 w2 i r (dc (E.map vQ) k v)) (u2:Lr (λq=>q=i) O' w' O2 w2):MpR base i O2 w2 r (dc E k (v,l)):=by
 refine⟨by rw[zj];exact hm,λn hn=>?_⟩;have a0:=hr.U u2 zo zo;have old:∀n,n<E.length->n≠mX E k->My aL 3 1 O2 w2 (base+n) (nth E n).2.1 (nth E n).2.2:=λn hn a1=>((h.row n hn).U u zo zo).U u2 zo zo
 rw[fw]at hn ⊢
 cases ha:ke E k with
 |none=>
  rw[ha]at hn;dsimp only at hn ⊢;have hs:mX E k=E.length:=by unfold mX;rw[ha];rfl
  rw[hs]at a0 old;rw[M9,Lm]at hn
  by_cases he:n=E.length
  ·subst he;rw[az,am zo,N4,show nth [((k,v,l):KVR)] 0=(k,v,l)from by rw[aB Nat.zero_lt_one];rfl];exact a0
  rw[az,ap zo];exact old n zo he
 |some j=>
  rw[ha]at hn;dsimp only at hn ⊢;have hs:mX E k=j:=by unfold mX;rw[ha];rfl
  rw[hs]at a0 old;rw[Lq]at hn;obtain⟨x,hx⟩:=jE ha;obtain⟨hj,_⟩:=N9.1 hx;rw[bm hj]
  by_cases he:n=j
  ·rw[ap he];subst he;exact a0
  rw[am he];exact old n hn he
def eK(E:List KVR)(k k':Int)(v:ix)(l:List Nat):eh (dc E k (v,l)) k'=if k=k' then l else eh E k':=by
 unfold eh;rw[bn]
 split<;>rfl
def mK(E:List KVR)(k:Int)(x:ix×List Nat):(dc E k x).map (·.1)=if k∈E.map (·.1)then E.map (·.1)else E.map (·.1)++[k]:=by
 induction E with
 |nil=>rfl
 |cons e r ih=>
  simp only[dc]
  by_cases h:e.1=k
  ·rw[ap h,ap (by simp[h])];simp[h]
  rw[am h,M4,ih];have h':¬k=e.1:=λe=>h e.symm
  by_cases hm:k∈r.map (·.1)
  ·rw[ap hm,ap (by rw[M4];exact M0 _ hm)];rfl
  rw[am hm,am (by rw[M4,Lp];exact λh=>h.elim h' hm)];rfl
def B1{E:List KVR}(h:(E.map (·.1)).Nodup)(k:Int)(x:ix×List Nat):((dc E k x).map (·.1)).Nodup:=by
 rw[mK]
 split
 ·exact h
 rename_i hk;refine Nw.2 ⟨h,by simp,λa ha b hb e=>?_⟩;rw[L3]at hb;subst hb;subst e;exact hk ha
end Go.Proofs.YtcfhbfflgnbacaaGreatDoor
namespace Go.VL
def jH{ops:Array NV}{S:ka->Prop}{a0:Array Bool}{st:St} 
   {o:Op} {a2:Nat}    {t t':MZ} {p p':String} {e e':Array PY} {d d':Nat} {xv:ix}
  (i j:Nat) (he:Pj P T E sz a2) (u:α) (hi:ops[i]? = some ⟨some d,o,t,p,e,none⟩) (hj:ops[j]? = some ⟨some d',.buildSlice T 1 #[(0,y)],t',p',e',none⟩)
  (hr:Ms .any ops a0=[i,j]) (a':Ms .any ops (a0.setIfInBounds i true)=[j]) (a9:Ms .any ops (a0.setIfInBounds j true)=[i])
  (a4:(a0.setIfInBounds j true).setIfInBounds i true=(a0.setIfInBounds i true).setIfInBounds j true)
  (hv:∀w',Np w w'->RV P N o t st w' v) (hS:∀w',Np w w'->S w')
  (hy:ev st y=some xv) (a5:xv.cells.toList=enc u) (a6:(enc u).length=sz) (hs:sz<=16777216) (hd:Ny d N=true) (a7:Ny d' N=true) (b0:Nb d d'=false) (hf:(cQ st d').isNone=true) (a8:ev ((d,v)::st) y=some xv)
  (h:∀sv w',Sl enc sz w' sv [u]->Np w w'->WH P N ops S Q a1 ((a0.setIfInBounds i true).setIfInBounds j true) ((d',sv)::(d,v)::st) w'):WH P N ops S Q (a1+2) a0 st w:=by
 refine NL i j hr hi hj ?_ ?_
 ·refine oy (hv w (Lu w)) hd (MH (ae (hS w (Lu w)) (Lo j a' hj ?_)));refine cA he u a8 a5 a6 hs a7 λsv w' a3 hE=>MH (ae (hS w' hE) (h sv w' a3 hE))
 refine cA he u hy a5 a6 hs a7 λsv w' a3 hE=>MH (ae (hS w' hE) (Lo i a9 hi ?_))
 refine oy (λa ha=>hv w' hE a (ha.fresh hf)) hd (MH (ae (hS w' hE) ?_));rw[a4];exact λa ha=>h sv w' a3 hE a (ha.swap b0)
end Go.VL
namespace Go.Proofs.YtcfhbfflgnbacaaGreatDoor
structure LeadsI(bl xs:List Nat)(E:List KVR):Prop where
 nd:(E.map (·.1)).Nodup
 row:∀k,eh E k=xs.filter λi=>decide (((nth bl i:Nat):Int)=k)
 key:∀k,k∈E.map (·.1)↔∃i∈xs,((nth bl i:Nat):Int)=k
def LeadsI.nil(bl:List Nat):LeadsI bl [] []:=⟨NJ,λ_=>rfl,λk=>by simp⟩
def LeadsI.push{xs:List Nat}{E:List KVR}(h:LeadsI bl xs E)(i:Nat)(v:ix):LeadsI bl (xs++[i]) (dc E ((nth bl i:Nat):Int) (v,eh E ((nth bl i:Nat):Int)++[i])):=by
 refine⟨B1 h.nd _ _,λk=>?_,λk=>?_⟩
 ·rw[eK,N5,h.row,h.row]
  by_cases hk:((nth bl i:Nat):Int)=k
  ·rw[ap hk,hk,List.filter_cons_of_pos (by simpa using hk)];rfl
  rw[am hk,List.filter_cons_of_neg (by simpa using hk)];simp
 rw[mK]
 constructor
 ·intro hm
  split at hm
  ·obtain⟨x,hx,e⟩:=(h.key k).1 hm;exact⟨x,MG _ hx,e⟩
  rcases Lz.1 hm with hm|hm
  ·obtain⟨x,hx,e⟩:=(h.key k).1 hm;exact⟨x,MG _ hx,e⟩
  exact⟨i,by simp,(L3.1 hm).symm⟩
 rintro⟨x,hx,e⟩
 rcases Lz.1 hx with hx|hx
 ·have:=(h.key k).2 ⟨x,hx,e⟩
  split
  ·exact this
  exact MG _ this
 obtain rfl:=L3.1 hx;subst e
 split
 ·assumption
 exact MF _ (L3.2 rfl)
def eG(n:Nat)(nx:Nat->Nat)(to:Nat):List Nat:=(LK n).filter λx=>decide (nx x=to)
def jh{nx:Nat->Nat}:x∈eG n nx to↔x<n/\nx x=to:=by
 simp[eG,Mq]
def GJ(n:Nat)(nx:Nat->Nat)(to:Nat):(eG n nx to).Nodup:=NB.sublist N0
def jg{nx:Nat->Nat}:x∈l.flatMap (eG n nx)↔x<n/\nx x∈l:=by
 rw[List.mem_flatMap]
 constructor
 ·rintro⟨a,ha,hx⟩;obtain⟨h1,rfl⟩:=jh.1 hx;exact⟨h1,ha⟩
 rintro⟨h1,h2⟩;exact⟨_,h2,jh.2 ⟨h1,rfl⟩⟩
def tS{n:Nat}{nx:Nat->Nat}:∀ {l:List Nat},l.Nodup->(l.flatMap (eG n nx)).Nodup
 |[],_=>NJ
 |a::r,h=>by
  obtain⟨h1,h2⟩:=NG.1 h;rw[Mz];refine Nw.2 ⟨GJ n nx a,tS h2,λx hx y hy e=>?_⟩;subst e;have a1:=(jh.1 hx).2;have a0:=(jg.1 hy).2;rw[a1]at a0;exact h1 a0
def LeadsI.mem{nx:Nat->Nat}{st:List Nat}{E:List KVR}(h:LeadsI bl (st.flatMap (eG n nx)) E)(a1:∀x,x<n->nx x<n)(a0:∀x,x∈st↔x<n/\nth bl x=b)(k x:Nat):x∈eh E (k:Int)↔x<n/\nth bl x=k/\nth bl (nx x)=b:=by
 rw[h.row,MQ,jg,a0,decide_eq_true_eq]
 constructor
 ·rintro⟨⟨h1,_,h2⟩,h3⟩;exact⟨h1,zo,h2⟩
 rintro⟨h1,h2,h3⟩;exact⟨⟨h1,a1 x h1,h3⟩,zo⟩
def LeadsI.rnd{nx:Nat->Nat}{st:List Nat}{E:List KVR}(h:LeadsI bl (st.flatMap (eG n nx)) E)(a0:st.Nodup)(k:Int):(eh E k).Nodup:=by
 rw[h.row];exact(tS a0).sublist N0
def LeadsI.ne{xs:List Nat}{E:List KVR}(h:LeadsI bl xs E){k:Int}(hk:k∈E.map (·.1)):eh E k≠[]:=λe=>by
 obtain⟨i,hi,hb⟩:=(h.key k).1 hk;have:i∈eh E k:=by rw[h.row];exact MQ.2 ⟨hi,decide_eq_true hb⟩
 rw[e]at this;exact absurd this (by simp)
structure FromO(O:Nat->Nat)(w:ka)(i:Nat)(fv:ix)(n:Nat)(nx:Nat->Nat->Nat):Prop where
 ex:∃(ms:List ix) (vss:List (List ix)),My sn 50 1 O w i fv ms/\ms.length=37/\∀m,m<37->My sn 22 1 O w i (nth ms m) (nth vss m)/\(nth vss m).length=n/\
  ∀t,t<n->My aL 3 1 O w i (nth (nth vss m) t) (eG n (λx=>nx x m) t)
def FromO.U{S:Nat->Prop}{O O':Nat->Nat}{w w':ka}{i:Nat}{fv:ix}{n:Nat}{nx:Nat->Nat->Nat}(h:FromO O w i fv n nx)(u:Lr S O w O' w')(hi:i≠0)(hS:¬S i):FromO O' w' i fv n nx:=by
 obtain⟨ms,a0,h1,h2,h3⟩:=h.ex;exact⟨ms,a0,h1.U u hi hS,h2,λm hm=>⟨(h3 m hm).1.U u hi hS,(h3 m hm).2.1,λt ht=>((h3 m hm).2.2 t ht).U u hi hS⟩⟩
structure SpO(O:Nat->Nat)(w:ka)(sb:Nat)(nv tv fv bv:ix)(sr tr n:Nat)(nx:Nat->Nat->Nat)(bl:List Nat)(E:List KVR)(td:List ((Int×Int)×Bool))(many:Nat):Prop where
 blk:MX O w 1 sb #[nv,tv,fv,bv,.map (some sr),.map (some tr),nI (many:Nat)] 217
 row:My aL 3 1 O w 2 bv bl
 st:MpR 10 3 O w sr E
 todo:MN eP LL O w 4 tr td
 frm:FromO O w 5 fv n nx
def SpO.U{S:Nat->Prop}{O O':Nat->Nat}{w w':ka}{sb:Nat}{nv tv fv bv:ix}{sr tr n:Nat}{nx:Nat->Nat->Nat}{bl:List Nat}{E:List KVR}{td:List ((Int×Int)×Bool)}{many:Nat}(h:SpO O w sb nv tv fv bv sr tr n nx bl E td many) 
  (u:Lr S O w O' w') (hS:∀k,0<k->k<10+E.length->¬S k):SpO O' w' sb nv tv fv bv sr tr n nx bl E td many:=
 ⟨h.blk.U u zd (hS 1 zo zo),h.row.U u zd (hS 2 zo zo),⟨h.st.map.U u zd (hS 3 zo zo),λk hk=>(h.st.row k hk).U u zo (hS _ zo zo)⟩,h.todo.U u zd (hS 4 zo zo),h.frm.U u zd (hS 5 zo zo)⟩
def nU(E:List KVR)(k:Int):JK (λv:ix=>v) nS (bC (E.map vQ) k)=FJ E k:=by
 unfold FJ;rw[GY]
 cases bC E k<;>rfl
def yM(B:Nat)(O:Nat->Nat)(w:ka)(sb:Nat)(nv tv fv bv:ix)(sr tr n:Nat)(nx:Nat->Nat->Nat)(bl:List Nat)(E:List KVR)(td:List ((Int×Int)×Bool))(many b m:Nat)(hR:Ng B O w)(hS:SpO O w sb nv tv fv bv sr tr n nx bl E td many) 
  (hE:E.length<=1000) (hm:m<37) (d4:∀x∈eh E (b:Nat),x<n) (hn:n<=1000) (g0:bl.length=n) (d5:(eh E (b:Nat)).Nodup) (_:∀q,O q<2000) :
  NA Mw 133 [nP sb,nI (b:Nat),nI (m:Nat)] w λv w'=>
   ∃r O' G,v=.map (some r)/\Lr (λq=>2000<=q) O w O' w'/\Ng B O' w'/\MpR 3000 2000 O' w' r G/\LeadsI bl ((eh E (b:Nat)).flatMap (eG n λx=>nx x m)) G:=by
 obtain⟨ms,b2,e5,f6,a8⟩:=hS.frm.ex;apply Ln func133 ntmps133 rfl rfl;refine zh ?_;apply bx (λk:Int=>nI k) (λv:ix=>v) hR 2000 zd rfl;intro r w1 O1 e0 c8 e9;have b6:=hS.U c8 zo;have c3:w1.cell? (nA sb 4)=some (.map (some sr)):=b6.blk.cell 4 rfl;have d7:=b6.st.at (b:Int);have d6:=hS.st.at (b:Int);refine zh ?_;apply zv (MT b6.st.map LN rX (N2 _) (b:Int) rfl rfl rfl (nU E _));refine zvH (aM d7.sl.sh Lj rfl) ?_;apply zlp (λz:Nat×(Nat->Nat)×World×List KVR=>[(0,nP sb),(2,nI (m:Nat)),(7,.map (some r)),(18,FJ E (b:Nat)),(19,nI (eh E (b:Nat)).length),(20,nI z.1)]) (λz=>z.2.2.1) (λz=>z.1<=(eh E (b:Nat)).length/\Lr (λq=>2000<=q) O w z.2.1 z.2.2.1/\Ng B z.2.1 z.2.2.1/\MpR 3000 2000 z.2.1 z.2.2.1 r z.2.2.2/\LeadsI bl (((eh E (b:Nat)).take z.1).flatMap (eG n λx=>nx x m)) z.2.2.2) (λz=>(eh E (b:Nat)).length-z.1) (0,O1,w1,[]) ⟨Li _,c8.mono (λ_ h=>zo) zd,e9,⟨e0,λk hk=>absurd hk (ln k)⟩,LeadsI.nil _⟩;rintro⟨q,O2,w2,G⟩ ⟨hq,a3,b8,hG,hL⟩;dsimp only at hq a3 b8 hG hL ⊢;have c':=hS.U a3 zo;have c6:=(c'.st.at (b:Int)).sl;have f8:=c6.len_le;refine zh ?_;refine zC ?_ ?_
 ·intro a2;replace a2:q<(eh E (b:Nat)).length:=dT a2;have m1:w2.cell? (adr (FJ E (b:Nat)) 1 q)=some (nI ((nth (eh E (b:Nat)) q:Nat):Int)):=by have:=c6.cell (i:=q) (j:=0) a2 rfl;rwa[ar]at this
  obtain⟨to,a7⟩:∃to,to=nth (eh E (b:Nat)) q:=⟨_,rfl⟩
  have c5:to<n:=by rw[a7];exact d4 _ (aJ a2)
  rw[<-a7]at m1;have e7:=(e5.U a3 zd zo).sl;have e6:=((a8 m hm).1.U a3 zd zo).sl;have f':=(((a8 m hm).2.2 to c5).U a3 zd zo).sl;have f5:=(a8 m hm).2.1;have c1:w2.cell? (nA sb 2)=some fv:=c'.blk.cell 2 rfl;have m2:w2.cell? (adr fv 1 m)=some (nth ms m):=by have:=e7.cell (i:=m) (j:=0) zo rfl;rwa[ar]at this
  have m3:w2.cell? (adr (nth ms m) 1 to)=some (nth (nth b2 m) to):=by have:=e6.cell (i:=to) (j:=0) zo rfl;rwa[ar]at this
  refine zh ?_;apply zlp (λy:Nat×(Nat->Nat)×World×List KVR=>[(0,nP sb),(2,nI (m:Nat)),(7,.map (some r)),(18,FJ E (b:Nat)),(19,nI (eh E (b:Nat)).length),(20,nI q),(33,nth (nth b2 m) to),(34,nI (eG n (λx=>nx x m) to).length),(35,nI y.1)]) (λy=>y.2.2.1) (λy=>y.1<=(eG n (λx=>nx x m) to).length/\Lr (λq=>2000<=q) O w y.2.1 y.2.2.1/\Ng B y.2.1 y.2.2.1/\MpR 3000 2000 y.2.1 y.2.2.1 r y.2.2.2/\LeadsI bl (((eh E (b:Nat)).take q).flatMap (eG n λx=>nx x m)++(eG n (λx=>nx x m) to).take y.1) y.2.2.2) (λy=>(eG n (λx=>nx x m) to).length-y.1) (0,O2,w2,G) ⟨Li _,a3,b8,hG,by dsimp only;rw[Pk,M5];exact hL⟩
  rintro⟨j,O3,w3,G3⟩ ⟨hj,a5,b7,b',a6⟩;dsimp only at hj a5 b7 b' a6 ⊢;have b5:=hS.U a5 zo;have c7:=(((a8 m hm).2.2 to c5).U a5 zd zo).sl;have f7:=c7.len_le;refine zh ?_;refine zC ?_ ?_
  ·intro a4;replace a4:j<(eG n (λx=>nx x m) to).length:=dT a4;obtain⟨i,hi⟩:∃i,i=nth (eG n (λx=>nx x m) to) j:=⟨_,rfl⟩
   have f9:i<n:=by rw[hi];exact(jh.1 (aJ a4)).1
   have k1:w3.cell? (adr (nth (nth b2 m) to) 1 j)=some (nI (i:Int)):=by have:=c7.cell (i:=j) (j:=0) a4 rfl;rw[ar]at this;rw[hi];exact this
   refine zh ?_;have a0:=b5.row.sl;have d1:w3.drew.cell? (nA sb 3)=some bv:=b5.blk.cell 3 rfl;have d2:w3.drew.cell? (adr bv 1 i)=some (nI ((nth bl i:Nat):Int)):=by have:=a0.cell (i:=i) (j:=0) zo rfl;rwa[ar]at this
   have a':Lr (λ_=>False) O3 w3 O3 w3.drew:=aa (λh=>h) O3 (Lu w3).drew;have d3:=b'.U a' zd zd (λh=>h) (λ_ h=>h);apply aN (λW=>W.cell? (nA sb 3)=some bv/\W.cell? (adr bv 1 i)=some (nI ((nth bl i:Nat):Int))) 21 rfl zk;refine zin ⟨d1,d2⟩ λzS=>?_
   apply zrm 0 rfl zS rfl;apply zrm 1 rfl zS rfl
   apply zr 2 rfl zS (λ_=>ak rfl);apply zrf 3 rfl zS rfl
   apply zt 4 rfl zS (λw1 a1=>RV.ld a1.1 rfl);apply zrm 5 rfl zS rfl
   apply zr 6 rfl zS (λ_=>ai a0.sh Lj (Ls _) rfl rfl i rfl zo);apply zt 7 rfl zS (λw1 a1=>RV.ld a1.2 rfl)
   apply zrm 8 rfl zS rfl;apply zrm 9 rfl zS rfl
   apply zr 10 rfl zS (λ_=>ak rfl);apply zrf 11 rfl zS rfl
   apply zt 12 rfl zS (λw1 a1=>RV.ld a1.1 rfl);apply zrm 13 rfl zS rfl
   apply zr 14 rfl zS (λ_=>ai a0.sh Lj (Ls _) rfl rfl i rfl zo);apply zt 15 rfl zS (λw1 a1=>RV.ld a1.2 rfl)
   apply zrm 17 rfl zS rfl;apply jH 16 18 gE (enc:=aL) i rfl rfl zk zk zk zk (λW hE=>MT (d3.U (aa (S:=λ_=>False) (λh=>h) O3 hE) zd zd (λh=>h) (λ_ h=>h)).map LN rX (N2 _) ((nth bl i:Nat):Int) rfl rfl rfl (nU G3 _)) (λW hE=>⟨hE.cell d1,hE.cell d2⟩) rfl rfl rfl zd rfl rfl rfl rfl rfl
   intro f4 w4 b3 f3;have a9:Lr (λ_=>False) O3 w3.drew O3 w4:=aa (λh=>h) O3 f3;have b9:=d3.U a9 zd zd (λh=>h) (λ_ h=>h);have g1:(eh G3 ((nth bl i:Nat):Int)).length<=n:=by
    have d9:(((eh E (b:Nat)).take q).flatMap (eG n λx=>nx x m)++(eG n (λx=>nx x m) to)).Nodup:=by
     have:=tS (n:=n) (nx:=λx=>nx x m) (d5.sublist (P7 (q+1) _))
     rwa[aG a2,MK,<-a7,Mz,Pb,M5]at this
    rw[a6.row];refine gk ((d9.sublist (Py (P7 j _) _)).sublist N0) λx hx=>?_
    rcases Lz.1 (MQ.1 hx).1 with h1|h1
    ·exact(jg.1 h1).1
    exact(jh.1 (List.mem_of_mem_take h1)).1
   apply Lo 19 zk rfl;apply aC gE (b9.at ((nth bl i:Nat):Int)) ((b7.U a').U a9) b3 (by simp) rfl rfl (by simp) (by simp[Lk]) (by rw[Lm];omega) (by rw[Lm];omega) zo rfl
   intro v5 w5 O5 d8 b1 e8;have b4:=((b5.U a' (λ_ _ _ h=>h)).U a9 (λ_ _ _ h=>h)).U b1 zo;have e2:w5.cell? (adr bv 1 i)=some (nI ((nth bl i:Nat):Int)):=by have:=b4.row.sl.cell (i:=i) (j:=0) zo rfl;rwa[ar]at this
   refine zh ?_;apply ae ⟨b4.blk.cell 3 rfl,e2⟩
   apply Lo 20 zk rfl;apply Mt (b9.map.U b1 zd zo) LN rX zd ((nth bl i:Nat):Int) v5 rfl rfl rfl rfl rfl
   intro w6 d' b0;have c9:=b4.U b0 zo;have e3:w6.cell? (adr bv 1 i)=some (nI ((nth bl i:Nat):Int)):=by have:=c9.row.sl.cell (i:=i) (j:=0) zo rfl;rwa[ar]at this
   have e':=b9.put ((nth bl i:Nat):Int) zd zd b1 d8 d' b0;have d0:=a6.push i v5;rw[Na,hi,<-aG a4,<-hi]at d0;refine zh ?_;apply ae ⟨c9.blk.cell 3 rfl,e3⟩;apply MJ zk;refine zh ?_;refine zxd (j+1,O5,w6,dc G3 ((nth bl i:Nat):Int) (v5,eh G3 ((nth bl i:Nat):Int)++[i])) ⟨a4,(((a5.J (a'.mono (λ_ h=>h.elim) zd)).J (a9.mono (λ_ h=>h.elim) zd)).J (b1.mono (λ_ h=>zo) zd)).J (b0.mono (λ_ h=>zo) zd),e8.U b0,e',d0⟩
  intro e1;obtain rfl:j=(eG n (λx=>nx x m) to).length:=dF e1;rw[M8]at a6;refine zh ?_;refine zxd (q+1,O3,w3,G3) ⟨a2,a5,b7,b',by dsimp only;rw[aG a2,MK,<-a7,Mz,Pb,M5];exact a6⟩
 intro e4;obtain rfl:q=(eh E (b:Nat)).length:=dF e4;rw[M8]at hL;refine zh ?_;refine af rfl rfl ⟨r,O2,G,rfl,a3,b8,hG,hL⟩
def GU(c k:Nat):((c:Int)==(k:Int))=(c==k):=by
 by_cases h:c=k
 ·subst h;simp
 rw[beq_eq_false_iff_ne.2 h,beq_eq_false_iff_ne.2 zo]
def vJ(w:ka)(xb yb sb i c k len:Nat)(bv:ix)(a0:Shape bv len)(hi:i<len)(c1:w.cell? ⟨xb,0,none⟩=some (nP sb))(c2:w.cell? (nA sb 3)=some bv)(c3:w.cell? (adr bv 1 i)=some (nI (c:Nat)))(c4:w.cell? ⟨yb,0,none⟩=some (nI (k:Nat))):
  NA Mw 158 [nI (i:Nat),nP xb,nP yb] w λv w'=>v=.bool (c==k)/\Np w w':=by
 apply Ln func158 ntmps158 rfl rfl;refine zh ?_
 apply PP zk zk;refine zh ?_
 refine zwH (ai a0 Lj (Ls _) rfl rfl i rfl zo) ?_;apply WS.nil
 refine zh ?_;refine af rfl rfl ⟨by rw[GU c k],(Lu w).drew⟩
def tdL(td:List ((Int×Int)×Bool))(b many:Nat)(lt:Bool):Nat->List ((Int×Int)×Bool)
 |0=>td
 |m+1=>dc (tdL td b many lt m) (((if(bC (tdL td b many lt m) ((b:Int),(m:Int))).getD false=true then(many:Int)else if lt=true then(b:Int)else(many:Int)),(m:Int))) true
def Fm(td:List ((Int×Int)×Bool))(k:Int×Int):JK LL (.bool false) (bC td k)=.bool ((bC td k).getD false):=by
 cases bC td k<;>rfl
def de(bl:List Nat)(k:Nat)(L:List Nat):List Nat:=L.foldl (λbl x=>bl.set x k) bl
def jP(k:Nat):∀(L bl:List Nat),(de bl k L).length=bl.length
 |[],_=>rfl
 |x::L,bl=>by rw[de,Pi];exact(jP k L (bl.set x k)).J Lq
def yo(h:j<L.length):de bl k (L.take (j+1))=(de bl k (L.take j)).set (nth L j) k:=by
 unfold de;rw[aG h,P8];rfl
def np(k:Nat):∀(L bl:List Nat) (x:Nat),x<bl.length->nth (de bl k L) x=if x∈L then k else nth bl x
 |[],_,_,_=>by simp[de]
 |y::L,bl,x,hx=>by
  rw[de,Pi];have:=np k L (bl.set y k) x (by rw[Lq];exact hx);rw[de]at this;rw[this]
  by_cases h1:x∈L
  ·rw[ap h1,ap (M0 _ h1)]
  rw[am h1]
  by_cases h2:x=y
  ·subst h2;rw[ap (MR ..),bm hx,ap rfl]
  rw[am (λh=>(Lp.1 h).elim h2 h1)]
  by_cases hy:y<bl.length
  ·rw[bm hy,am h2]
  rw[List.set_eq_of_length_le zo]
def tdP(td:List ((Int×Int)×Bool))(b m:Nat):Prop:=bC td ((b:Int),(m:Int))=some true
def tq{a b c d:Int}(h:b≠d):¬((a,b)=(c,d)):=λe=>h (Nv e).2
def Cm(td:List ((Int×Int)×Bool))(b many:Nat)(lt:Bool)(c j:Nat):∀m,m<=j->bC (tdL td b many lt m) ((c:Int),(j:Int))=bC td ((c:Int),(j:Int))
 |0,_=>rfl
 |m+1,h=>by
  unfold tdL;rw[bn,am (tq zo)];exact Cm td b many lt c j m zo
def FY{c:Nat}(q:Int×Int)(h:tdP td c j):tdP (dc td q true) c j:=by
 unfold tdP;rw[bn]
 split
 ·rfl
 exact h
def zR{td:List ((Int×Int)×Bool)}{b many:Nat}{lt:Bool}{c j:Nat}(h:tdP td c j):∀m,tdP (tdL td b many lt m) c j
 |0=>h
 |m+1=>FY _ (zR h m)
def zQ{td:List ((Int×Int)×Bool)}{b many:Nat}{lt:Bool}{j:Nat}(h:tdP td b j):∀m,j<m->tdP (tdL td b many lt m) many j
 |0,hj=>absurd hj (ln j)
 |m+1,hj=>by
  unfold tdP tdL;rw[bn]
  by_cases e:j=m
  ·subst e;rw[Cm td b many lt b j j (Ll _),show bC td ((b:Int),(j:Int))=some true from h];simp
  rw[am (tq zo)];exact zQ h m zo
def G9{td:List ((Int×Int)×Bool)}{b many:Nat}{lt:Bool}{j:Nat}:∀m,j<m->tdP (tdL td b many lt m) many j\/tdP (tdL td b many lt m) b j
 |0,hj=>absurd hj (ln j)
 |m+1,hj=>by
  by_cases e:j=m
  ·subst e;unfold tdP;rw[show tdL td b many lt (j+1)=dc (tdL td b many lt j) (((if(bC (tdL td b many lt j) ((b:Int),(j:Int))).getD false=true then(many:Int)else if lt=true then(b:Int)else(many:Int)),(j:Int))) true from rfl];rw[bn,bn]
   split
   ·exact .inl (ap rfl)
   split
   ·exact .inr (ap rfl)
   exact .inl (ap rfl)
  have:=G9 (td:=td) (b:=b) (many:=many) (lt:=lt) (j:=j) m zo;unfold tdP at this ⊢;rw[show tdL td b many lt (m+1)=dc (tdL td b many lt m) (((if(bC (tdL td b many lt m) ((b:Int),(m:Int))).getD false=true then(many:Int)else if lt=true then(b:Int)else(many:Int)),(m:Int))) true from rfl];rw[bn,bn,am (tq zo),am (tq zo)];exact this
section
variable{κ ν:Type}[DecidableEq κ]
def uf(k:κ)(x:ν):∀(l:List (κ×ν)),(dc l k x).length<=l.length+1
 |[]=>Ll _
 |(a,y)::r=>by
  unfold dc
  split
  ·simp
  simp only[MB];exact Nat.succ_le_succ (uf k x r)
def ue(k:κ)(x:ν):∀(l:List (κ×ν)) (e:κ×ν),e∈dc l k x->e∈l\/e=(k,x)
 |[],e,h=>.inr (L3.1 h)
 |(a,y)::r,e,h=>by
  unfold dc at h
  split at h
  ·rcases Lp.1 h with h|h
   ·exact .inr h
   exact .inl (M0 _ h)
  rcases Lp.1 h with h|h
  ·exact .inl (by rw[h];exact MR ..)
  rcases ue k x r e h with h|h
  ·exact .inl (M0 _ h)
  exact .inr h
def AT(k:κ):∀(l:List (κ×ν)) (e:κ×ν),e∈qZ l k->e∈l
 |[],e,h=>h
 |(a,y)::r,e,h=>by
  unfold qZ at h
  split at h
  ·exact M0 _ h
  rcases Lp.1 h with h|h
  ·rw[h];exact MR ..
  exact M0 _ (AT k r e h)
def AU(k:κ)(x:ν):∀(l:List (κ×ν)),(k,x)∈l->(qZ l k).length+1=l.length
 |(a,y)::r,h=>by
  unfold qZ
  split
  ·rfl
  rename_i hn
  rcases Lp.1 h with h|h
  ·exact absurd (Nv h).1.symm hn
  simp only[MB];rw[AU k x r h]
def sH{k k':κ}(hne:k'≠k):∀(l:List (κ×ν)),bC (qZ l k) k'=bC l k'
 |[]=>rfl
 |(a,y)::r=>by
  unfold qZ
  split
  ·rename_i e;subst e;rw[show bC ((a,y)::r) k'=if a=k' then some y else bC r k' from rfl,am (λe=>hne e.symm)]
  rw[show bC ((a,y)::r) k'=if a=k' then some y else bC r k' from rfl,show bC ((a,y)::qZ r k) k'=if a=k' then some y else bC (qZ r k) k' from rfl,sH hne r]
end
def Cn(td:List ((Int×Int)×Bool))(b many:Nat)(lt:Bool):∀m,(tdL td b many lt m).length<=td.length+m
 |0=>Ll _
 |m+1=>by
  have:=uf (((if(bC (tdL td b many lt m) ((b:Int),(m:Int))).getD false=true then(many:Int)else if lt=true then(b:Int)else(many:Int)),(m:Int))) true (tdL td b many lt m);have h2:=Cn td b many lt m;unfold tdL;omega
def tdR(td:List ((Int×Int)×Bool))(many:Nat):Prop:=∀e∈td,∃c j:Nat,c<many/\j<37/\e.1=((c:Int),(j:Int))
def Cl{td:List ((Int×Int)×Bool)}{b many:Nat}{lt:Bool}(h:tdR td many)(hb:b<many):∀m,m<=37->tdR (tdL td b many lt m) (many+1)
 |0,_=>λe he=>by
  obtain⟨c,j,h1,h2,h3⟩:=h e he;exact⟨c,j,zo,h2,h3⟩
 |m+1,hm=>λe he=>by
  unfold tdL at he
  rcases ue _ _ _ _ he with he|he
  ·exact Cl h hb m zo e he
  rw[he]
  split
  ·exact⟨many,m,zo,zo,rfl⟩
  split
  ·exact⟨b,m,zo,zo,rfl⟩
  exact⟨many,m,zo,zo,rfl⟩
def tdR.del(h:tdR td many)(k:Int×Int):tdR (qZ td k) many:=λe he=>h e (AT k td e he)
def KeysE(E:List KVR)(many:Nat):Prop:=E.map (·.1)=(LK many).map fun(k:Nat)=>(k:Int)
def KeysE.len{E:List KVR}(h:KeysE E many):E.length=many:=by
 have:=congrArg Pu h;simpa using this
def KeysE.mem{E:List KVR}(h:KeysE E many):(k:Int)∈E.map (·.1)↔k<many:=by
 rw[h,Nh]
 constructor
 ·rintro⟨a,ha,e⟩;have:=Mq.1 ha;omega
 intro hk;exact⟨k,Mq.2 hk,rfl⟩
def KeysE.idx{E:List KVR}(h:KeysE E many)(hk:k<many):ke E (k:Int)=some k:=by
 rw[<-eY,h];refine M1.2 ⟨by simpa using hk,by simp,λj hj=>?_⟩;simp;omega
def KeysE.idxN{E:List KVR}(h:KeysE E many)(hk:many<=k):ke E (k:Int)=none:=by
 rw[<-eY,h];refine MI.2 λx hx=>?_
 obtain⟨a,ha,rfl⟩:=Nh.1 hx;have:=Mq.1 ha;simp;omega
def KeysE.slot{E:List KVR}(h:KeysE E many)(hk:k<many):mX E (k:Int)=k:=by
 unfold mX;rw[h.idx hk];rfl
def KeysE.add{E:List KVR}(h:KeysE E many)(x:ix×List Nat):dc E (many:Int) x=E++[((many:Int),x)]:=by
 rw[fw,h.idxN (Ll _)]
def KeysE.put{E:List KVR}(h:KeysE E many)(hk:k<many)(x:ix×List Nat):dc E (k:Int) x=E.set k ((k:Int),x):=by
 rw[fw,h.idx hk]
def KeysE.more{E:List KVR}(h:KeysE E many)(x:ix×List Nat):KeysE (dc E (many:Int) x) (many+1):=by
 unfold KeysE;rw[mK,am (λhm=>by have:=h.mem.1 hm;omega),h,Nk,ME];rfl
def KeysE.same{E:List KVR}(h:KeysE E many)(hk:k<many)(x:ix×List Nat):KeysE (dc E (k:Int) x) many:=by
 unfold KeysE;rw[mK,ap (h.mem.2 hk)];exact h
def zT(E:List KVR)(k:Int):mX E k<=E.length:=by
 unfold mX
 cases h:ke E k with
 |none=>exact Ll _
 |some j=>
  obtain⟨x,hx⟩:=jE h;exact Nat.le_of_lt (N9.1 hx).1
def KK{E:List KVR}{ov v':ix}(hb:b<many)(a0:bl.length=n)(a1:∀x,x∈eh E (b:Int)↔x<n/\nth bl x=b):
  Cut n bl (de bl many L) (λk=>eh E (k:Int)) (λk=>eh (dc (dc E (many:Int) (ov,L)) (b:Int) (v',iO (λx=>nth (de bl many L) x==many) (eh E (b:Int)))) (k:Int)) many b L:=by
 have a2:=jP many L bl;refine⟨by rw[a2,a0],λx hx=>np many L bl x zo,?_,?_,λc h1 h2=>?_⟩
 ·rw[eK,am zo,eK,ap rfl]
 ·rw[eK,ap rfl];unfold iO;refine P9 λx hx=>?_
  obtain⟨h1,h2⟩:=(a1 x).1 hx;show(!(nth (de bl many L) x==many)) = !(L.contains x);rw[np many L bl x zo]
  by_cases hL:x∈L
  ·rw[ap hL];simp[hL]
  rw[am hL,h2];simp[hL];omega
 rw[eK,am zo,eK,am zo]
end Go.Proofs.YtcfhbfflgnbacaaGreatDoor
namespace Go.VL
def reF(f:Nat->Nat)(O:Nat->Nat):Nat->Nat:=λb=>f (O b)
def Upd.re{S:Nat->Prop}(h:Lr S O w O' w')(f:Nat->Nat)(f0:f 0=0)(hf:∀b,O b≠0->f (O b)=O b):Lr S O w (reF f O') w':=
 ⟨h.os,h.tape,h.output,h.size,h.blk,λb hb=>by unfold reF;rw[h.tag b hb];exact hf b hb,λb hb=>h.new b λe=>hb (by unfold reF;rw[e];exact f0),h.z⟩
def Rng.re(h:Ng B O w)(f:Nat->Nat)(f0:f 0=0):Ng B (reF f O) w:=⟨h.le,λb hb=>h.rng b λe=>hb (by unfold reF;rw[e];exact f0)⟩
def RowT.re{l:List α}(h:My enc E sz O w i v l)(f:Nat->Nat)(hj:f i=j):My enc E sz (reF f O) w j v l:=
 ⟨⟨h.1.row,λg hg=>by unfold reF;rw[h.1.tag g hg];exact hj⟩,h.2⟩
def BlkO.re{cs:Array ix}(h:MX O w i b cs E)(f:Nat->Nat)(hj:f i=j):MX (reF f O) w j b cs E:=⟨h.blk,by unfold reF;rw[h.tag];exact hj⟩
def MapO.re{kv:κ->ix}{vv:ν->ix}{l:List (κ×ν)}(h:MN kv vv O w i r l)(f:Nat->Nat)(hj:f i=j):MN kv vv (reF f O) w j r l:=⟨h.blk,by unfold reF;rw[h.tag];exact hj,h.born⟩
def RangeO.re{kv:κ->ix}{vv:ν->ix}{left:List (κ×ν)}{a0:Option (κ×ν)}(h:PV kv vv O w i j r q left a0)(f:Nat->Nat){i' j':Nat}(hi:f i=i')(hj:f j=j'):PV kv vv (reF f O) w i' j' r q left a0:=
 ⟨h.ex,by unfold reF;rw[h.tag];exact hi,by unfold reF;rw[h.tagq];exact hj⟩
def MapO.lowT{kv:κ->ix}{vv:ν->ix}{l:List (κ×ν)}(h:MN kv vv O w i r l){T:Nat}(hi:i<T):MN kv vv (Nr O T) w i r l:=⟨h.blk,by unfold Nr;rw[h.tag,am zo],h.born⟩
def Ja(a b:Nat):Nat->Nat:=λt=>if t=a then b else t
def C1(a b:Nat):Ja a b a=b:=ap rfl
def tu{a:Nat}(h:t≠a):Ja a b t=t:=am h
end Go.VL
namespace Go.Proofs.YtcfhbfflgnbacaaGreatDoor
def FromO.re{O:Nat->Nat}{w:ka}{i:Nat}{fv:ix}{n:Nat}{nx:Nat->Nat->Nat}(h:FromO O w i fv n nx)(f:Nat->Nat){j:Nat}(hj:f i=j):FromO (reF f O) w j fv n nx:=by
 obtain⟨ms,a0,h1,h2,h3⟩:=h.ex;exact⟨ms,a0,h1.re f hj,h2,λm hm=>⟨(h3 m hm).1.re f hj,(h3 m hm).2.1,λt ht=>((h3 m hm).2.2 t ht).re f hj⟩⟩
def SpO.cut{S:Nat->Prop}{nv tv fv bv:ix}{nx:Nat->Nat->Nat}{a4:List Nat}{E:List KVR}{a0:List ((Int×Int)×Bool)}{tg:Nat}{ov v':ix}{L':List Nat} 
  (h:SpO O w sb nv tv fv bv sr tr n nx bl E td many) (hk:KeysE E many) (hb:b<many) (a7:10+many<=tg) (a5:My aL 3 1 O w tg ov L)
  (u:Lr S O w O' w') (hS:∀q,S q->1<=q/\q<=4\/q=10+b)
  (h1:MX O' w' 1 sb #[nv,tv,fv,bv,.map (some sr),.map (some tr),nI ((many+1:Nat):Int)] 217) (h2:My aL 3 1 O' w' 2 bv a4)
  (h3:MN (λk:Int=>nI k) (λv:ix=>v) O' w' 3 sr (dc (dc (E.map vQ) (many:Nat) ov) (b:Nat) v')) (h4:My aL 3 1 O' w' (10+b) v' L') (h5:MN eP LL O' w' 4 tr a0) :
  SpO (reF (Ja tg (10+many)) O') w' sb nv tv fv bv sr tr n nx a4 (dc (dc E (many:Int) (ov,L)) (b:Int) (v',L')) a0 (many+1):=by
 have n1:∀ {t:Nat},t<10+many->Ja tg (10+many) t=t:=λh=>tu zo
 have a6:=hk.len;have a2:=hk.more (ov,L);have a1:=a2.len;refine⟨h1.re _ (n1 zo),h2.re _ (n1 zo),⟨?_,λk a3=>?_⟩,h5.re _ (n1 zo),(h.frm.U u zd (λhs=>by rcases hS _ hs with h|h<;>omega)).re _ (n1 zo)⟩
 ·rw[zj,zj];exact h3.re _ (n1 zo)
 rw[a2.put zo]at a3 ⊢;rw[Lq]at a3;rw[bm zo]
 by_cases e1:k=b
 ·rw[ap e1];subst e1;exact h4.re _ (n1 zo)
 rw[am e1,hk.add,az]
 by_cases e2:k<E.length
 ·rw[ap e2];exact((h.st.row k e2).U u zo (λhs=>by rcases hS _ hs with h|h<;>omega)).re _ (n1 zo)
 rw[am e2,show k-E.length=0 from by omega,ao];obtain rfl:k=many:=zo;exact(a5.U u zo (λhs=>by rcases hS _ hs with h|h<;>omega)).re _ (C1 _ _)
def yK(B:Nat)(O:Nat->Nat)(w:ka)(sb:Nat)(nv tv fv bv:ix)(sr tr n:Nat)(nx:Nat->Nat->Nat)(bl:List Nat)(E:List KVR)(td:List ((Int×Int)×Bool))(many b tg:Nat)(ov:ix)(L:List Nat)(hR:Ng B O w)(hS:SpO O w sb nv tv fv bv sr tr n nx bl E td many) 
  (i4:My aL 3 1 O w tg ov L) (hk:KeysE E many) (j7:10+many<=tg) (hL:∀x∈L,x<bl.length) (g6:many<=1000) (i8:b<many) (g8:∀x∈eh E (b:Nat),x<bl.length) :
  NA Mw 134 [nP sb,nI (b:Nat),ov] w λ_ w'=>
   ∃v' O',Lr (λq=>1<=q/\q<=4\/q=10+b) O w O' w'/\Ng B O' w'/\MX O' w' 1 sb #[nv,tv,fv,bv,.map (some sr),.map (some tr),nI ((many+1:Nat):Int)] 217/\
    My aL 3 1 O' w' 2 bv (de bl many L)/\MN (λk:Int=>nI k) (λv:ix=>v) O' w' 3 sr (dc (dc (E.map vQ) (many:Nat) ov) (b:Nat) v')/\
    My aL 3 1 O' w' (10+b) v' (iO (λx=>nth (de bl many L) x==many) (eh E (b:Nat)))/\MN eP LL O' w' 4 tr (tdL td b many (decide ((iO (λx=>nth (de bl many L) x==many) (eh E (b:Nat))).length<L.length)) 37):=by
 have h5:=hk.len;obtain⟨T0,i',g1⟩:=hR.bound;obtain⟨T,j9⟩:∃T,T=T0+10+tg:=⟨_,rfl⟩
 have hT:∀b,O b<T:=λb=>by have:=g1 b;omega
 have j0:=hk.slot i8;have d1:=hS.st.at (b:Int);rw[j0]at d1;apply Ln func134 ntmps134 rfl rfl;refine zh ?_;apply aI hR T zo rfl rfl;intro xb w1 O1 d' d6 j6 k1;have h3:=hS.U d6 zo;have x1:w1.cell? ⟨xb,0,none⟩=some (nP sb):=d'.cell 0 rfl;have c1:w1.cell? (nA sb 6)=some (nI (many:Nat)):=h3.blk.cell 6 rfl;refine zh ?_;apply au j6 (T+1) zo (MC _) rfl;intro yb w2 O2 d8 b9 j5 k0;have x2:w2.cell? ⟨xb,0,none⟩=some (nP sb):=(d'.U b9 zo zo).cell 0 rfl;have j1:=h3.U b9 zo;apply aj (j:=0) d8 rfl (Ls _) rfl rfl rfl rfl;have b8:Lr (λj=>j=T+1) O2 w2 O2 (w2.setCell ⟨yb,0,none⟩ (nI (many:Nat))):=MV zo d8.tag rfl;have h':MX O2 (w2.setCell ⟨yb,0,none⟩ (nI (many:Nat))) (T+1) yb #[nI (many:Nat)] 3:=d8.set 0 _;have g5:=(d'.U b9 zo zo).U b8 zo zo;have j4:=j5.U b8;have b6:=j1.U b8 zo;have f3:=((i4.U d6 zo zo).U b9 zo zo).U b8 zo zo;have g0:Lr (λq=>(1<=q/\q<=4\/q=10+b)\/T<=q) O w O2 (w2.setCell ⟨yb,0,none⟩ (nI (many:Nat))):=((d6.mono (λ_ h=>.inr zo) zo).J (b9.mono (λ_ h=>.inr zo) zo)).J (b8.mono (λ_ h=>.inr zo) zo);generalize w2.setCell ⟨yb,0,none⟩ (nI (many:Nat))=w3 at *;have x3:w3.cell? ⟨xb,0,none⟩=some (nP sb):=g5.cell 0 rfl;have c3:w3.cell? (nA sb 6)=some (nI (many:Nat)):=b6.blk.cell 6 rfl;refine zh ?_;apply aj (j:=6) b6.blk rfl (Ls _) rfl rfl rfl rfl
 have a':Lr (λj=>j=1) O2 w3 O2 (w3.setCell ⟨sb,6,none⟩ (nI ((many:Int)+1))):=MV zd b6.blk.tag rfl;have h0:MX O2 (w3.setCell ⟨sb,6,none⟩ (nI ((many:Int)+1))) 1 sb #[nv,tv,fv,bv,.map (some sr),.map (some tr),nI ((many:Int)+1)] 217:=b6.blk.set 6 _;have g4:=g5.U a' zo zo;have g2:=h'.U a' zo zo;have j3:=j4.U a';have d0:=b6.row.U a' zd zo;have e5:=b6.st.map.U a' zd zo;have e2:=b6.todo.U a' zd zo;have a9:=f3.U a' zo zo;have e7:=(((d1.U d6 zo zo).U b9 zo zo).U b8 zo zo).U a' zo zo;have f':=g0.J (a'.mono (λ_ h=>.inl (.inl zo)) zo);generalize w3.setCell ⟨sb,6,none⟩ (nI ((many:Int)+1))=w4 at *;have j':=a9.sl.len_le;have j8:=a9.sl;refine zh ?_;apply zlp (λz:Nat×ka=>[(1,nI (b:Nat)),(2,ov),(3,nP xb),(6,nP yb),(22,ov),(23,nI L.length),(24,nI z.1)]) (λz=>z.2) (λz=>z.1<=L.length/\Lr (λq=>q=2) O2 w4 O2 z.2/\My aL 3 1 O2 z.2 2 bv (de bl many (L.take z.1))) (λz=>L.length-z.1) (0,w4) ⟨Li _,N6 zd _ _,d0⟩;rintro⟨j,w5⟩ ⟨hj,b0,a1⟩;dsimp only at hj b0 a1 ⊢;have e':=a9.U b0 zo zo;have i1:=g4.U b0 zo zo;have h9:=g2.U b0 zo zo;have g':=h0.U b0 zo zo;have x5:w5.cell? ⟨xb,0,none⟩=some (nP sb):=i1.cell 0 rfl;have y5:w5.cell? ⟨yb,0,none⟩=some (nI (many:Nat)):=h9.cell 0 rfl;refine zh ?_;refine zC ?_ ?_
 ·intro a6;replace a6:j<L.length:=dT a6;have i2:=e'.sl;have m1:w5.cell? (adr ov 1 j)=some (nI ((nth L j:Nat):Int)):=by have:=i2.cell (i:=j) (j:=0) a6 rfl;rwa[ar]at this
  have c5:w5.cell? (nA sb 3)=some bv:=g'.cell 3 rfl;obtain⟨i,hi⟩:∃i,i=nth L j:=⟨_,rfl⟩
  have g7:i<(de bl many (L.take j)).length:=by rw[jP,hi];exact hL _ (aJ a6)
  rw[<-hi]at m1;refine zh ?_;apply Pf 7 rfl rfl zk zk;refine zh ?_;apply zw (ai a1.sl.sh Lj (Ls _) rfl rfl i rfl g7);apply dX;apply N7 a1.drew i g7 many (Ls _) rfl zd rfl rfl rfl rfl;intro w6 a0 d5;refine zh ?_;refine zxd (j+1,w6) ⟨a6,b0.drew.J d5,by dsimp only;rw[yo a6,<-hi];exact a0⟩
 intro i7;obtain rfl:j=L.length:=dF i7;rw[M8]at a1;have c5:w5.cell? (nA sb 4)=some (.map (some sr)):=g'.cell 4 rfl;have b2:=e5.U b0 zd zd;refine zh ?_;apply Pf 6 rfl rfl zk zk;refine zh ?_;apply dX;apply Mt (O:=O2) (i:=3) (⟨b2.blk,b2.tag,b2.born⟩:MN (λk:Int=>nI k) (λv:ix=>v) O2 w5.drew 3 sr (E.map vQ)) LN rX zd (many:Int) ov rfl rfl rfl rfl rfl;intro w6 a8 f7;have d5:Lr (λq=>q=3) O2 w5 O2 w6:=f7.ofDrew;have a3:Lr (λq=>q=2\/q=3) O2 w4 O2 w6:=(b0.mono (λ_ h=>.inl h) zd).J (d5.mono (λ_ h=>.inr h) zd);have e9:=a9.U a3 zo zo;have d2:=g4.U a3 zo zo;have d7:=g2.U a3 zo zo;have d3:=h0.U a3 zo zo;have a0:=a1.U d5 zd zd;have e6:=e7.U a3 zo zo;have e1:=e2.U a3 zd zd;have h4:=j3.U a3;have x6:w6.cell? ⟨xb,0,none⟩=some (nP sb):=d2.cell 0 rfl;have y6:w6.cell? ⟨yb,0,none⟩=some (nI (many:Nat)):=d7.cell 0 rfl;have c6:w6.cell? (nA sb 4)=some (.map (some sr)):=d3.cell 4 rfl;have b5:=jP many L bl;obtain⟨b7,i9⟩:∃b7,b7=de bl many L:=⟨_,rfl⟩
 rw[<-i9]at a0 b5 ⊢;refine zh ?_;apply aN (λW=>W.cell? ⟨xb,0,none⟩=some (nP sb)/\W.cell? (nA sb 4)=some (.map (some sr))) 14 rfl zk;refine zin ⟨x6,c6⟩ λzS=>?_
 apply zt 0 rfl zS (λw1 b1=>RV.ld b1.1 rfl);apply zr 1 rfl zS (λ_=>ak rfl)
 apply zrf 2 rfl zS rfl;apply zt 3 rfl zS (λw1 b1=>RV.ld b1.2 rfl)
 apply zrm 4 rfl zS rfl;apply zt 5 rfl zS (λw1 b1=>RV.ld b1.1 rfl)
 apply zr 6 rfl zS (λ_=>ak rfl);apply zrf 7 rfl zS rfl
 apply zt 8 rfl zS (λw1 b1=>RV.ld b1.2 rfl);apply zrm 9 rfl zS rfl
 apply zr 11 rfl zS (λ_=>eZ rfl rfl);apply Lo 10 zk rfl
 refine zvH (MT (O:=O2) (i:=3) (⟨a8.blk,a8.tag,a8.born⟩:MN (λk:Int=>nI k) (λv:ix=>v) O2 w6.drew 3 sr (dc (E.map vQ) (many:Int) ov)) LN rX (N2 _) (b:Int) rfl rfl rfl ((congrArg (JK (λv:ix=>v) nS) ((bn (E.map vQ) (many:Int) (b:Int) ov).J (am zo))).J (nU E _))) ?_;apply ae ⟨x6,c6⟩
 apply Lo 12 zk rfl;apply zc call157 (qV call158 #[nP xb,nP yb] B O2 w6.drew (10+b) (FJ E (b:Nat)) (eh E (b:Nat)) (λx=>nth b7 x==many) zo h4.drew e6.drew (λx hx O' W u=>vJ W xb yb sb x (nth b7 x) many b7.length bv a0.sl.sh (by rw[b5];exact g8 x hx) ((d2.drew.U u zo zo).cell 0 rfl) ((d3.drew.U u zo zo).cell 3 rfl) (by have:=(a0.drew.U u zd zo).sl.cell (i:=x) (j:=0) (by rw[b5];exact g8 x hx) rfl;rwa[ar]at this) ((d7.drew.U u zo zo).cell 0 rfl)))
 rintro v7 w7 ⟨b4,f6⟩;have d4:Lr (λq=>q=10+b) O2 w6 O2 w7:=f6.ofDrew;have e4:=a8.U d4 zd zo;have x7:w7.cell? ⟨xb,0,none⟩=some (nP sb):=(d2.U d4 zo zo).cell 0 rfl;have c7:w7.cell? (nA sb 4)=some (.map (some sr)):=(d3.U d4 zo zo).cell 4 rfl;refine zh ?_;apply ae ⟨x7,c7⟩;apply Lo 13 zk rfl;apply Mt e4 LN rX zd (b:Int) v7 rfl rfl rfl rfl rfl;intro w8 e3 h2;have a2:Lr (λq=>q=10+b\/q=3) O2 w6 O2 w8:=(d4.mono (λ_ h=>.inl h) zo).J (h2.mono (λ_ h=>.inr h) zo);have e8:=e9.U a2 zo zo;have g3:=d2.U a2 zo zo;have h8:=d7.U a2 zo zo;have g9:=d3.U a2 zo zo;have c':=a0.U a2 zd zo;have e0:=e1.U a2 zd zo;have a4:=b4.U h2 zo zo;refine zh ?_;apply ae ⟨g3.cell 0 rfl,g9.cell 4 rfl⟩;have f9:=(f'.J (a3.mono (S':=λq=>(1<=q/\q<=4\/q=10+b)\/T<=q) (λ_ h=>.inl zo) zo)).J (a2.mono (λ_ h=>.inl zo) zo);obtain⟨lt,a6⟩:∃lt,lt=decide ((iO (λx=>nth b7 x==many) (eh E (b:Nat))).length<L.length):=⟨_,rfl⟩
 rw[<-a6];obtain⟨kp,i5⟩:∃kp,kp=iO (λx=>nth b7 x==many) (eh E (b:Nat)):=⟨_,rfl⟩
 rw[<-i5]at a4 a6 ⊢;apply MJ zk;refine zh ?_;apply zlp (λz:Nat×ka=>[(1,nI (b:Nat)),(2,ov),(3,nP xb),(6,nP yb),(55,nI z.1)]) (λz=>z.2) (λz=>z.1<=37/\Lr (λq=>q=4) O2 w8 O2 z.2/\MN eP LL O2 z.2 4 tr (tdL td b many lt z.1)) (λz=>37-z.1) (0,w8) ⟨Li _,N6 zd _ _,e0⟩;rintro⟨m,w9⟩ ⟨hm,a5,a7⟩;dsimp only at hm a5 a7 ⊢;have i3:=(e8.U a5 zo zo).sl;have i0:=g3.U a5 zo zo;have h7:=h8.U a5 zo zo;have f5:=g9.U a5 zo zo;have c8:=e3.U a5 zd zo;have b3:=(a4.U a5 zo zo).sl;refine zh ?_;refine zC ?_ ?_
 ·intro f4;replace f4:m<37:=dT f4;have x9:w9.cell? ⟨xb,0,none⟩=some (nP sb):=i0.cell 0 rfl;have y9:w9.cell? ⟨yb,0,none⟩=some (nI (many:Nat)):=h7.cell 0 rfl;have c9:w9.cell? (nA sb 4)=some (.map (some sr)):=f5.cell 4 rfl;have d9:w9.cell? (nA sb 5)=some (.map (some tr)):=f5.cell 5 rfl;refine zh ?_;apply zv (MT c8 LN rX (N2 _) (b:Int) rfl rfl rfl (congrArg (JK (λv:ix=>v) nS) ((bn _ (b:Int) (b:Int) v7).J (ap rfl))));refine zvH (aM b3.sh Lj rfl) ?_;refine eI (λz:Int=>[(1,nI (b:Nat)),(2,ov),(3,nP xb),(6,nP yb),(55,nI (m:Nat)),(9,nI (m:Nat)),(10,nI z)]) (λz:Int=>w9) (λz:Int=>z=if lt=true then(b:Int)else(many:Int)) ?_ ?_
  ·intro Qm hN;refine zC ?_ ?_
   ·intro h1;refine zh ?_;exact PB (hN ((b:Int)) (by rw[ap (by rw[a6];have:=of_decide_eq_true h1;exact decide_eq_true zo)])) ⟨rfl,rfl,rfl,rfl,rfl,rfl,rfl,trivial⟩ rfl
   intro h1;refine zh ?_;exact PB (hN ((many:Int)) (by rw[am (by rw[a6];have:=of_decide_eq_false h1;simp;omega)])) ⟨rfl,rfl,rfl,rfl,rfl,rfl,rfl,trivial⟩ rfl
  rintro z hz;refine zh ?_;apply zv (eJ MS (Ls _) (MO _) rfl rfl);refine zvH (MT a7 Ni K6 (zeroValue4 _) ((b:Int),(m:Int)) rfl rfl rfl (Fm _ _)) ?_;refine eI (λy:Int=>[(1,nI (b:Nat)),(2,ov),(3,nP xb),(6,nP yb),(55,nI (m:Nat)),(9,nI (m:Nat)),(10,nI y)]) (λy:Int=>w9) (λy:Int=>y=if(bC (tdL td b many lt m) ((b:Int),(m:Int))).getD false=true then(many:Int)else z) ?_ ?_
  ·intro Qm hN;refine zC ?_ ?_
   ·intro h1;refine zh ?_;exact PB (hN ((many:Int)) (by rw[ap h1])) ⟨rfl,rfl,rfl,rfl,rfl,rfl,rfl,trivial⟩ rfl
   intro h1;refine zh ?_;exact PB (hN z (by rw[am (by rw[h1];decide)])) ⟨rfl,rfl,rfl,rfl,rfl,rfl,rfl,trivial⟩ rfl
  rintro y hy;refine zh ?_;apply zv (eJ MS (Ls _) (MO _) rfl rfl);apply Mt a7 Ni K6 zd (y,(m:Int)) true rfl rfl rfl rfl rfl;intro h6 b' f8;refine zh ?_;refine zxd (m+1,h6) ⟨f4,a5.J f8,by dsimp only;unfold tdL;rw[<-hz,<-hy];exact b'⟩
 intro i6;obtain rfl:m=37:=dF i6;refine zh ?_;have j2:=((h4.U a2).U a5).lowT T;refine aP rfl ⟨v7,lowT O2 T,(f9.J (a5.mono (λ_ h=>.inl zo) zo)).lowT hT (λb h=>by have:=hT b;omega) zo,j2,f5.lowT zo,(c'.U a5 zd zd).lowT zo,c8.lowT zo,(a4.U a5 zo zo).lowT zo,a7.lowT zo⟩
structure FI(tl:Nat->Nat)(n i:Nat)(D:List (Int×Int))(bl:List Nat)(E:List KVR)(many:Nat):Prop where
 blen:bl.length=n
 val:∀j,j<i->bC D ((tl j:Nat):Int)=some ((nth bl j:Nat):Int)
 inj:∀u u' b,bC D u=some b->bC D u'=some b->u=u'
 rng:∀u b,bC D u=some b->∃k:Nat,b=(k:Int)/\k<many
 keys:KeysE E many
 row:∀k:Nat,eh E (k:Int)=(LK i).filter λx=>nth bl x==k
 ne:∀k,k<many->eh E (k:Int)≠[]
 mi:many<=i
def G5(tl:Nat->Nat)(n:Nat):FI tl n 0 [] (Ly n 0) [] 0:=
 ⟨by simp,λj hj=>absurd hj (ln j),λu u' b h=>absurd h (by simp[bC]),λu b h=>absurd h (by simp[bC]),rfl,λk=>rfl,λk hk=>absurd hk (ln k),Ll _⟩
def FI.rowsN{E:List KVR}(h:FI tl n i D bl E many)(k:Nat):(eh E (k:Int)).length<=i:=by
 rw[h.row];exact Nx (NR _ _) (by simp)
def sm(hi:i<bl.length):(LK (i+1)).filter (λx=>nth (bl.set i b) x==k)=(LK i).filter (λx=>nth bl x==k)++if b=k then [i]else []:=by
 rw[Nk,N5];have h1:(LK i).filter (λx=>nth (bl.set i b) x==k)=(LK i).filter (λx=>nth bl x==k):=P9 λx hx=>by
  have:=Mq.1 hx;rw[bm hi,am zo]
 rw[h1];congr 1;rw[NC,bm hi,ap rfl]
 by_cases e:b=k
 ·subst e;simp
 rw[am e,am (by simpa using e)];rfl
def FI.old{E:List KVR}(h:FI tl n i D bl E many)(hi:i<n){b:Int}(hb:bC D ((tl i:Nat):Int)=some b)(v:ix):
  ∃k:Nat,b=(k:Int)/\k<many/\FI tl n (i+1) D (bl.set i k) (dc E (k:Int) (v,eh E (k:Int)++[i])) many:=by
 obtain⟨k,rfl,hk⟩:=h.rng _ _ hb;have a0:=h.blen;refine⟨k,rfl,hk,by rw[Lq];exact a0,λj hj=>?_,h.inj,h.rng,h.keys.same hk _,λc=>?_,λc hc=>?_,by have:=h.mi;omega⟩
 ·rw[bm zo]
  by_cases e:j=i
  ·rw[ap e,e];exact hb
  rw[am e];exact h.val j zo
 ·rw[eK,sm zo]
  by_cases e:k=c
  ·subst e;rw[ap rfl,ap rfl,h.row]
  rw[am zo,am e,M5,h.row]
 rw[eK]
 split
 ·simp
 exact h.ne c hc
def FI.new{E:List KVR}(h:FI tl n i D bl E many)(hi:i<n)(hb:bC D ((tl i:Nat):Int)=none)(v:ix):
  FI tl n (i+1) (dc D ((tl i:Nat):Int) (many:Int)) (bl.set i many) (dc E (many:Int) (v,eh E (many:Int)++[i])) (many+1):=by
 have a1:=h.blen;have a0:∀u b,bC D u=some b->b<many:=λu b hu=>by
  obtain⟨k,rfl,hk⟩:=h.rng u b hu;omega
 refine⟨by rw[Lq];exact a1,λj hj=>?_,λu u' b h1 h2=>?_,λu b h1=>?_,h.keys.more _,λc=>?_,λc hc=>?_,by have:=h.mi;omega⟩
 ·rw[bn,bm zo]
  by_cases e:j=i
  ·rw[ap (by rw[e]),ap e]
  rw[am e];have:=h.val j zo;rw[am (λe2=>by rw[<-e2,hb]at this;cases this)];exact this
 ·rw[bn]at h1 h2
  split at h1
  ·split at h2
   ·rename_i e1 e2;rw[<-e1,<-e2]
   cases h1
   have:=a0 _ _ h2;omega
  split at h2
  ·cases h2
   have:=a0 _ _ h1;omega
  exact h.inj u u' b h1 h2
 ·rw[bn]at h1
  split at h1
  ·cases h1;exact⟨many,rfl,zo⟩
  obtain⟨k,e,hk⟩:=h.rng u b h1;exact⟨k,e,zo⟩
 ·rw[eK,sm zo]
  by_cases e:many=c
  ·subst e;rw[ap rfl,ap rfl,h.row]
  rw[am zo,am e,M5,h.row]
 rw[eK]
 split
 ·simp
 exact h.ne c zo
def FI.blk{E:List KVR}(h:FI tl n n D bl E many)(nx:Nat->Nat->Nat):Blk nx tl n bl (λk=>eh E (k:Int)) many:=by
 refine⟨h.blen,λi hi=>?_,λb _ x=>?_,λb _=>?_,λb hb=>h.ne b hb,λp q hp hq e=>?_,λp q hp hq ha=>?_⟩
 ·obtain⟨k,e,hk⟩:=h.rng _ _ (h.val i hi);omega
 ·rw[h.row,MQ,Mq];simp
 ·rw[h.row];exact NB.sublist N0
 ·have:=h.inj _ _ _ (h.val p hp) (by rw[e];exact h.val q hq);omega
 have e:tl p=tl q:=ha [] λm hm=>absurd hm (by simp)
 have h1:=h.val p hp;rw[e,h.val q hq]at h1;have:=PD h1;omega
structure TdI(td:List ((Int×Int)×Bool))(many b m:Nat):Prop where
 rng:tdR td many
 all:∀c j,c<b\/c=b/\j<m->j<37->tdP td c j
 len:td.length<=b*37+m
def Fx(many:Nat):TdI [] many 0 0:=⟨λe he=>absurd he (by simp),λc j h _=>zo,Ll _⟩
def TdI.put(h:TdI td many b m)(hb:b<many)(hm:m<37):TdI (dc td ((b:Int),(m:Int)) true) many b (m+1):=by
 refine⟨λe he=>?_,λc j hc hj=>?_,?_⟩
 ·rcases ue _ _ _ _ he with he|he
  ·exact h.rng e he
  exact⟨b,m,hb,hm,by rw[he]⟩
 ·unfold tdP;rw[bn]
  split
  ·rfl
  rename_i hne;refine h.all c j ?_ hj
  rcases hc with hc|⟨rfl,hc⟩
  ·exact .inl hc
  exact .inr ⟨rfl,by
   have:¬j=m:=λe=>hne (by rw[e])
   omega⟩
 have:=uf ((b:Int),(m:Int)) true td;have:=h.len;omega
def TdI.next(h:TdI td many b 37):TdI td many (b+1) 0:=⟨h.rng,λc j hc hj=>h.all c j zo hj,by have:=h.len;omega⟩
structure BO(nx:Nat->Nat->Nat)(tl:Nat->Nat)(n:Nat)(bl:List Nat)(E:List KVR)(td:List ((Int×Int)×Bool))(many:Nat):Prop where
 blk:Blk nx tl n bl (λk=>eh E (k:Int)) many
 keys:KeysE E many
 tdr:tdR td many
 todo:Todo nx n bl (tdP td)
structure BI(nx:Nat->Nat->Nat)(tl:Nat->Nat)(n:Nat)(bl0:List Nat)(m0 b0 many0:Nat)(left:List (Int×ix))(bl:List Nat)(E:List KVR)(td:List ((Int×Int)×Bool))(many:Nat):Prop where
 blk:Blk nx tl n bl (λk=>eh E (k:Int)) many
 keys:KeysE E many
 tdr:tdR td many
 le:many0<=many
 pend:Pend nx n bl (tdP td) m0 (λp=>nth bl0 (nx p m0)=b0) (λb=>(b:Int)∈left.map (·.1))
 same:∀k:Nat,(k:Int)∈left.map (·.1)->k<many0/\∀x,x<n->(nth bl x=k↔nth bl0 x=k)
 nd:(left.map (·.1)).Nodup
def BO.take{nx:Nat->Nat->Nat}{tl:Nat->Nat}{n:Nat}{bl:List Nat}{E:List KVR}{td:List ((Int×Int)×Bool)}{many:Nat}(h:BO nx tl n bl E td many)(b0 m0:Nat)(_:m0<37)(_:∀p m,p<n->m<37->nx p m<n)(left:List (Int×ix)) 
  (hl:∀k,k∈left.map (·.1)↔∃i,i<n/\nth bl (nx i m0)=b0/\((nth bl i:Nat):Int)=k) (hn:(left.map (·.1)).Nodup):BI nx tl n bl m0 b0 many left bl E (qZ td ((b0:Int),(m0:Int))) many:=by
 refine⟨h.blk,h.keys,h.tdr.del _,Ll _,?_,fun k hk=>?_,hn⟩
 ·refine h.todo.take b0 m0 (fun b m hb=>?_) _ fun p hp e=>(hl _).2 ⟨p,hp,e,rfl⟩
  by_cases e:b=b0/\m=m0
  ·exact .inr e
  refine .inl ?_;unfold tdP;rw[sH (fun e2=>e ?_)]
  ·exact hb
  have:=Nv e2;omega
 obtain⟨i,hi,_,e⟩:=(hl _).1 hk;have:=h.blk.lt i hi;exact⟨zo,fun x _=>Iff.rfl⟩
def tz{a1 a0:List (Int×ix)}{k:Int}(hn:((a1++(k,v)::a0).map (·.1)).Nodup):((a1++a0).map (·.1)).Nodup/\k∉(a1++a0).map (·.1)/\∀b,b∈(a1++(k,v)::a0).map (·.1)->b=k\/b∈(a1++a0).map (·.1):=by
 simp only[ME,M4]at hn ⊢;have hp:=(List.perm_middle (a:=k) (l₁:=a1.map (·.1)) (l₂:=a0.map (·.1)))
 have h2:=hp.nodup_iff.1 hn;obtain⟨h3,h4⟩:=NG.1 h2;exact⟨h4,h3,λb hb=>Lp.1 (hp.mem_iff.1 hb)⟩
section
variable{nx:Nat→Nat→Nat}{tl:Nat→Nat}{n:Nat}{bl0:List Nat}{m0 b0 many0:Nat}{pre suf:List (Int×ix)}{k:Nat}{v:ix}{bl:List Nat}{E:List KVR}{td:List ((Int×Int)×Bool)}{many:Nat}{L:List Nat}
def BI.here(h:BI nx tl n bl0 m0 b0 many0 (pre++((k:Int),v)::suf) bl E td many)(hL:∀x,x∈L↔x<n/\nth bl0 x=k/\nth bl0 (nx x m0)=b0):k<many/\∀x,x∈L↔x<n/\nth bl x=k/\nth bl0 (nx x m0)=b0:=by
 obtain⟨h1,h2⟩:=h.same k (by simp);refine⟨by have:=h.le;omega,λx=>?_⟩;rw[hL]
 constructor
 ·rintro⟨a,b,c⟩;exact⟨a,(h2 x a).2 b,c⟩
 rintro⟨a,b,c⟩;exact⟨a,(h2 x a).1 b,c⟩
def BI.skip(h:BI nx tl n bl0 m0 b0 many0 (pre++((k:Int),v)::suf) bl E td many)(hL:∀x,x∈L↔x<n/\nth bl0 x=k/\nth bl0 (nx x m0)=b0)(a4:L.Nodup)(a5:(eh E (k:Int)).length<=L.length):BI nx tl n bl0 m0 b0 many0 (pre++suf) bl E td many:=by
 obtain⟨hk,a1⟩:=h.here hL;obtain⟨r1,r2,r3⟩:=tz h.nd;refine⟨h.blk,h.keys,h.tdr,h.le,?_,λc hc=>h.same c ?_,r1⟩
 ·refine h.pend.whole (k:=k) (λp hp e=>?_) λb hb=>?_
  ·refine LD λhn=>?_
   have a2:p∉L:=λhx=>hn ((a1 p).1 hx).2.2
   have a3:(p::L).Nodup:=NG.2 ⟨a2,a4⟩;have a0:(p::L) ⊆ eh E (k:Int):=λx hx=>by
    rcases Lp.1 hx with rfl|hx
    ·exact(h.blk.mem k hk _).2 ⟨hp,e⟩
    exact(h.blk.mem k hk x).2 ⟨((a1 x).1 hx).1,((a1 x).1 hx).2.1⟩
   have:=a3.length_le_of_subset a0;simp only[MB]at this;omega
  rcases r3 _ hb with h1|h1
  ·exact .inl zo
  exact .inr h1
 simp only[ME,M4,Lz,Lp]at hc ⊢
 rcases hc with hc|hc
 ·exact .inl hc
 exact .inr (.inr hc)
def BI.cut(h:BI nx tl n bl0 m0 b0 many0 (pre++((k:Int),v)::suf) bl E td many)(a3:∀p m,p<n->m<37->nx p m<n)(h0:∀p q,p<n->q<n->Alike nx tl p q->nth bl0 p=nth bl0 q)(a4:m0<37) 
  (hL:∀x,x∈L↔x<n/\nth bl0 x=k/\nth bl0 (nx x m0)=b0) (a8:L.Nodup) (a6:L≠[]) (a7:L.length<(eh E (k:Int)).length) (ov v':ix) (lt:Bool) :
  BI nx tl n bl0 m0 b0 many0 (pre++suf) (de bl many L) (dc (dc E (many:Int) (ov,L)) (k:Int) (v',iO (λx=>nth (de bl many L) x==many) (eh E (k:Int)))) (tdL td k many lt 37) (many+1):=by
 obtain⟨hk,a1⟩:=h.here hL;obtain⟨r1,r2,r3⟩:=tz h.nd;have hc:=KK (L:=L) (ov:=ov) (v':=v') hk h.blk.len (h.blk.mem k hk);refine⟨?_,?_,Cl h.tdr hk 37 (Ll _),by have:=h.le;omega,?_,λc a0=>?_,r1⟩
 ·refine h.blk.cut hc hk (λx hx=>⟨((a1 x).1 hx).1,((a1 x).1 hx).2.1⟩) a8 a6 a7 λp q hp hq ha a5=>?_
  obtain⟨_,e1,e2⟩:=(hL p).1 a5;refine(hL q).2 ⟨hq,by rw[<-h0 p q hp hq ha];exact e1,?_⟩;rw[<-h0 (nx p m0) (nx q m0) (a3 p m0 hp a4) (a3 q m0 hq a4) (ha.step a4)];exact e2
 ·exact(h.keys.more _).same zo _
 ·refine Pend.cut h.blk h.pend hc hk a3 a1 (λb m hb=>zR hb 37) (λm hm hb=>zQ hb 37 hm) (λm hm=>G9 37 hm) λb hb=>?_
  rcases r3 _ hb with h1|h1
  ·exact .inl zo
  exact .inr h1
 have a9:c≠k:=λe=>r2 (by rw[<-e];exact a0)
 obtain⟨h1,h2⟩:=h.same c (by
  simp only[ME,M4,Lz,Lp]at a0 ⊢
  rcases a0 with a0|a0
  ·exact .inl a0
  exact .inr (.inr a0))
 refine⟨h1,λx hx=>?_⟩;rw[<-h2 x hx,hc.bl x hx];have:=h.le
 by_cases a2:x∈L
 ·rw[ap a2];have:=((a1 x).1 a2).2.1
  constructor<;>omega
 rw[am a2]
end
def BI.done{nx:Nat->Nat->Nat}{tl:Nat->Nat}{n:Nat}{a1:List Nat}{m0 b0 a0:Nat}{bl:List Nat}{E:List KVR}{td:List ((Int×Int)×Bool)}{many:Nat}(h:BI nx tl n a1 m0 b0 a0 [] bl E td many):BO nx tl n bl E td many:=
 ⟨h.blk,h.keys,h.tdr,h.pend.done λb hb=>absurd hb (by simp)⟩
def BO.final{nx:Nat->Nat->Nat}{tl:Nat->Nat}{n:Nat}{bl:List Nat}{E:List KVR}{many:Nat}(h:BO nx tl n bl E [] many)(a0:∀p m,p<n->m<37->nx p m<n)(p q:Nat)(hp:p<n)(hq:q<n):nth bl p=nth bl q↔Alike nx tl p q:=by
 refine h.blk.final (λp q m a b c d e=>?_) a0 p q hp hq
 rcases h.todo p q m a b c d e with h1|h1<;>cases h1
def FI.bo{nx:Nat->Nat->Nat}{E:List KVR}(h:FI tl n n D bl E many)(ht:TdI td many many 0)(a0:∀p m,p<n->m<37->nx p m<n):BO nx tl n bl E td many:=by
 have hb:=h.blk nx;exact⟨hb,h.keys,ht.rng,λp q m hp hq hm e a1=>.inl (ht.all _ m (.inl (hb.lt _ (a0 p m hp hm))) hm)⟩
def LA:KeyL Mw 28 (λn:Int=>Value.int .u64 n):=KeyL.int underlying28
def yN(B:Nat)(O:Nat->Nat)(w:ka)(sb:Nat)(nv tv bv:ix)(sr tr:Nat)(a0:List Nat)(hR:Ng B O w)(hB:MX O w 1 sb #[nv,tv,nS,bv,.map (some sr),.map (some tr),nI 0] 217) 
  (e6:My aL 3 1 O w 2 bv (Ly a0.length 0)) (g':MpR 10 3 O w sr []) (g9:MN eP LL O w 4 tr []) (g2:Sl fq 1 w tv a0) (e':Nm O w tv) (hn:a0.length<=1000) (_:∀q,O q<2000) :
  NA Mw 130 [nP sb] w λ_ w'=>
   ∃O' D bl E many td,Lr (λq=>1<=q/\q<=4\/10<=q) O w O' w'/\Ng B O' w'/\MX O' w' 1 sb #[nv,tv,nS,bv,.map (some sr),.map (some tr),nI ((many:Nat):Int)] 217/\
    My aL 3 1 O' w' 2 bv bl/\MpR 10 3 O' w' sr E/\MN eP LL O' w' 4 tr td/\FI (nth a0) a0.length a0.length D bl E many/\TdI td many many 0:=by
 apply Ln func130 ntmps130 rfl rfl;refine zh ?_
 apply bx (λk:Int=>.int .u64 k) (λv:Int=>nI v) hR 2000 zd rfl;intro r w1 O1 i2 c9 h';have g6:=hB.U c9 zd zd;have c1:w1.cell? ((nA sb 0).add 1)=some tv:=g6.cell 1 rfl;have g8:=g2.U e' c9;have h5:=e'.U c9;refine zh ?_
 apply zlp (λz:Nat×(Nat->Nat)×World×List (Int×Int)×List Nat×List KVR×Nat=>[(0,nP sb),(2,.map (some r)),(14,tv),(15,nI a0.length),(16,nI z.1)]) (λz=>z.2.2.1) (λz=>z.1<=a0.length/\Lr (λq=>1<=q/\q<=3\/10<=q) O w z.2.1 z.2.2.1/\Ng B z.2.1 z.2.2.1/\MX z.2.1 z.2.2.1 1 sb #[nv,tv,nS,bv,.map (some sr),.map (some tr),nI ((z.2.2.2.2.2.2:Nat):Int)] 217/\My aL 3 1 z.2.1 z.2.2.1 2 bv z.2.2.2.2.1/\MpR 10 3 z.2.1 z.2.2.1 sr z.2.2.2.2.2.1/\MN (λk:Int=>.int .u64 k) (λv:Int=>nI v) z.2.1 z.2.2.1 2000 r z.2.2.2.1/\FI (nth a0) a0.length z.1 z.2.2.2.1 z.2.2.2.2.1 z.2.2.2.2.2.1 z.2.2.2.2.2.2) (λz=>a0.length-z.1) (0,O1,w1,[],Ly a0.length 0,[],0) ⟨Li _,c9.mono (λ_ h=>zo) zd,h',g6,e6.U c9 zd zd,⟨g'.map.U c9 zd zd,λk hk=>absurd hk (ln k)⟩,i2,G5 _ _⟩;rintro⟨i,O2,w2,D,bl,E,many⟩ ⟨hi,c8,d9,b3,a1,a8,d3,hF⟩;dsimp only at hi c8 d9 b3 a1 a8 d3 hF ⊢;have e1:=g2.U e' c8;have i4:=hF.blen;have g4:many<=i:=hF.mi;refine zh ?_
 refine zC ?_ ?_
 ·intro a3;replace a3:i<a0.length:=dT a3;have m1:w2.cell? (adr tv 1 i)=some (.int .u64 ((nth a0 i:Nat):Int)):=by have:=e1.cell (i:=i) (j:=0) a3 rfl;rwa[ar]at this
  have g3:=hF.rowsN;refine zh ?_
  cases d0:bC D ((nth a0 i:Nat):Int)with
  |some b=>
   have e8:=hF.old a3 d0;obtain⟨k,rfl,hk,_⟩:=hF.old a3 d0 nS;have f9:∀v,FI (nth a0) a0.length (i+1) D (bl.set i k) (dc E (k:Int) (v,eh E (k:Int)++[i])) many:=λv=>by
    obtain⟨k',e,_,h⟩:=e8 v;obtain rfl:k=k':=zo;exact h
   have h1:=g3 k;have h0:=zT E (k:Int);have h6:=hF.keys.len;refine zvH (dm (u:=.tuple #[nI (k:Int),.bool true]) d3 NT LA (MC _) ((nth a0 i:Nat):Int) rfl rfl rfl (by rw[d0];rfl)) ?_;apply bh rfl rfl;have e0:=PL a1;have i3:Po w2 (nA sb 3)=some bv:=PE b3 3 rfl;refine zh ?_;apply N7 a1 i zo (k:Nat) (Ls _) rfl zd rfl rfl rfl rfl;intro wa a' b0;have d7:=PJ b3 b0 zd zd;have b8:=MpR.U a8 b0 zd zd zd (λ_=>zo);have f6:=PQ d9 b0;have c7:=PI d3 b0 zd zd;refine zh ?_;have d1:wa.drew.cell? (nA sb 4)=some (.map (some sr)):=d7.cell 4 rfl;have a5:Lr (λ_=>False) O2 wa O2 wa.drew:=aa (λh=>h) O2 (Lu wa).drew;have d2:=b8.U a5 zd zd (λh=>h) (λ_ h=>h);apply aN (λW=>W.cell? (nA sb 4)=some (.map (some sr))) 15 rfl zk;apply zrm 0 rfl d1 rfl;apply zr 1 rfl d1 (λ_=>ak rfl);apply zrf 2 rfl d1 rfl;apply zt 3 rfl d1 (λw1 b4=>RV.ld b4 rfl);apply zrm 4 rfl d1 rfl;apply zrm 5 rfl d1 rfl;apply zr 6 rfl d1 (λ_=>ak rfl);apply zrf 7 rfl d1 rfl;apply zt 8 rfl d1 (λw1 b4=>RV.ld b4 rfl);apply zrm 9 rfl d1 rfl;apply zrm 11 rfl d1 rfl
   apply jH 10 12 gE (enc:=aL) i rfl rfl zk zk zk zk (λW hE=>MT (d2.U (aa (S:=λ_=>False) (λh=>h) O2 hE) zd zd (λh=>h) (λ_ h=>h)).map LN rX (N2 _) ((k:Nat):Int) rfl rfl rfl (nU E _)) (λW hE=>hE.cell d1) rfl rfl rfl zd rfl rfl rfl rfl rfl;intro g7 wb b7 f';have a4:Lr (λ_=>False) O2 wa.drew O2 wb:=aa (λh=>h) O2 f';have b':=d2.U a4 zd zd (λh=>h) (λ_ h=>h);apply Lo 13 zk rfl
   apply aC gE (b'.at ((k:Nat):Int)) ((f6.U a5).U a4) b7 (by simp) rfl rfl (by simp) (by simp[Lk]) (by rw[Lm];omega) (by rw[Lm];omega) zo rfl;intro vc wc Oc e7 a7 f5;have d6:=((d7.U a5 zd (λh=>h)).U a4 zd (λh=>h)).U a7 zd zo;refine zh ?_
   apply ae (d6.cell 4 rfl);apply Lo 14 zk rfl
   apply Mt (b'.map.U a7 zd zo) LN rX zd ((k:Nat):Int) vc rfl rfl rfl rfl rfl;intro wd e9 a6;have d5:=d6.U a6 zd zd;have b9:=b'.put ((k:Nat):Int) zd zd a7 e7 e9 a6;refine zh ?_
   apply ae (d5.cell 4 rfl);have f3:Lr (λq=>1<=q/\q<=3\/10<=q) O2 w2 Oc wd:=((((b0.mono (λ_ h=>zo) zd).J (a5.mono (λ_ h=>h.elim) zd)).J (a4.mono (λ_ h=>h.elim) zd)).J (a7.mono (λ_ h=>zo) zd)).J (a6.mono (λ_ h=>zo) zd);have a9:=(((a'.U a5 zd (λh=>h)).U a4 zd (λh=>h)).U a7 zd zo).U a6 zd zd;have c5:=(((c7.U a5 zd (λh=>h)).U a4 zd (λh=>h)).U a7 zd zo).U a6 zd zd;apply MJ zk
   refine zh ?_;refine zxd (i+1,Oc,wd,D,bl.set i k,dc E ((k:Nat):Int) (vc,eh E ((k:Nat):Int)++[i]),many) ⟨a3,c8.J f3,f5.U a6,d5,a9,b9,c5,f9 vc⟩
  |none=>
   have f9:=hF.new a3 d0;have h1:=g3 many;have h0:=zT E (many:Int);have h6:=hF.keys.len;refine zvH (dm (u:=.tuple #[nI 0,.bool false]) d3 NT LA (MC _) ((nth a0 i:Nat):Int) rfl rfl rfl (by rw[d0];rfl)) ?_;apply bp rfl rfl;have c6:w2.cell? (nA sb 6)=some (nI (many:Nat)):=b3.cell 6 rfl;refine zh ?_;apply Mt d3 NT LA zd ((nth a0 i:Nat):Int) (many:Int) rfl rfl rfl rfl rfl;intro w3 i1 a2;have d':=b3.U a2 zd zd;have c':=a1.U a2 zd zd;have e5:MpR 10 3 O2 w3 sr E:=⟨a8.map.U a2 zd zd,λk hk=>(a8.row k hk).U a2 zo (by have:=hF.keys.len;omega)⟩
   have h9:=d9.U a2;have i5:w3.cell? (nA sb 6)=some (nI (many:Nat)):=d'.cell 6 rfl;refine zh ?_;apply aj (j:=6) d' rfl (Ls _) rfl rfl rfl rfl;have b1:Lr (λj=>j=1) O2 w3 O2 (w3.setCell ⟨sb,6,none⟩ (nI ((many:Int)+1))):=MV zd d'.tag rfl;have g5:MX O2 (w3.setCell ⟨sb,6,none⟩ (nI ((many:Int)+1))) 1 sb #[nv,tv,nS,bv,.map (some sr),.map (some tr),nI ((many+1:Nat):Int)] 217:=d'.set 6 _;have b2:=c'.U b1 zd zd;have e4:=e5.U b1 zd zd zd (λ_=>zo);have h8:=h9.U b1;have i0:=i1.U b1 zd zd;have f4:=(c8.J (a2.mono (λ_ h=>zo) zd)).J (b1.mono (λ_ h=>zo) zd);generalize w3.setCell ⟨sb,6,none⟩ (nI ((many:Int)+1))=w4 at *;have e0:=PL b2;have i3:Po w4 (nA sb 3)=some bv:=PE g5 3 rfl;refine zh ?_;apply N7 b2 i zo (many:Nat) (Ls _) rfl zd rfl rfl rfl rfl;intro wa a' b0;have d7:=PJ g5 b0 zd zd;have b8:=MpR.U e4 b0 zd zd zd (λ_=>zo);have f6:=PQ h8 b0;have c7:=PI i0 b0 zd zd;refine zh ?_;have d1:wa.drew.cell? (nA sb 4)=some (.map (some sr)):=d7.cell 4 rfl;have a5:Lr (λ_=>False) O2 wa O2 wa.drew:=aa (λh=>h) O2 (Lu wa).drew;have d2:=b8.U a5 zd zd (λh=>h) (λ_ h=>h);apply aN (λW=>W.cell? (nA sb 4)=some (.map (some sr))) 15 rfl zk;apply zrm 0 rfl d1 rfl;apply zr 1 rfl d1 (λ_=>ak rfl);apply zrf 2 rfl d1 rfl;apply zt 3 rfl d1 (λw1 b4=>RV.ld b4 rfl);apply zrm 4 rfl d1 rfl;apply zrm 5 rfl d1 rfl
   apply zr 6 rfl d1 (λ_=>ak rfl);apply zrf 7 rfl d1 rfl
   apply zt 8 rfl d1 (λw1 b4=>RV.ld b4 rfl);apply zrm 9 rfl d1 rfl
   apply zrm 11 rfl d1 rfl;apply jH 10 12 gE (enc:=aL) i rfl rfl zk zk zk zk (λW hE=>MT (d2.U (aa (S:=λ_=>False) (λh=>h) O2 hE) zd zd (λh=>h) (λ_ h=>h)).map LN rX (N2 _) ((many:Nat):Int) rfl rfl rfl (nU E _)) (λW hE=>hE.cell d1) rfl rfl rfl zd rfl rfl rfl rfl rfl
   intro g7 wb b7 f';have a4:Lr (λ_=>False) O2 wa.drew O2 wb:=aa (λh=>h) O2 f';have b':=d2.U a4 zd zd (λh=>h) (λ_ h=>h);apply Lo 13 zk rfl;apply aC gE (b'.at ((many:Nat):Int)) ((f6.U a5).U a4) b7 (by simp) rfl rfl (by simp) (by simp[Lk]) (by rw[Lm];omega) (by rw[Lm];omega) zo rfl;intro vc wc Oc e7 a7 f5;have d6:=((d7.U a5 zd (λh=>h)).U a4 zd (λh=>h)).U a7 zd zo;refine zh ?_;apply ae (d6.cell 4 rfl);apply Lo 14 zk rfl;apply Mt (b'.map.U a7 zd zo) LN rX zd ((many:Nat):Int) vc rfl rfl rfl rfl rfl;intro wd e9 a6;have d5:=d6.U a6 zd zd;have b9:=b'.put ((many:Nat):Int) zd zd a7 e7 e9 a6;refine zh ?_;apply ae (d5.cell 4 rfl);have f3:Lr (λq=>1<=q/\q<=3\/10<=q) O2 w4 Oc wd:=((((b0.mono (λ_ h=>zo) zd).J (a5.mono (λ_ h=>h.elim) zd)).J (a4.mono (λ_ h=>h.elim) zd)).J (a7.mono (λ_ h=>zo) zd)).J (a6.mono (λ_ h=>zo) zd);have a9:=(((a'.U a5 zd (λh=>h)).U a4 zd (λh=>h)).U a7 zd zo).U a6 zd zd;have c5:=(((c7.U a5 zd (λh=>h)).U a4 zd (λh=>h)).U a7 zd zo).U a6 zd zd;apply MJ zk;refine zh ?_;refine zxd (i+1,Oc,wd,(dc D ((nth a0 i:Nat):Int) (many:Int)),bl.set i many,dc E ((many:Nat):Int) (vc,eh E ((many:Nat):Int)++[i]),(many+1)) ⟨a3,f4.J f3,f5.U a6,d5,a9,b9,c5,f9 vc⟩
 intro h3;obtain rfl:i=a0.length:=dF h3;have c6:w2.cell? (nA sb 6)=some (nI (many:Nat)):=b3.cell 6 rfl;have e3:=g9.U c8 zd zo;refine zh ?_;apply zlp (λz:Nat×ka×List ((Int×Int)×Bool)=>[(0,nP sb),(68,nI (many:Nat)),(69,nI z.1)]) (λz=>z.2.1) (λz=>z.1<=many/\Lr (λq=>q=4) O2 w2 O2 z.2.1/\MN eP LL O2 z.2.1 4 tr z.2.2/\TdI z.2.2 many z.1 0) (λz=>many-z.1) (0,w2,[]) ⟨Li _,N6 zd _ _,e3,Fx _⟩;rintro⟨b,w3,g1⟩ ⟨hb,a2,b6,f8⟩;dsimp only at hb a2 b6 f8 ⊢;refine zh ?_;refine zC ?_ ?_
 ·intro a3;replace a3:b<many:=dT a3;refine zh ?_;apply zlp (λy:Nat×ka×List ((Int×Int)×Bool)=>[(0,nP sb),(68,nI (many:Nat)),(69,nI (b:Nat)),(7,nI (b:Nat)),(72,nI y.1)]) (λy=>y.2.1) (λy=>y.1<=37/\Lr (λq=>q=4) O2 w2 O2 y.2.1/\MN eP LL O2 y.2.1 4 tr y.2.2/\TdI y.2.2 many b y.1) (λy=>37-y.1) (0,w3,g1) ⟨Li _,a2,b6,f8⟩;rintro⟨m,w4,g0⟩ ⟨hm,b1,b5,f7⟩;dsimp only at hm b1 b5 f7 ⊢;refine zh ?_;refine zC ?_ ?_
  ·intro d8;replace d8:m<37:=dT d8;have d4:w4.cell? (nA sb 5)=some (.map (some tr)):=(b3.U b1 zd zd).cell 5 rfl;refine zh ?_;apply zv (eJ MS (Ls _) (MO _) rfl rfl);apply Mt b5 Ni K6 zd ((b:Int),(m:Int)) true rfl rfl rfl rfl rfl;intro w5 e2 h7;refine zh ?_;refine zxd (m+1,w5,dc g0 ((b:Int),(m:Int)) true) ⟨d8,b1.J h7,e2,f7.put a3 d8⟩
  intro h2;obtain rfl:m=37:=dF h2;refine zh ?_;refine zxd (b+1,w4,g0) ⟨a3,b1,b5,f7.next⟩
 intro h4;obtain rfl:b=many:=dF h4;refine zh ?_;refine aP rfl ⟨O2,D,bl,E,b,g1,(c8.mono (λ_ h=>zo) zd).J (a2.mono (λ_ h=>zo) zd),d9.U a2,b3.U a2 zd zd,a1.U a2 zd zd,a8.U a2 zd zd zd (λ_=>zo),b6,hF,f8⟩
end Go.Proofs.YtcfhbfflgnbacaaGreatDoor
namespace Go.VL
def qy{ops:Array NV}{a0:List NV}{st:St}{t:MZ}{p:String}{e:Array PY}{d:Nat}{x:P6} 
   {bytes:Nat} (he:Pj P T E 1 bytes) (z0:ix) (a3:(P.info? E).bind (·.zero)=some z0) (h1:z0.oneCell'=true)   (r:Ng B O w) (i:Nat) (a8:i≠0) (n:Nat) {kl kc:IntKind} {m1 m2:Int}
  (hx:ev st x=some (.int kl m1)) (hy:ev st y=some (.int kc m2)) (a7:m1=n) (a6:m2=n) (hb:bytes*n<=281474976710656) (b1:n<=9223372036854775807) (hd:Ny d N=true)
  (h:∀w' O' v,My (λx:ix=>[x]) E 1 O' w' i v (Ly n z0)->Lr (λk=>k=i) O w O' w'->Ng B O' w'->Np w w'->WL P N ops Q a0 ((d,v)::st) w') :
  WL P N ops Q (⟨some d,.makeSlice T x y,t,p,e,none⟩::a0) st w:=by
 obtain⟨a2,z,hi,hz,a5,a',b2⟩:=he.parts;have a4:z=z0:=by rw[hi]at a3;simpa[hz]using a3
 subst a4;subst a7;subst a6;have a9:z.cells = #[z]:=by cases z<;>first|rfl|simp[Lk]at h1
 have b0:(a2.bytes:Int)*(n:Int)<=281474976710656:=by
  have h:((a2.bytes*n:Nat):Int)<=281474976710656:=by rw[a'];omega
  rwa[Int.natCast_mul]at h
 have a1:=run_make (P:=P) w T E a2 _ he.ht hi hz kl kc n n zo (Pz _) b0 zo;simp only[Int.toNat_natCast,a5,Nat.mul_one,a9]at a1;have hz:¬(λk=>k=i) 0:=λh=>a8 h.symm
 have u:=PH (S:=λk=>k=i) hz r (.cells (madeCells #[z] n) E) i;refine WL.val (v:=.slice (some ⟨w.heap.size,0,none⟩) n n) hd (λa ha=>by simp only[execOp,ha.ev hx,ha.ev hy,Ps,a1,NU];rfl) (h _ _ _ ⟨⟨?_,λg hg=>?_⟩,λa _=>rfl⟩ u (r.U u) (Ext.alloc _ _))
 ·rw[NQ];have:=NZ (base:=0) (size:=1) (e:=E) w (madeCells #[z] n) n (Li _) (by simpa[maxLen]using b1) (by rw[size_madeCells];omega);rw[toList_madeCells_one]at this;have e2:(Ly n z).flatMap (λx=>[x])=Ly n z:=by
   induction n with
   |zero=>rfl
   |succ n ih=>simp only[NX,Mz];congr 1;simp[List.flatMap_replicate]
  rw[e2];exact this
 simp only[Pg,PC]at hg;subst hg;exact fJ _ _ _
def Sl.free0[Inhabited α]{f:α->List ix}{xs:List α}(h:Sl f sz w v xs)(hf:∀a,f a≠[]):Nm (λ_=>0) w v:=λa n c e hn=>by
 obtain⟨a',c',e1,_,_,e2⟩:=h.shape;subst e
 cases e1
 obtain⟨b,o,e3⟩:=e2 hn
 cases e3
 refine⟨rfl,?_⟩;have hl:0<xs.length:=Nat.pos_of_ne_zero hn
 cases hx:f xs[0]with
 |nil=>exact absurd hx (hf _)
 |cons u r=>
  have hc:=h.cells 0 hl 0 u (by rw[hx];rfl);have:=NK _ _ hc;have hb:((adr (.slice (some ⟨b,o,none⟩) xs.length c) sz 0).add 0).block=b:=by simp only[adr,Addr.add];split<;>rfl
  rwa[hb]at this
end Go.VL
namespace Go.Proofs.YtcfhbfflgnbacaaGreatDoor
def RowsF(O:Nat->Nat)(w:ka)(v:ix)(rows:List (List Nat)):Prop:=∃vs,Sl sn 1 w v vs/\Nm O w v/\vs.length=rows.length/\∀i,i<rows.length->Sl aL 1 w (nth vs i) (nth rows i)/\Nm O w (nth vs i)
def RowsF.U{S:Nat->Prop}{O O':Nat->Nat}{w w':ka}{v:ix}{rows:List (List Nat)}(h:RowsF O w v rows)(u:Lr S O w O' w'):RowsF O' w' v rows:=by
 obtain⟨vs,h1,h2,h3,h4⟩:=h;exact⟨vs,h1.U h2 u,h2.U u,h3,λi hi=>⟨(h4 i hi).1.U (h4 i hi).2 u,(h4 i hi).2.U u⟩⟩
def RowsN.free{rows:List (List Nat)}(h:RowsN w v rows):RowsF (λ_=>0) w v rows:=by
 obtain⟨vs,h1,h2,h3⟩:=h;exact⟨vs,h1,h1.free0 (λa=>by simp),h2,λi hi=>⟨h3 i hi,(h3 i hi).free0 (λa=>by simp)⟩⟩
def RowsG(B:Nat)(w:ka)(v:ix)(rows:List (List Nat)):Prop:=∃vs,Sl sn 1 w v vs/\PM B v/\vs.length=rows.length/\∀i,i<rows.length->Sl aL 1 w (nth vs i) (nth rows i)/\PM B (nth vs i)
def RowsG.rows{B:Nat}{w:ka}{v:ix}{rows:List (List Nat)}(h:RowsG B w v rows):RowsN w v rows:=by
 obtain⟨vs,h1,h2,h3,h4⟩:=h;exact⟨vs,h1,h3,λi hi=>(h4 i hi).1⟩
def RowsG.mono{B B':Nat}{w:ka}{v:ix}{rows:List (List Nat)}(h:RowsG B w v rows)(hb:B'<=B):RowsG B' w v rows:=by
 obtain⟨vs,h1,h2,h3,h4⟩:=h;exact⟨vs,h1,h2.mono hb,h3,λi hi=>⟨(h4 i hi).1,(h4 i hi).2.mono hb⟩⟩
def RowsG.ext{B:Nat}{w w':ka}{v:ix}{rows:List (List Nat)}(h:RowsG B w v rows)(e:Np w w'):RowsG B w' v rows:=by
 obtain⟨vs,h1,h2,h3,h4⟩:=h;exact⟨vs,h1.ext e,h2,h3,λi hi=>⟨(h4 i hi).1.ext e,(h4 i hi).2⟩⟩
def BJ{nx:Nat->Nat}(_:i<n):eG (i+1) nx to=eG i nx to++if nx i=to then [i]else []:=by
 unfold eG;rw[Nk,N5,NC]
 by_cases e:nx i=to
 ·rw[ap (by simpa using e),ap e];rfl
 rw[am (by simpa using e),am e];rfl
def DG(i:Nat)(nx:Nat->Nat)(to:Nat):(eG i nx to).length<=i:=by
 unfold eG;exact Nx (NR _ _) (by simp)
structure TuI(O:Nat->Nat)(W:ka)(sb:Nat)(nv tv fv bv:ix)(sr tr many n m:Nat)(nx:Nat->Nat->Nat)(ms:List ix)(vss:List (List ix)):Prop where
 blk:MX O W 1 sb #[nv,tv,fv,bv,.map (some sr),.map (some tr),nI ((many:Nat):Int)] 217
 row:My sn 50 1 O W 6 fv ms
 len:ms.length=m
 lenv:vss.length=m
 at_:∀j,j<m->My sn 22 1 O W 5 (nth ms j) (nth vss j)/\(nth vss j).length=n/\∀t,t<n->My aL 3 1 O W 5 (nth (nth vss j) t) (eG n (λx=>nx x j) t)
def TuI.U{S:Nat->Prop}{O O':Nat->Nat}{w w':ka}{sb:Nat}{nv tv fv bv:ix}{sr tr many n m:Nat}{nx:Nat->Nat->Nat}{ms:List ix}{a0:List (List ix)}(h:TuI O w sb nv tv fv bv sr tr many n m nx ms a0) 
  (u:Lr S O w O' w') (h1:¬S 1) (h5:¬S 5) (h6:¬S 6):TuI O' w' sb nv tv fv bv sr tr many n m nx ms a0:=
 ⟨h.blk.U u zd h1,h.row.U u zd h6,h.len,h.lenv,λj hj=>⟨(h.at_ j hj).1.U u zd h5,(h.at_ j hj).2.1,λt ht=>((h.at_ j hj).2.2 t ht).U u zd h5⟩⟩
def KJ:Pj Mw 215 50 1 24:=⟨underlying215,by kernel_rfl,zd⟩
def vI(B:Nat)(O:Nat->Nat)(w:ka)(sb:Nat)(nv tv bv:ix)(sr tr many:Nat)(rows:List (List Nat))(e2:List Nat)(hR:Ng B O w)(hB:MX O w 1 sb #[nv,tv,nS,bv,.map (some sr),.map (some tr),nI ((many:Nat):Int)] 217) 
  (hn:RowsF O w nv rows) (hr:RightD rows e2) (hT:∀q,O q<2000) (f8:∀q,O q≠6) :
  NA Mw 131 [nP sb] w λ_ w'=>
   ∃O' fv,Lr (λq=>q=1\/q=5\/q=6\/2000<=q) O w O' w'/\Ng B O' w'/\MX O' w' 1 sb #[nv,tv,fv,bv,.map (some sr),.map (some tr),nI ((many:Nat):Int)] 217/\FromO O' w' 5 fv rows.length (nxD rows):=by
 have g5:=hr.le;obtain⟨vs,b4,a',g4,c9⟩:=hn;apply Ln func131 ntmps131 rfl rfl;refine zh ?_;apply zlp (λz:Nat×(Nat->Nat)×World×ix×List ix×List (List ix)=>[(0,nP sb),(6,nI z.1)]) (λz=>z.2.2.1) (λz=>z.1<=37/\Lr (λq=>q=1\/q=5\/q=6\/2000<=q) O w z.2.1 z.2.2.1/\Ng B z.2.1 z.2.2.1/\TuI z.2.1 z.2.2.1 sb nv tv z.2.2.2.1 bv sr tr many rows.length z.1 (nxD rows) z.2.2.2.2.1 z.2.2.2.2.2) (λz=>37-z.1) (0,O,w,nS,[],[]) ⟨Li _,N6 zd _ _,hR,hB,Mr _ _ _ _ _ _,rfl,rfl,λj hj=>absurd hj (ln j)⟩;rintro⟨m,O2,w2,fv,ms,c5⟩ ⟨hm,b8,d9,hI⟩;dsimp only at hm b8 d9 hI ⊢;refine zh ?_;refine zC ?_ ?_
 ·intro c6;replace c6:m<37:=dT c6;have e4:=b4.U a' b8;have e6:=a'.U b8;have c1:w2.cell? ((nA sb 0).add 0)=some nv:=hI.blk.cell 0 rfl;refine zh ?_;apply qy AJ nS zk rfl d9 2000 zd rows.length rfl rfl zo zo zo zo rfl;intro w3 O3 d' d5 d7 g0 g7;have e1:=hI.U d7 zd zd zd;have e3:=e4.U e6 d7;have c3:w3.cell? ((nA sb 0).add 0)=some nv:=e1.blk.cell 0 rfl;refine zh ?_;apply zlp (λy:Nat×(Nat->Nat)×World×List ix=>[(0,nP sb),(2,nI (m:Nat)),(3,d'),(6,nI (m:Nat)),(20,nv),(21,nI vs.length),(22,nI y.1)]) (λy=>y.2.2.1) (λy=>y.1<=rows.length/\Lr (λq=>q=1\/q=5\/q=6\/2000<=q) O w y.2.1 y.2.2.1/\Ng B y.2.1 y.2.2.1/\TuI y.2.1 y.2.2.1 sb nv tv fv bv sr tr many rows.length m (nxD rows) ms c5/\My sn 22 1 y.2.1 y.2.2.1 2000 d' y.2.2.2/\y.2.2.2.length=rows.length/\∀t,t<rows.length->My aL 3 1 y.2.1 y.2.2.1 (3000+t) (nth y.2.2.2 t) (eG y.1 (λx=>nxD rows x m) t)) (λy=>rows.length-y.1) (0,O3,w3,Ly rows.length nS) ⟨Li _,b8.J (d7.mono (λ_ h=>zo) zd),g0,e1,d5,by simp,λt ht=>by rw[aB (by simpa using ht)];simp only[List.getElem_replicate];exact Mr _ _ _ _ _ _⟩;rintro⟨i,O4,w4,bs⟩ ⟨hi,b7,d8,a8,a0,b1,a6⟩;dsimp only at hi b7 d8 a8 a0 b1 a6 ⊢;have c8:=b4.U a' b7;refine zh ?_;refine zC ?_ ?_
  ·intro b2;replace b2:i<rows.length:=dT b2;obtain⟨d2,b0⟩:=c9 i b2;have d1:=d2.U b0 b7;obtain⟨r1,r2⟩:=hr.row i b2;obtain⟨to,b5⟩:∃to,to=nxD rows i m:=⟨_,rfl⟩
   have c':to<rows.length:=by rw[b5];exact r2 m c6
   have m1:w4.cell? (adr nv 1 i)=some (nth vs i):=by have:=c8.cell (i:=i) (j:=0) zo rfl;rwa[ar]at this
   refine zh ?_;have k1:w4.drew.cell? (adr (nth vs i) 1 m)=some (nI (to:Int)):=by have:=d1.cell (i:=m) (j:=0) zo rfl;rw[ar]at this;rw[b5];exact this
   have g1:w4.drew.cell? (adr d' 1 to)=some (nth bs to):=by have:=a0.sl.cell (i:=to) (j:=0) zo rfl;rwa[ar]at this
   have f7:Lr (λ_=>False) O4 w4 O4 w4.drew:=aa (λh=>h) O4 (Lu w4).drew;apply aN (λW=>W.cell? (adr (nth vs i) 1 m)=some (nI (to:Int))) 17 rfl zk;apply zrm 0 rfl k1 rfl;apply zrm 1 rfl k1 rfl;apply zrm 2 rfl k1 rfl;apply zr 3 rfl k1 (λ_=>ai d1.sh Lj (Ls _) rfl rfl m rfl zo);apply zt 4 rfl k1 (λw1 c7=>RV.ld c7 rfl);apply zrm 5 rfl k1 rfl;apply zrm 6 rfl k1 rfl;apply zrm 7 rfl k1 rfl;apply zr 8 rfl k1 (λ_=>ai d1.sh Lj (Ls _) rfl rfl m rfl zo);apply zt 9 rfl k1 (λw1 c7=>RV.ld c7 rfl);apply zr 10 rfl k1 (λ_=>ai a0.sl.sh M6 (NI _) rfl rfl to rfl zo);apply zrm 12 rfl k1 rfl;apply bU 11 13 gE (enc:=aL) i rfl rfl zk zk zk zk (λW hE=>NS (hE.cell g1) (isAgg22 _) rfl) (λW hE=>hE.cell k1) rfl rfl rfl zd rfl rfl rfl rfl rfl;intro g3 w5 d0 g2;have f6:Lr (λ_=>False) O4 w4.drew O4 w5:=aa (λh=>h) O4 g2;have a4:=f7.J f6;have g6:=DG i (λx=>nxD rows x m) to;apply Lo 14 zk rfl;apply aC gE ((a6 to c').U a4 zo (λh=>h)) (d8.U a4) d0 (by simp) rfl rfl (by simp) (by simp[Lk]) (by rw[Lm];omega) (by rw[Lm];omega) zo rfl;intro v6 w6 O6 e0 a5 f9
   have a7:Lr (λq=>q=1\/q=5\/q=6\/2000<=q) O w O6 w6:=(b7.J (a4.mono (λ_ h=>h.elim) zd)).J (a5.mono (λ_ h=>zo) zd);have k6:w6.cell? (adr (nth vs i) 1 m)=some (nI (to:Int)):=by have:=(d2.U b0 a7).cell (i:=m) (j:=0) zo rfl;rw[ar]at this;rw[b5];exact this
   have d4:=(a0.U a4 zd (λh=>h)).U a5 zd zo;refine zh ?_;apply ae k6;apply zr 15 rfl k6 (λ_=>ai a0.sl.sh M6 (NI _) rfl rfl to rfl zo);apply Lo 16 zk rfl;apply N7 d4 to zo v6 (NI _) e0.one zd rfl rfl rfl rfl;intro w7 d3 b6;have b9:Lr (λq=>q=1\/q=5\/q=6\/2000<=q) O w O6 w7:=a7.J (b6.mono (λ_ h=>zo) zd);have k7:w7.cell? (adr (nth vs i) 1 m)=some (nI (to:Int)):=by have:=(d2.U b0 b9).cell (i:=m) (j:=0) zo rfl;rw[ar]at this;rw[b5];exact this
   refine zh ?_;apply ae k7
   apply MJ zk;refine zh ?_
   refine zxd (i+1,O6,w7,bs.set to v6) ⟨b2,b9,f9.U b6,((a8.U a4 (λh=>h) (λh=>h) (λh=>h)).U a5 zo zo zo).U b6 zd zd zd,d3,by dsimp only;rw[Lq];exact b1,λt ht=>?_⟩
   ·dsimp only;rw[BJ b2,bm zo,<-b5]
    by_cases e:t=to
    ·subst e;rw[ap rfl,ap rfl];exact e0.U b6 zo zo
    rw[am e,am (λh=>e h.symm),M5];exact(((a6 t ht).U a4 zo (λh=>h)).U a5 zo zo).U b6 zo zo
  intro e9;obtain rfl:i=rows.length:=dF e9;obtain⟨ba,bc,e',_⟩:=a0.sl.shape;subst e';have e7:=a8.len;have f4:w4.cell? (nA sb 2)=some fv:=a8.blk.cell 2 rfl;refine zh ?_;apply Nl KJ a8.row d8 ((.slice ba bs.length bc:ix)) (λ_=>rfl) rfl rfl rfl (by simp[Lk]) zo zo zo zd rfl rfl;intro b' w5 O5 a9 b3 f';have d6:=a8.blk.U b3 zd zd;refine zh ?_;apply aj (j:=2) d6 rfl (sizeOf215 _) a9.one rfl rfl rfl;have a5:Lr (λj=>j=1) O5 w5 O5 (w5.setCell ⟨sb,2,none⟩ b'):=MV zd d6.tag rfl;have f3:MX O5 (w5.setCell ⟨sb,2,none⟩ b') 1 sb #[nv,tv,b',bv,.map (some sr),.map (some tr),nI ((many:Nat):Int)] 217:=d6.set 2 _;generalize w5.setCell ⟨sb,2,none⟩ b'=w6 at *;have a7:Lr (λq=>q=1\/q=5\/q=6\/2000<=q) O w O5 w6:=(b7.J (b3.mono (λ_ h=>zo) zd)).J (a5.mono (λ_ h=>zo) zd);obtain⟨f,hf⟩:∃f:Nat->Nat,f=λt=>if 2000<=t then 5 else t:=⟨_,rfl⟩
  have f2:∀t,t<2000->f t=t:=λt ht=>by rw[hf];exact am zo
  have f5:∀t,2000<=t->f t=5:=λt ht=>by rw[hf];exact ap ht
  refine zh ?_;refine zxd (m+1,reF f O5,w6,b',ms++[.slice ba bs.length bc],c5++[bs]) ⟨c6,a7.re f (f2 0 zd) (λb _=>f2 _ (hT b)),(f'.U a5).re f (f2 0 zd),⟨f3.re f (f2 1 zd),(a9.U a5 zd zd).re f (f2 6 zd),by simp[e7],by simp[a8.lenv],λj hj=>?_⟩⟩
  ·have e5:=a8.lenv;rw[az,az]
   by_cases e:j<m
   ·rw[ap zo,ap zo];obtain⟨a1,a2,a3⟩:=a8.at_ j e;exact⟨((a1.U b3 zd zd).U a5 zd zd).re f (f2 5 zd),a2,λt ht=>(((a3 t ht).U b3 zd zd).U a5 zd zd).re f (f2 5 zd)⟩
   obtain rfl:j=m:=zo;rw[am zo,am zo,show j-ms.length=0 from by omega,show j-c5.length=0 from by omega,ao,ao];exact⟨((a0.U b3 zd zd).U a5 zd zd).re f (f5 _ zd),b1,λt ht=>(((a6 t ht).U b3 zo zo).U a5 zo zo).re f (f5 _ zo)⟩
 intro e8;obtain rfl:m=37:=dF e8;refine zh ?_;refine aP rfl ⟨reF (Ja 6 5) O2,fv,b8.re _ rfl (λb _=>tu (f8 b)),d9.re _ rfl,hI.blk.re _ rfl,⟨ms,c5,hI.row.re _ rfl,hI.len,λm hm=>⟨(hI.at_ m hm).1.re _ rfl,(hI.at_ m hm).2.1,λt ht=>((hI.at_ m hm).2.2 t ht).re _ rfl⟩⟩⟩
end Go.Proofs.YtcfhbfflgnbacaaGreatDoor
namespace Go.VL
def Fits.look{a:Q0}{st a0:St}(h:Fits N a st)(hs:∀t,cQ a0 t=cQ st t):Fits N a a0:=⟨h.size,h.defers,λt v hv=>h.get t v ((hs t).symm.J hv)⟩
def gM{d1 d2 d3:Nat}(v1 v2 v3:ix)(st:St)(a2:Nb d1 d2=false)(a1:Nb d1 d3=false)(a0:Nb d2 d3=false)(t:Nat):
  (cQ ((d3,v3)::(d2,v2)::(d1,v1)::st) t=cQ ((d2,v2)::(d3,v3)::(d1,v1)::st) t)/\(cQ ((d3,v3)::(d2,v2)::(d1,v1)::st) t=cQ ((d3,v3)::(d1,v1)::(d2,v2)::st) t)/\
  (cQ ((d3,v3)::(d2,v2)::(d1,v1)::st) t=cQ ((d1,v1)::(d3,v3)::(d2,v2)::st) t)/\(cQ ((d3,v3)::(d2,v2)::(d1,v1)::st) t=cQ ((d2,v2)::(d1,v1)::(d3,v3)::st) t)/\(cQ ((d3,v3)::(d2,v2)::(d1,v1)::st) t=cQ ((d1,v1)::(d2,v2)::(d3,v3)::st) t):=by
 simp only[cQ]
 cases h1:Nb d1 t<;>cases h2:Nb d2 t<;>cases h3:Nb d3 t<;>simp only[cond_true,cond_false,and_self] <;>
  first
  |(have e1:=Mv h1;have e2:=Mv h2;subst e1;subst e2;rw[NP]at a2;cases a2)
  |(have e1:=Mv h1;have e2:=Mv h3;subst e1;subst e2;rw[NP]at a1;cases a1)
  |(have e1:=Mv h2;have e2:=Mv h3;subst e1;subst e2;rw[NP]at a0;cases a0)
def qz{ops:Array NV}{S:ka->Prop}{st:St}{a0:Array Bool}(i j k:Nat){o o' o2:NV}(hr:Ms .any ops a0=[i,j,k])(hi:ops[i]? = some o)(hj:ops[j]? = some o')(hk:ops[k]? = some o2) 
  (h:WL P N ops (uq P ops S Q a1 (a0.setIfInBounds i true)) [o] st w) (h':WL P N ops (uq P ops S Q a1 (a0.setIfInBounds j true)) [o'] st w) (h2:WL P N ops (uq P ops S Q a1 (a0.setIfInBounds k true)) [o2] st w):WH P N ops S Q (a1+1) a0 st w:=
 WH.all [i,j,k] hr (by simp) λm hm q hq=>by
  simp only[Lp,List.not_mem_nil,or_false]at hm
  rcases hm with rfl|rfl|rfl
  ·rw[hi]at hq;cases hq;exact h
  ·rw[hj]at hq;cases hq;exact h'
  rw[hk]at hq;cases hq;exact h2
def B5{ops:Array NV}{S:ka->Prop}{st:St}{b9:Nat}{a0:Array Bool}{T2 T3:MZ}{a5:Nat}{x:P6} 
  {t t2 t3:MZ} {p p2 p3:String} {e e2 e3:Array PY} {d1 d2 d3:Nat} (i j k:Nat) (he:Pj P T E 1 a5)  {val:α->ix} (z0:α) (b1:(P.info? E).bind (·.zero)=some (val z0)) (h1:∀a,(val a).oneCell'=true)
  {κ' ν':Type} (kv:κ->ix) (vv:ν->ix) (a8:κ'->ix) (a6:ν'->ix)   (r:Ng B O w) (g1 g2 g3:Nat) (a3:g1≠0) (a2:g2≠0) (a1:g3≠0) (b0:g1≠g2) (a':g1≠g3) (a9:g2≠g3) (n:Nat)
  (hi:ops[i]? = some ⟨some d1,.makeSlice T x y,t,p,e,none⟩) (hj:ops[j]? = some ⟨some d2,.makeMap T2 none,t2,p2,e2,none⟩) (hk:ops[k]? = some ⟨some d3,.makeMap T3 none,t3,p3,e3,none⟩)
  (hr:Ms .any ops a0=[i,j,k]) (d5:Ms .any ops (a0.setIfInBounds i true)=[j,k]) (d4:Ms .any ops (a0.setIfInBounds j true)=[i,k]) (d0:Ms .any ops (a0.setIfInBounds k true)=[i,j])
  (b4:Ms .any ops ((a0.setIfInBounds i true).setIfInBounds j true)=[k]) (b3:Ms .any ops ((a0.setIfInBounds i true).setIfInBounds k true)=[j]) (b2:Ms .any ops ((a0.setIfInBounds j true).setIfInBounds k true)=[i])
  (c':(a0.setIfInBounds j true).setIfInBounds i true=(a0.setIfInBounds i true).setIfInBounds j true) (c9:(a0.setIfInBounds k true).setIfInBounds i true=(a0.setIfInBounds i true).setIfInBounds k true) (c8:(a0.setIfInBounds k true).setIfInBounds j true=(a0.setIfInBounds j true).setIfInBounds k true)
  (q1:((a0.setIfInBounds i true).setIfInBounds k true).setIfInBounds j true=((a0.setIfInBounds i true).setIfInBounds j true).setIfInBounds k true) (q2:((a0.setIfInBounds j true).setIfInBounds k true).setIfInBounds i true=((a0.setIfInBounds i true).setIfInBounds j true).setIfInBounds k true)
  (hS:∀O' W,Lr (λq=>q=g1\/q=g2\/q=g3) O w O' W->S W) {m:Int} (hx:∀l,evs ((d2,l)::st) [x,y]=some [nI m,nI m]/\evs ((d3,l)::st) [x,y]=some [nI m,nI m]/\evs st [x,y]=some [nI m,nI m]/\(∀l',evs ((d3,l')::(d2,l)::st) [x,y]=some [nI m,nI m])/\∀l',evs ((d2,l')::(d3,l)::st) [x,y]=some [nI m,nI m])
  (hm:m=n) (hb:a5*n<=281474976710656) (b8:n<=9223372036854775807) (b7:Ny d1 N=true) (b6:Ny d2 N=true) (b5:Ny d3 N=true) (c6:Nb d1 d2=false) (c5:Nb d1 d3=false) (b':Nb d2 d3=false)
  (h:∀bv sr tr W O',My (λx=>[val x]) E 1 O' W g1 bv (Ly n z0)->MN kv vv O' W g2 sr []->MN a8 a6 O' W g3 tr []->Lr (λq=>q=g1\/q=g2\/q=g3) O w O' W->Ng B O' W->
   WH P N ops S Q b9 (((a0.setIfInBounds i true).setIfInBounds j true).setIfInBounds k true) ((d3,.map (some tr))::(d2,.map (some sr))::(d1,bv)::st) W):WH P N ops S Q (b9+3) a0 st w:=by
 have two:∀ {a7:St} {m:Int},evs a7 [x,y]=some [nI m,nI m]->ev a7 x=some (nI m)/\ev a7 y=some (nI m):=fun {a7 m} h=>by
  simp only[evs]at h
  cases h1:ev a7 x<;>cases h2:ev a7 y<;>rw[h1,h2]at h<;>simp at h ⊢
  exact h
 have c7:¬(λq=>q=g1\/q=g2\/q=g3) 0:=by rintro(h|h|h)<;>omega
 have o1:∀ {O O':Nat->Nat} {w w':ka},Lr (λq=>q=g1) O w O' w'->Lr (λq=>q=g1\/q=g2\/q=g3) O w O' w':=λh=>h.mono (λ_ h=>.inl h) c7
 have o2:∀ {O O':Nat->Nat} {w w':ka},Lr (λq=>q=g2) O w O' w'->Lr (λq=>q=g1\/q=g2\/q=g3) O w O' w':=λh=>h.mono (λ_ h=>.inr (.inl h)) c7
 have o3:∀ {O O':Nat->Nat} {w w':ka},Lr (λq=>q=g3) O w O' w'->Lr (λq=>q=g1\/q=g2\/q=g3) O w O' w':=λh=>h.mono (λ_ h=>.inr (.inr h)) c7
 refine qz i j k hr hi hj hk ?_ ?_ ?_
 ·refine cY he z0 b1 h1 r g1 a3 n (two ((hx default).2.2.1)).1 (two ((hx default).2.2.1)).2 hm hm hb b8 b7 λwr Or vr _ fr ur rr _=>MH (ae (hS Or wr (o1 ur)) ?_)
  refine NL j k d5 hj hk ?_ ?_
  ·refine bx kv vv rr g2 a2 b6 λva wa Oa fa ua ra=>MH (ae (hS Oa wa ((o1 ur).J (o2 ua))) ?_)
   apply Lo k b4 hk;refine bx a8 a6 ra g3 a1 b5 λvb wb Ob fb ub rb=>MH (ae (hS Ob wb (((o1 ur).J (o2 ua)).J (o3 ub))) ?_)
   exact h vr va vb wb Ob ((fr.U ua a3 b0).U ub a3 a') (fa.U ub a2 a9) fb (((o1 ur).J (o2 ua)).J (o3 ub)) rb
  refine bx a8 a6 rr g3 a1 b5 λvb wb Ob fb ub rb=>MH (ae (hS Ob wb ((o1 ur).J (o3 ub))) ?_)
  apply Lo j b3 hj;refine bx kv vv rb g2 a2 b6 λva wa Oa fa ua ra=>MH (ae (hS Oa wa (((o1 ur).J (o3 ub)).J (o2 ua))) ?_)
  exact by rw[q1];exact λac a4=>h vr va vb wa Oa ((fr.U ub a3 a').U ua a3 b0) fa (fb.U ua a1 (λh=>a9 h.symm)) (((o1 ur).J (o3 ub)).J (o2 ua)) ra ac (a4.look λt=>(gM vr (.map (some va)) (.map (some vb)) st c6 c5 b' t).1)
 ·refine bx kv vv r g2 a2 b6 λva wa Oa fa ua ra=>MH (ae (hS Oa wa (o2 ua)) ?_)
  refine NL i k d4 hi hk ?_ ?_
  ·refine cY he z0 b1 h1 ra g1 a3 n (two ((hx _).1)).1 (two ((hx _).1)).2 hm hm hb b8 b7 λwr Or vr _ fr ur rr _=>MH (ae (hS Or wr ((o2 ua).J (o1 ur))) ?_)
   apply Lo k (by rw[c'];exact b4) hk;refine bx a8 a6 rr g3 a1 b5 λvb wb Ob fb ub rb=>MH (ae (hS Ob wb (((o2 ua).J (o1 ur)).J (o3 ub))) ?_)
   exact by rw[c'];exact λac a4=>h vr va vb wb Ob (fr.U ub a3 a') ((fa.U ur a2 (λh=>b0 h.symm)).U ub a2 a9) fb (((o2 ua).J (o1 ur)).J (o3 ub)) rb ac (a4.look λt=>(gM vr (.map (some va)) (.map (some vb)) st c6 c5 b' t).2.1)
  refine bx a8 a6 ra g3 a1 b5 λvb wb Ob fb ub rb=>MH (ae (hS Ob wb ((o2 ua).J (o3 ub))) ?_)
  apply Lo i b2 hi;refine cY he z0 b1 h1 rb g1 a3 n (two ((hx _).2.2.2.1 _)).1 (two ((hx _).2.2.2.1 _)).2 hm hm hb b8 b7 λwr Or vr _ fr ur rr _=>MH (ae (hS Or wr (((o2 ua).J (o3 ub)).J (o1 ur))) ?_)
  exact by rw[q2];exact λac a4=>h vr va vb wr Or fr ((fa.U ub a2 a9).U ur a2 (λh=>b0 h.symm)) (fb.U ur a1 (λh=>a' h.symm)) (((o2 ua).J (o3 ub)).J (o1 ur)) rr ac (a4.look λt=>(gM vr (.map (some va)) (.map (some vb)) st c6 c5 b' t).2.2.1)
 refine bx a8 a6 r g3 a1 b5 λvb wb Ob fb ub rb=>MH (ae (hS Ob wb (o3 ub)) ?_)
 refine NL i j d0 hi hj ?_ ?_
 ·refine cY he z0 b1 h1 rb g1 a3 n (two ((hx _).2.1)).1 (two ((hx _).2.1)).2 hm hm hb b8 b7 λwr Or vr _ fr ur rr _=>MH (ae (hS Or wr ((o3 ub).J (o1 ur))) ?_)
  apply Lo j (by rw[c9];exact b3) hj;refine bx kv vv rr g2 a2 b6 λva wa Oa fa ua ra=>MH (ae (hS Oa wa (((o3 ub).J (o1 ur)).J (o2 ua))) ?_)
  exact by rw[c9,q1];exact λac a4=>h vr va vb wa Oa (fr.U ua a3 b0) fa ((fb.U ur a1 (λh=>a' h.symm)).U ua a1 (λh=>a9 h.symm)) (((o3 ub).J (o1 ur)).J (o2 ua)) ra ac (a4.look λt=>(gM vr (.map (some va)) (.map (some vb)) st c6 c5 b' t).2.2.2.1)
 refine bx kv vv rb g2 a2 b6 λva wa Oa fa ua ra=>MH (ae (hS Oa wa ((o3 ub).J (o2 ua))) ?_)
 apply Lo i (by rw[c8];exact b2) hi;refine cY he z0 b1 h1 ra g1 a3 n (two ((hx _).2.2.2.2 _)).1 (two ((hx _).2.2.2.2 _)).2 hm hm hb b8 b7 λwr Or vr _ fr ur rr _=>MH (ae (hS Or wr (((o3 ub).J (o2 ua)).J (o1 ur))) ?_)
 exact by rw[c8,q2];exact λac a4=>h vr va vb wr Or fr (fa.U ur a2 (λh=>b0 h.symm)) ((fb.U ua a1 (λh=>a9 h.symm)).U ur a1 (λh=>a' h.symm)) (((o3 ub).J (o2 ua)).J (o1 ur)) rr ac (a4.look λt=>(gM vr (.map (some va)) (.map (some vb)) st c6 c5 b' t).2.2.2.2)
def mO{ops:Array NV}{S:ka->Prop}{st:St}{a3:Nat}{a1:Array Bool}(f:α->St)(g:α->ka)(I:α->Prop)(a0:Array Bool)(a2:Nat) 
 (h1:(∀x,I x->WH P N ops S Q a2 a0 (f x) (g x))->WH P N ops S Q a3 a1 st w) (h2:∀x,I x->WH P N ops S Q a2 a0 (f x) (g x)):WH P N ops S Q a3 a1 st w:=h1 h2
def WH.leaf{ops:Array NV}{S:ka->Prop}{st a3:St}{a2:Nat}{a1 a0:Array Bool}(h:WH P N ops S Q a2 a0 a3 w')(hl:a1=a0)(hc:Cov st a3)(hw:w'=w):WH P N ops S Q a2 a1 st w:=by
 subst hl;subst hw;exact λa ha=>h a (ha.cov hc)
end Go.VL
namespace Go.Proofs.YtcfhbfflgnbacaaGreatDoor
def JJ{E:List KVR}(h:(E.map (·.1)).Nodup)(hj:j<E.length):ke E (nth E j).1=some j:=by
 rw[<-eY];refine M1.2 ⟨by simpa using hj,by simp[aB hj],λi hi=>?_⟩;have:=N8.1 h i j (by simp;omega) (by simpa using hj) hi;simp only[Pa]at this ⊢;rw[aB hj];simpa using this
def I1{E:List KVR}(h:(E.map (·.1)).Nodup)(hj:j<E.length):eh E (nth E j).1=(nth E j).2.2/\FJ E (nth E j).1=(nth E j).2.1:=by
 unfold eh FJ;rw[mL,JJ h hj];simp only[P2,List.getElem?_eq_getElem hj,P5,P1,aB hj,and_self]
structure BlI(w0:ka)(nv tv:ix)(rows:List (List Nat))(tls:List Nat)(sb:Nat)(fv bv:ix)(sr tr tb b0 m0:Nat)(O:Nat->Nat)(W:ka)(bl:List Nat)(E:List KVR)(td:List ((Int×Int)×Bool))(many:Nat):Prop where
 U:Lr (λq=>1<=q) (λ_=>0) w0 O W
 rng:Ng w0.heap.size O W
 sp:SpO O W sb nv tv fv bv sr tr rows.length (nxD rows) bl E td many
 tb:MX O W 8 tb #[nI (b0:Nat),nI (m0:Nat)] 199
 low:∀q,O q<2000
def BlT(rows:List (List Nat))(a0:List Nat)(b0 m0:Nat)(fl:Bool)(bl:List Nat)(E:List KVR)(td:List ((Int×Int)×Bool))(many:Nat):Prop:=
 (fl=true->∃td0,BO (nxD rows) (nth a0) rows.length bl E td0 many/\td=qZ td0 ((b0:Int),(m0:Int))/\b0<many/\m0<37)/\(fl=false->BO (nxD rows) (nth a0) rows.length bl E [] many)
structure BiI(w0:ka)(nv tv:ix)(rows:List (List Nat))(tls:List Nat)(sb:Nat)(fv bv:ix)(sr tr tb b0 m0 r q many0 M:Nat)(bl0:List Nat)(G:List KVR)(O:Nat->Nat)(W:ka)(left:List (Int×ix))(cur:Option (Int×ix))(bl:List Nat)(E:List KVR)(td:List ((Int×Int)×Bool))(many:Nat):Prop where
 U:Lr (λq=>1<=q) (λ_=>0) w0 O W
 rng:Ng w0.heap.size O W
 sp:SpO O W sb nv tv fv bv sr tr rows.length (nxD rows) bl E td many
 tb:MX O W 8 tb #[nI (b0:Nat),nI (m0:Nat)] 199
 rg:PV (λk:Int=>nI k) (λv:ix=>v) O W 2000 2001 r q left cur
 gr:∀k,k<G.length->(nth G k).1∈left.map (·.1)->My aL 3 1 O W (3000+k) (nth G k).2.1 (nth G k).2.2
 bi:BI (nxD rows) (nth tls) rows.length bl0 m0 b0 many0 left bl E td many
 ms:(rows.length-many)*37+td.length<=M
 sub:∀e∈left,e∈G.map vQ
def FH{rows:List (List Nat)}{E:List KVR}(h:BO (nxD rows) (nth a0) rows.length bl E td many){a2 a1:List ((Int×Int)×Bool)}{k:Int×Int}{x:Bool}(e:td=a2++(k,x)::a1):
  ∃b0 m0:Nat,k=((b0:Int),(m0:Int))/\BlT rows a0 b0 m0 true bl E (qZ td k) many/\(qZ td k).length+1=td.length:=by
 have hm:(k,x)∈td:=by rw[e];simp
 obtain⟨c,j,h1,h2,h3⟩:=h.tdr _ hm;dsimp only at h3;exact⟨c,j,h3,⟨λ_=>⟨td,h,by rw[h3],h1,h2⟩,λe=>absurd e zd⟩,AU k x td hm⟩
def RightD.nx{rows:List (List Nat)}(h:RightD rows a0):∀p m,p<rows.length->m<37->nxD rows p m<rows.length:=λp m hp hm=>(h.row p hp).2 m hm
def SpO.todoN{S:Nat->Prop}{nv tv fv bv:ix}{nx:Nat->Nat->Nat}{E:List KVR}{a0:List ((Int×Int)×Bool)}(h:SpO O w sb nv tv fv bv sr tr n nx bl E td many) 
  (u:Lr S O w O' w') (hS:∀k,0<k->k<10+E.length->k≠4->k≠8->k≠9->¬S k) (ht:MN eP LL O' w' 4 tr a0):SpO O' w' sb nv tv fv bv sr tr n nx bl E a0 many:=
 ⟨h.blk.U u zd (hS 1 zo zo zo zo zo),h.row.U u zd (hS 2 zo zo zo zo zo),⟨h.st.map.U u zd (hS 3 zo zo zo zo zo),λk hk=>(h.st.row k hk).U u zo (hS _ zo zo zo zo zo)⟩,ht,h.frm.U u zd (hS 5 zo zo zo zo zo)⟩
def SpO.reN{nv tv fv bv:ix}{nx:Nat->Nat->Nat}{E:List KVR}(h:SpO O w sb nv tv fv bv sr tr n nx bl E td many) 
  (f:Nat->Nat) (hf:∀t,t<10+E.length->t≠8->t≠9->f t=t):SpO (reF f O) w sb nv tv fv bv sr tr n nx bl E td many:=
 ⟨h.blk.re f (hf 1 zo zo zo),h.row.re f (hf 2 zo zo zo),⟨h.st.map.re f (hf 3 zo zo zo),λk hk=>(h.st.row k hk).re f (hf _ zo zo zo)⟩,h.todo.re f (hf 4 zo zo zo),h.frm.re f (hf 5 zo zo zo)⟩
def nxF:Nat->Nat:=λt=>if t=9 then 8 else if t=8 then 0 else if t<2000 then t else 0
def Ku(h:t<2000)(h8:t≠8)(h9:t≠9):nxF t=t:=by unfold nxF;rw[am h9,am h8,ap h]
def Kr(t:Nat):nxF t<2000:=by unfold nxF;split;omega;split;omega;split<;>omega
def vK(nv tv:ix)(rows:List (List Nat))(b5:List Nat)(w:ka)(hn:RowsN w nv rows)(m4:Sl fq 1 w tv b5)(hr:RightD rows b5):
  NA Mw 97 [.agg #[nv,tv]] w λv w'=>
   ∃bl,Sl aL 1 w' v bl/\Np w w'/\bl.length=rows.length/\(∀p q,p<rows.length->q<rows.length->(nth bl p=nth bl q↔Alike (nxD rows) (nth b5) p q))/\∀(B:Nat) (O:Nat->Nat),Ng B O w->Nm O w' v:=by
 have t9:=hr.le;have o8:=hr.pos;have e6:=hr.tl;have d9:=hr.nx;have o9:=hn.free;have g2:Nm (λ_=>0) w tv:=m4.free0 λa=>by simp
 obtain⟨vs,i6,i7,t5,o3⟩:=o9;apply Ln func97 ntmps97 rfl rfl;refine zh ?_;apply aI (aw w) 7 zo rfl rfl;intro db w1 O1 i1 n3 s4 u5;have c0:w1.cell? (nA db 0)=some nv:=i1.cell 0 rfl;have i5:=i6.U i7 n3;refine zh ?_;apply aN (λW=>∀j u,[nv,tv][j]? = some u->W.cell? (nA db j)=some u) 10 rfl zk;refine zin i1.drew.V λzS=>?_
 apply zt 0 rfl zS (λw1 i4=>ah (us:=[nv,tv]) i4 (MU _) (M7 _) rfl);apply zrf 1 rfl zS rfl
 apply zt 2 rfl zS (λw1 i4=>RV.ld (i4 0 _ rfl) rfl);apply zr 3 rfl zS (λ_=>aM i5.sh M6 rfl)
 apply B5 4 5 6 gE (val:=λn:Nat=>nI (n:Int)) (0:Nat) zk (λ_=>rfl) (λk:Int=>nI k) (λv:ix=>v) eP LL s4.drew 2 3 4 zd zd zd zd zd zd rows.length rfl rfl rfl zk zk zk zk zk zk zk zk zk zk zk zk (λO' W u=>(i1.drew.U u zd zd).V) (λl=>⟨rfl,rfl,rfl,λ_=>rfl,λ_=>rfl⟩) zo zo zo rfl rfl rfl rfl rfl rfl;intro bv sr tr w4 O4 c5 j7 j1 n2 s3;have d3:=i1.drew.U n2 zd zd;obtain⟨ba,bc,p',_⟩:=c5.sl.shape;apply zr 7 rfl d3.V (λ_=>RV.build (cells:=#[nv,tv,nS,bv,.map (some sr),.map (some tr),nI 0]) Dj (zeroValue217 _) rfl (by rw[p'];rfl))
 apply Lo 8 zk rfl;apply aI s3 1 zd rfl rfl
 intro sb w5 O5 r7 d' s2 u4;refine zh ?_;apply ae ((d3.U d' zd zd).V);have f9:=c5.U d' zd zd;have j6:=j7.U d' zd zd;have j0:=j1.U d' zd zd;have l5:Lr (λq=>1<=q) (λ_=>0) w O5 w5:=((n3.mono (λ_ h=>zo) zd).J (Upd.ofDrew (n2.mono (λ_ h=>zo) zd))).J (d'.mono (λ_ h=>zo) zd);obtain⟨f,hf⟩:∃f:Nat->Nat,f=λt=>if t<=7 then t else 0:=⟨_,rfl⟩
 have f7:∀t,t<=7->f t=t:=λt ht=>by rw[hf];exact ap ht
 have s8:∀t,f t<=7:=λt=>by rw[hf];dsimp only;split<;>omega
 have l2:=l5.re f (f7 0 zd) (λb hb=>absurd rfl hb);apply zra 9 rfl ((d3.U d' zd zd).V) rfl;apply MJ zk;refine zh ?_;apply zc call130 (yN w.heap.size (reF f O5) w5 sb nv tv bv sr tr b5 (s2.re f (f7 0 zd)) (r7.re f (f7 1 zd)) (by rw[e6];exact f9.re f (f7 2 zd)) ⟨j6.re f (f7 3 zd),λk hk=>absurd hk (ln k)⟩ (j0.re f (f7 4 zd)) (m4.U g2 l2) (g2.U l2) zo (λq=>by have:=s8 (O5 q);show f (O5 q)<2000;omega));rintro _ w6 ⟨O6,D,bl,E,many,td,r9,s1,r6,f8,e',i',hF,hI⟩;have m8:=hF.mi;obtain⟨g,hg⟩:∃g:Nat->Nat,g=λt=>if t<=4\/10<=t/\t<2000 then t else 0:=⟨_,rfl⟩
 have g1:∀t,(t<=4\/10<=t/\t<2000)->g t=t:=λt ht=>by rw[hg];exact ap ht
 have n8:∀t,g t<2000/\g t≠6/\g t≠5:=λt=>by rw[hg];dsimp only;split<;>omega
 have g9:=(l2.J (r9.mono (λ_ h=>zo) zd)).re g (g1 0 zd) (λb hb=>absurd rfl hb);have m6:RowsF (reF g O6) w6 nv rows:=hn.free.U g9;refine zh ?_;apply zc call131 (vI w.heap.size (reF g O6) w6 sb nv tv bv sr tr many rows b5 (s1.re g (g1 0 zd)) (r6.re g (g1 1 zd)) m6 hr (λq=>(n8 _).1) (λq=>(n8 _).2.1));rintro _ w7 ⟨O7,fv,g5,s0,q',k9⟩;obtain⟨f3,m'⟩:∃f:Nat->Nat,f=λt=>if t<2000 then t else 0:=⟨_,rfl⟩
 have b4:∀t,t<2000->f3 t=t:=λt ht=>by rw[m'];exact ap ht
 have f3lt:∀t,f3 t<2000:=λt=>by rw[m'];dsimp only;split<;>omega
 have l4:=(g9.J (g5.mono (λ_ h=>zo) zd)).re f3 (b4 0 zd) (λb hb=>absurd rfl hb);have u2:=hF.keys.len;have b8:SpO (reF f3 O7) w7 sb nv tv fv bv sr tr rows.length (nxD rows) bl E td many:=⟨q'.re f3 (b4 1 zd),((f8.re g (g1 2 zd)).U g5 zd zd).re f3 (b4 2 zd),⟨((e'.map.re g (g1 3 zd)).U g5 zd zd).re f3 (b4 3 zd),λk hk=>(((e'.row k hk).re g (g1 _ zo)).U g5 zo zo).re f3 (b4 _ zo)⟩,((i'.re g (g1 4 zd)).U g5 zd zd).re f3 (b4 4 zd),k9.re f3 (b4 5 zd)⟩
 rw[e6]at hF;have h6:BO (nxD rows) (nth b5) rows.length bl E td many:=hF.bo hI d9;have g':=s0.re f3 (b4 0 zd);have t':∀q,reF f3 O7 q<2000:=λq=>f3lt _
 generalize reF f3 O7=O8 at *;refine zh ?_;apply zc call132 (rS w.heap.size O8 w7 sb tr td g' (.inr ⟨b8.blk.tag,b8.blk.cell 5 rfl⟩) b8.todo);intro vn w8 j8;have hq:∃b0 m0 fl b',vn=.tuple #[eP ((b0:Nat),(m0:Nat)),.bool fl]/\Lr (λq=>q=4) O8 w7 O8 w8/\MN eP LL O8 w8 4 tr b'/\BlT rows b5 b0 m0 fl bl E b' many:=by
  rcases j8 with⟨h0,rfl,h1,h2⟩|⟨d8,k,x,d7,e,rfl,h1,h2⟩
  ·rw[h0]at h2 h6;exact⟨0,0,false,[],rfl,h1,h2,⟨λe=>absurd e zd,λ_=>h6⟩⟩
  obtain⟨b0,m0,rfl,h3,_⟩:=FH h6 e;exact⟨b0,m0,true,_,rfl,h1,h2,h3⟩
 obtain⟨b0,m0,fl,b',rfl,n1,i9,s7⟩:=hq;refine zh ?_;apply au (g'.U n1) 8 zo (MO _) rfl;intro tb w9 O9 d0 n0 r' u3;apply zsa (us:=#[nI (b0:Nat),nI (m0:Nat)]) d0 (MP _);have e9:=d0.setRow (us:=#[nI (b0:Nat),nI (m0:Nat)]);have d5:Lr (λk=>k=8) O9 w9 O9 (w9.setRow tb #[nI (b0:Nat),nI (m0:Nat)]):=LU zd d0.tag rfl;generalize w9.setRow tb #[nI (b0:Nat),nI (m0:Nat)]=w10 at *;have c7:Lr (λq=>q=4\/q=8) O8 w7 O9 w10:=((n1.mono (λ_ h=>.inl h) zd).J (n0.mono (λ_ h=>.inr h) zd)).J (d5.mono (λ_ h=>.inr h) zd);have f6:=b8.todoN c7 zo ((i9.U n0 zd zd).U d5 zd zd);have n7:=h6.keys.len;have t8:=h6.blk.many_le;have f3i:∀t,t<10+E.length->t≠8->t≠9->f3 t=t:=λt h _ _=>b4 t zo
 clear m6 hF hI;refine zh ?_;apply zlp (λz:(Nat->Nat)×World×List Nat×List KVR×List ((Int×Int)×Bool)×Nat×Nat×Nat×Nat×Bool=>[(3,nP sb),(4,.pointer (some ⟨z.2.2.2.2.2.2.1,0,none⟩)),(5,.bool z.2.2.2.2.2.2.2.2.2)]) (λz=>z.2.1) (λz=>BlI w nv tv rows b5 sb fv bv sr tr z.2.2.2.2.2.2.1 z.2.2.2.2.2.2.2.1 z.2.2.2.2.2.2.2.2.1 z.1 z.2.1 z.2.2.1 z.2.2.2.1 z.2.2.2.2.1 z.2.2.2.2.2.1/\BlT rows b5 z.2.2.2.2.2.2.2.1 z.2.2.2.2.2.2.2.2.1 z.2.2.2.2.2.2.2.2.2 z.2.2.1 z.2.2.2.1 z.2.2.2.2.1 z.2.2.2.2.2.1) (λz=>(rows.length-z.2.2.2.2.2.1)*37+z.2.2.2.2.1.length+z.2.2.2.2.2.2.2.2.2.toNat) (reF f3 O9,w10,bl,E,b',many,tb,b0,m0,fl) ⟨⟨(l4.J (c7.mono (λ_ h=>zo) zd)).re f3 (b4 0 zd) (λb hb=>absurd rfl hb),(r'.U d5).re f3 (b4 0 zd),f6.reN f3 f3i,e9.re f3 (b4 8 zd),λq=>f3lt _⟩,s7⟩;rintro⟨O11,e4,e2,E1,i3,a9,h7,b1,m1,s'⟩ ⟨hI,hT⟩;dsimp only at hI hT ⊢;refine zh ?_
 cases s' with
 |false=>
  have g3:=hT.2 rfl;have cb:e4.cell? (nA sb 3)=some bv:=hI.sp.blk.cell 3 rfl;refine zFH rfl rfl ?_;refine af rfl rfl ⟨e2,hI.sp.row.sl,hI.U.ext,g3.blk.len,λp q hp hq=>g3.final d9 p q hp hq,λB O hO=>hI.sp.row.free zd hI.rng hO⟩
 |true=>
  obtain⟨t2,a5,j2,l1,g0⟩:=hT.1 rfl;have p6:=a5.keys;have p4:=p6.len;have p1:=a5.blk.many_le;have b7:=a5.blk.mem b1 l1;have n':e4.cell? ⟨h7,0,none⟩=some (nI (b1:Nat)):=hI.tb.cell 0 rfl;have n9:e4.cell? ⟨h7,1,none⟩=some (nI (m1:Nat)):=hI.tb.cell 1 rfl;refine zTH rfl rfl ?_;apply zv (dI MS (Ls _) rfl rfl 0 rfl zd);apply zv (RV.ld (by first|exact n'|exact n9) rfl);apply zv (dI MS (Ls _) rfl rfl 1 rfl zd);apply zv (RV.ld (by first|exact n'|exact n9) rfl);apply zc call133 (yM w.heap.size O11 e4 sb nv tv fv bv sr tr rows.length (nxD rows) e2 E1 i3 a9 b1 m1 hI.rng hI.sp zo g0 (λx hx=>((b7 x).1 hx).1) zo a5.blk.len (a5.blk.nd b1 l1) hI.low);rintro _ t1 ⟨r,O12,G,rfl,l3,l8,hG,hL⟩;apply qx hG.map LN l8 2001 zd zd rfl rfl;intro q m2 O13 o7 p2 g8 l7;have a8:Lr (λq=>2000<=q) O11 e4 O13 m2:=l3.J (g8.mono (λ_ h=>zo) zd);have n6:∀k,k∈(G.map vQ).map (·.1)↔k∈G.map (·.1):=λk=>by rw[Pp];rfl
  have s5:((G.map vQ).map (·.1)).Nodup:=by rw[Pp];exact hL.nd
  obtain⟨M,hM⟩:∃M,M=(rows.length-a9)*37+i3.length:=⟨_,rfl⟩
  refine zh ?_;refine zlp (λy:(Nat->Nat)×World×List (Int×ix)×Option (Int×ix)×List Nat×List KVR×List ((Int×Int)×Bool)×Nat=>[(3,nP sb),(4,nP h7),(38,nP q)]) (λy=>y.2.1) (λy=>BiI w nv tv rows b5 sb fv bv sr tr h7 b1 m1 r q a9 M e2 G y.1 y.2.1 y.2.2.1 y.2.2.2.1 y.2.2.2.2.1 y.2.2.2.2.2.1 y.2.2.2.2.2.2.1 y.2.2.2.2.2.2.2) (λy=>y.2.2.1.length) (O13,m2,G.map vQ,none,e2,E1,i3,a9) ⟨hI.U.J (a8.mono (λ_ h=>zo) zd),l7,hI.sp.U a8 zo,hI.tb.U a8 zd zd,o7,λk hk _=>(hG.row k hk).U g8 zo zo,?_,Nat.le_of_eq hM.symm,λe h=>h⟩ ?_
  ·dsimp only;rw[j2];refine a5.take b1 m1 g0 d9 _ (λk=>?_) s5;rw[n6,hL.key]
   constructor
   ·rintro⟨i,hi,e⟩;obtain⟨h1,h2⟩:=jg.1 hi;exact⟨i,h1,((b7 _).1 h2).2,e⟩
   rintro⟨i,h1,h2,e⟩;exact⟨i,jg.2 ⟨h1,(b7 _).2 ⟨d9 i m1 h1 g0,h2⟩⟩,e⟩
  rintro⟨O14,t0,left,u6,c8,E2,e5,a0⟩ hJ;dsimp only at hJ ⊢;refine zh ?_;refine sK hJ.rg zd zd rfl rfl ?_ ?_
  ·intro h0;subst h0;have b9:=hJ.bi.done;have k3:=b9.keys.len;have j9:=b9.blk.many_le;refine zh ?_;refine zFH rfl rfl ?_;refine zvH (ah (us:=[nI (b1:Nat),nI (m1:Nat)]) hJ.tb.V (NO _) (MP _) rfl) ?_;apply au hJ.rng 9 zo (MO _) rfl;intro tc c9 O15 j5 a2 h5 s6;apply zsa (us:=#[nI (b1:Nat),nI (m1:Nat)]) j5 (MP _);have j4:=j5.setRow (us:=#[nI (b1:Nat),nI (m1:Nat)]);have a4:Lr (λk=>k=9) O15 c9 O15 (c9.setRow tc #[nI (b1:Nat),nI (m1:Nat)]):=LU zd j5.tag rfl;generalize c9.setRow tc #[nI (b1:Nat),nI (m1:Nat)]=d6 at *;have a7:=a2.J a4;have a1:=hJ.sp.todoN a7 zo ((hJ.sp.todo.U a7 zd zd));refine zh ?_;apply zc call132 (rS w.heap.size O15 d6 sb tr e5 (h5.U a4) (.inr ⟨a1.blk.tag,a1.blk.cell 5 rfl⟩) a1.todo);intro o0 e3 f';have m7:=hJ.ms;have hq:∃b0 m0 fl b',o0=.tuple #[eP ((b0:Nat),(m0:Nat)),.bool fl]/\Lr (λq=>q=4) O15 d6 O15 e3/\MN eP LL O15 e3 4 tr b'/\BlT rows b5 b0 m0 fl c8 E2 b' a0/\(rows.length-a0)*37+b'.length+fl.toNat<=M:=by
    rcases f' with⟨h0,rfl,h1,h2⟩|⟨d8,k,x,d7,e,rfl,h1,h2⟩
    ·subst h0;exact⟨0,0,false,[],rfl,h1,h2,⟨λe=>absurd e zd,λ_=>b9⟩,m7⟩
    obtain⟨b0,m0,rfl,h3,h4⟩:=FH b9 e;exact⟨b0,m0,true,_,rfl,h1,h2,h3,by show _+_+1<=M;omega⟩
   obtain⟨b3,m3,s9,o1,rfl,g7,e7,l',o'⟩:=hq;have c':=j4.U g7 zd zd;refine zh ?_;apply zsa (us:=#[nI (b3:Nat),nI (m3:Nat)]) c' (MP _);have j3:=c'.setRow (us:=#[nI (b3:Nat),nI (m3:Nat)]);have g6:Lr (λk=>k=9) O15 e3 O15 (e3.setRow tc #[nI (b3:Nat),nI (m3:Nat)]):=LU zd c'.tag rfl;generalize e3.setRow tc #[nI (b3:Nat),nI (m3:Nat)]=w18 at *;have a6:Lr (λq=>q=4\/q=9) O15 d6 O15 w18:=(g7.mono (λ_ h=>.inl h) zd).J (g6.mono (λ_ h=>.inr h) zd);have f5:=a1.todoN a6 zo (e7.U g6 zd zd);have r8:=(hJ.U.J (a7.mono (λ_ h=>zo) zd)).J (a6.mono (λ_ h=>zo) zd);refine zh ?_;refine zx (reF nxF O15,w18,c8,E2,o1,a0,tc,b3,m3,s9) ⟨⟨r8.re nxF rfl (λb hb=>absurd rfl hb),((h5.U a4).U a6).re nxF rfl,f5.reN nxF (λt h h8 h9=>Ku zo h8 h9),j3.re nxF rfl,λq=>Kr _⟩,l'⟩ (by dsimp only;show _<_+1;omega)
  intro d8 k v d7 c9 k0 b6 a2;subst k0;have m9:k∈G.map (·.1):=(n6 k).1 (Nh.2 ⟨_,hJ.sub _ (MF _ (MR ..)),rfl⟩);obtain⟨i0,u0,p5⟩:=(hL.key k).1 m9;obtain⟨kn,p3⟩:∃kn:Nat,k=(kn:Int):=⟨_,p5.symm⟩
  subst p3;obtain⟨e0,p9,p8⟩:=Nh.1 (hJ.sub _ (MF _ (MR ..)));obtain⟨j,hj,p7⟩:=cd p9;subst p7;obtain⟨k4,o4⟩:=Nv p8;have m5:=hJ.gr j hj (by rw[k4];simp);obtain⟨h',t6⟩:=I1 hL.nd hj;obtain⟨L,n5⟩:∃L,L=(nth G j).2.2:=⟨_,rfl⟩
  rw[o4,<-n5]at m5;rw[k4,<-n5]at h';have i2:∀x,x∈L↔x<rows.length/\nth e2 x=kn/\nth e2 (nxD rows x m1)=b1:=λx=>by rw[<-h'];exact hL.mem (λx hx=>d9 x m1 hx g0) b7 kn x
  have n4:L.Nodup:=by rw[<-h'];exact hL.rnd (a5.blk.nd b1 l1) _
  have l9:L≠[]:=by rw[<-h'];exact hL.ne m9
  obtain⟨k1,u1⟩:=hJ.bi.here i2;have k5:=hJ.bi.keys;have k3:=k5.len;have j9:=hJ.bi.blk.many_le;have g4:=hJ.bi.blk.len;have a3:=hJ.sp.U a2 zo;have a':=m5.U a2 zo zo;have c6:=a3.st.at (kn:Int);have o6:=a'.sl.len_le;have o5:=c6.sl.len_le;have cs:c9.cell? (nA sb 4)=some (.map (some sr)):=a3.blk.cell 4 rfl;obtain⟨t4,o2,t3⟩:=tz hJ.bi.nd;refine zh ?_;refine zTH rfl rfl ?_;refine zvH (PS b6 rfl) ?_;refine zvH (aM a'.sl.sh Lj rfl) ?_;apply zv (MT a3.st.map LN rX (N2 _) (kn:Int) rfl rfl rfl (nU E2 _));refine zvH (aM c6.sl.sh Lj rfl) ?_;refine zC ?_ ?_
  ·intro j';replace j':L.length<(eh E2 (kn:Int)).length:=by have:=of_decide_eq_true j';omega
   have k':=hJ.bi.cut d9 a5.blk.alike g0 i2 n4 l9 j' v;refine zh ?_;apply zc call134 (yK w.heap.size O14 c9 sb nv tv fv bv sr tr rows.length (nxD rows) c8 E2 e5 a0 kn (3000+j) v L (hJ.rng.U a2) a3 a' k5 zo (λx hx=>by rw[g4];exact((i2 x).1 hx).1) zo k1 (λx hx=>by rw[g4];exact((hJ.bi.blk.mem kn k1 x).1 hx).1));rintro _ d6 ⟨v',O16,a4,l6,l0,d1,f4,k6,e8⟩;have a1:=a3.cut k5 k1 zo a' a4 (λq h=>h) l0 d1 f4 k6 e8;obtain⟨f,hf⟩:∃f,f=Ja (3000+j) (10+a0):=⟨_,rfl⟩
   have e1:∀t,t≠3000+j->f t=t:=λt ht=>by rw[hf];exact tu ht
   rw[<-hf]at a1;have b2:=k' v' (decide ((iO (λx=>nth (de c8 a0 L) x==a0) (eh E2 (kn:Nat))).length<L.length));have p0:=b2.blk.many_le;generalize decide ((iO (λx=>nth (de c8 a0 L) x==a0) (eh E2 (kn:Nat))).length<L.length)=lt at a1 b2;have i8:=Cn e5 kn a0 lt 37;generalize tdL e5 kn a0 lt 37=td5 at a1 b2 i8;generalize dc (dc E2 (a0:Int) (v,L)) (kn:Int) (v',iO (λx=>nth (de c8 a0 L) x==a0) (eh E2 (kn:Nat)))=E3 at a1 b2;generalize de c8 a0 L=bl3 at a1 b2;have m7:=hJ.ms;have d4:Lr (λq=>1<=q) (λ_=>0) w O16 d6:=(hJ.U.J (a2.mono (λ_ h=>zo) zd)).J (a4.mono (λ_ h=>zo) zo);refine zh ?_;refine zx (reF f O16,d6,d8++d7,some ((kn:Int),v),bl3,E3,td5,a0+1) ⟨d4.re f (e1 0 zo) (λb hb=>absurd rfl hb),l6.re f (e1 0 zo),a1,((hJ.tb.U a2 zd zd).U a4 zd zo).re f (e1 8 zo),(b6.U a4 zd zd zo zo).re f (e1 _ zo) (e1 _ zo),λk2 d2 hm=>?_,b2,?_,λe he=>hJ.sub e ?_⟩ (by dsimp only;simp)
   ·have t7:k2≠j:=λe=>by
     subst e;exact o2 (by rw[<-k4];exact hm)
    have k7:(nth G k2).1∈(d8++((kn:Int),v)::d7).map (·.1):=by
     simp only[ME,M4,Lz,Lp]at hm ⊢
     rcases hm with hm|hm
     ·exact .inl hm
     exact .inr (.inr hm)
    exact(((hJ.gr k2 d2 k7).U a2 zo zo).U a4 zo zo).re f (e1 _ zo)
   ·dsimp only;omega
   rcases Lz.1 he with he|he
   ·exact MG _ he
   exact MF _ (M0 _ he)
  intro k8;replace k8:(eh E2 (kn:Int)).length<=L.length:=dF k8;have k':=hJ.bi.skip i2 n4 k8;refine zh ?_;refine zx (O14,c9,d8++d7,some ((kn:Int),v),c8,E2,e5,a0) ⟨hJ.U.J (a2.mono (λ_ h=>zo) zd),hJ.rng.U a2,a3,hJ.tb.U a2 zd zd,b6,λk2 d2 hm=>?_,k',hJ.ms,λe he=>hJ.sub e ?_⟩ (by dsimp only;simp)
  ·have k7:(nth G k2).1∈(d8++((kn:Int),v)::d7).map (·.1):=by
    simp only[ME,M4,Lz,Lp]at hm ⊢
    rcases hm with hm|hm
    ·exact .inl hm
    exact .inr (.inr hm)
   exact(hJ.gr k2 d2 k7).U a2 zo zo
  rcases Lz.1 he with he|he
  ·exact MG _ he
  exact MF _ (M0 _ he)
end Go.Proofs.YtcfhbfflgnbacaaGreatDoor
namespace Go.VL
section
variable{κ ν:Type}[DecidableEq κ]{kv:κ→ix}{vv:ν→ix}{P:No}{N:Nat}{ops:Array NV}{Q:Pw→Q0→ka→Prop}{rest:List NV}{st:St}{w:ka}{t:MZ}{p:String}{e:Array PY}{x y z:P6}
def WL.insert{T K E:MZ}{O:Nat->Nat}{i r:Nat}{l:List (κ×ν)}(hm:MN kv vv O w i r l)(hT:P.underlying T=some (.map K E))(hK:KeyL P K kv)(a0:i≠0) 
  (k:κ) (u:ν) {kx ux:ix} (hx:ev st x=some (.map (some r))) (hy:ev st y=some kx) (hz:ev st z=some ux) (hk:kx=kv k) (hu:ux=vv u)
  (h:∀w',MN kv vv O w' i r (dc l k u)->Lr (λj=>j=i) O w O w'->WL P N ops Q rest st w'):WL P N ops Q (⟨none,.insert T x y z,t,p,e,none⟩::rest) st w:=by
 subst hk;subst hu;obtain⟨w',h1,h2,h3⟩:=eD hT hK hm a0 k u;exact jG (λa ha=>by simp only[execOp,ha.ev hx,ha.ev hy,ha.ev hz,Ps,h1,NU,Sem.run_pure]) (h w' h2 h3)
end
end Go.VL
namespace Go.VL
def RowT.freeRe{l:List α}(h:My enc E sz O w i v l)(hi:i≠0)(r:Ng B O w)(f:Nat->Nat)(hf:f i=0):Nm (reF f O) w v:=λa n c e _=>by
 have h1:=h.1.tag a.block (by subst e;rfl);exact⟨by unfold reF;rw[h1];exact hf,(r.rng a.block (by rw[h1];exact hi)).2⟩
def Free.re(h:Nm O w v)(f:Nat->Nat)(hf:f 0=0):Nm (reF f O) w v:=λa n c e hn=>⟨by unfold reF;rw[(h a n c e hn).1];exact hf,(h a n c e hn).2⟩
end Go.VL
namespace Go.Proofs.YtcfhbfflgnbacaaGreatDoor
def RwO.re{O:Nat->Nat}{w:ka}{i:Nat}{v:ix}{vs:List ix}{rows:List (List Nat)}(h:RwO O w i v vs rows)(f:Nat->Nat)(h0:f 0=0)(hi:f i=i):RwO (reF f O) w i v vs rows:=
 ⟨h.row.re f hi,h.len,λk hk=>⟨(h.at_ k hk).1,(h.at_ k hk).2.re f h0⟩⟩
def DK{s:Nat}(h:vX cl F s=none):vX cl (F++[s]) t=if cl s=cl t then some F.length else vX cl F t:=by
 unfold vX at h ⊢;rw[Nn]
 by_cases e:cl s=cl t
 ·rw[ap e];have:Nq (λo=>cl o==cl t) F=none:=by rw[<-e];exact h
  rw[this];simp[Mu,e]
 rw[am e]
 cases Nq (λo=>cl o==cl t) F with
 |some k=>simp
 |none=>simp[Mu,e]
def NumI(cl:Nat->Nat)(D:List (Int×Int))(F:List Nat):Prop:=∀t,bC D ((cl t:Nat):Int)=(vX cl F t).map λk:Nat=>(k:Int)
def B8(cl:Nat->Nat):NumI cl (dc [] ((cl 0:Nat):Int) 0) [0]:=λt=>by
 simp only[dc,bC,vX,Mu,List.findIdx?_nil]
 by_cases e:cl 0=cl t
 ·rw[ap (by rw[e]),ap (by simpa using e)];rfl
 rw[am zo,am (by simpa using e)];rfl
def NumI.add(h:NumI cl D F){s:Nat}(hs:vX cl F s=none):NumI cl (dc D ((cl s:Nat):Int) (F.length:Int)) (F++[s]):=λt=>by
 rw[bn,DK hs]
 by_cases e:cl s=cl t
 ·rw[ap (by rw[e]),ap e];rfl
 rw[am zo,am e];exact h t
def yL(nv tv:ix)(rows:List (List Nat))(a':List Nat)(w:ka)(hn:RowsN w nv rows)(i8:Sl fq 1 w tv a')(hr:RightD rows a'):
  NA Mw 52 [.agg #[nv,tv]] w λv w'=>
   ∃cl nv' tv',v=.agg #[nv',tv']/\nv'.oneCell'=true/\tv'.oneCell'=true/\Np w w'/\(∀p q,p<rows.length->q<rows.length->(cl p=cl q↔Alike (nxD rows) (nth a') p q))/\RowsG w.heap.size w' nv' (aV cl rows a').1/\Sl fq 1 w' tv' (aV cl rows a').2/\PM w.heap.size tv':=by
 have v1:=hr.le;have n3:=hr.pos;have s7:=hr.tl;have n5:=hr.nx;obtain⟨vs,m9,n0,u',m'⟩:=hn.free;have f6:Nm (λ_=>0) w tv:=i8.free0 λa=>by simp
 apply Ln func52 ntmps52 rfl rfl;refine zh ?_
 apply aI (aw w) 1 zo rfl rfl;intro db w1 O1 k7 t9 u3 v7;apply au u3 2 zo (MM _) rfl
 intro cb w2 O2 k9 r9 r' v6;have g8:=k7.U r9 zd zd;have i1:Lr (λq=>1<=q) (λ_=>0) w O2 w2:=(t9.mono (λ_ h=>zo) zd).J (r9.mono (λ_ h=>zo) zd);refine zh ?_;apply zv (ah (us:=[nv,tv]) g8.V (MU _) (M7 _) rfl);apply zc call56 (kY nv tv rows a' w2 (hn.ext i1.ext) (i8.ext i1.ext) hr);rintro _ w3 ⟨rfl,u7⟩;have l0:Lr (λ_=>False) O2 w2 O2 w3:=aa (λh=>h) O2 u7;have g7:=g8.U l0 zd (λh=>h);have k8:=k9.U l0 zd (λh=>h);have i0:=i1.J (l0.mono (λ_ h=>h.elim) zd);refine zh ?_;refine zFH rfl rfl ?_;apply zv (ah (us:=[nv,tv]) g7.V (MU _) (M7 _) rfl);apply zc call97 (vK nv tv rows a' w3 (hn.ext i0.ext) (i8.ext i0.ext) hr);rintro bv w4 ⟨bl,e0,u6,t8,h5,o7⟩;have l9:Lr (λ_=>False) O2 w3 O2 w4:=aa (λh=>h) O2 u6;have u2:=(r'.U l0).U l9;have g6:=g7.U l9 zd (λh=>h);have h0:=k8.U l9 zd (λh=>h);have p3:=i0.J (l9.mono (λ_ h=>h.elim) zd);have o8:Nm O2 w4 bv:=o7 _ _ (r'.U l0);have t7:∀p q,p<rows.length->q<rows.length->(nth bl p=nth bl q↔Alike (nxD rows) (nth a') p q):=h5;obtain⟨cl,d'⟩:∃cl,cl=nth bl:=⟨_,rfl⟩
 have b0:w4.cell? (adr bv 1 0)=some (nI ((cl 0:Nat):Int)):=by have:=e0.cell (i:=0) (j:=0) zo rfl;rw[ar]at this;rw[d'];exact this
 refine zh ?_;apply bx (λk:Int=>nI k) (λv:Int=>nI v) u2 3 zd rfl
 intro r w5 O5 s1 p1 u1;have h3:=e0.U o8 p1;have v8:w5.cell? (adr bv 1 0)=some (nI ((cl 0:Nat):Int)):=by have:=h3.cell (i:=0) (j:=0) zo rfl;rw[ar]at this;rw[d'];exact this
 refine zh ?_;refine zvH (ai h3.sh Lj (Ls _) rfl rfl 0 rfl zo) ?_
 apply WL.insert s1 Nz rX zd ((cl 0:Nat):Int) (0:Int) rfl rfl rfl rfl rfl;intro w6 s0 p0;have e4:=p1.J p0;have o4:=g6.U e4 zd zd;have o5:=h0.U e4 zd zd;have u0:=u1.U p0;refine zh ?_
 apply bd gE (enc:=aL) u0 4 zd (0:Nat) rfl rfl rfl zd rfl;intro s5 w7 O7 j' o' t';refine zh ?_
 apply au t' 5 zo (MM _) rfl;intro ob w8 O8 g0 l' p5 v5;have b9:Lr (λq=>3<=q) O2 w4 O8 w8:=((e4.mono (λ_ h=>zo) zd).J (o'.mono (λ_ h=>zo) zd)).J (l'.mono (λ_ h=>zo) zd);have l3:=(o'.mono (S':=λq=>q=4\/q=5) (λ_ h=>.inl h) zd).J (l'.mono (λ_ h=>.inr h) zd);have p9:=s0.U l3 zd zd;have f9:=j'.U l' zd zd;have b4:=p3.J (b9.mono (λ_ h=>zo) zd);have o6:=e0.U o8 b9;have h4:=o8.U b9;have d9:=g6.U b9 zd zd;have g':=h0.U b9 zd zd;obtain⟨f7,r8⟩:∃f:Nat->Nat,f=λt=>if t<=7 then t else 0:=⟨_,rfl⟩
 have f7i:∀t,t<=7->f7 t=t:=λt ht=>by rw[r8];exact ap ht
 have f7l:∀t,f7 t<=7:=λt=>by rw[r8];dsimp only;split<;>omega
 replace p9:=p9.re f7 (f7i 3 zd);replace f9:=f9.re f7 (f7i 4 zd);replace g0:=g0.re f7 (f7i 5 zd);replace d9:=d9.re f7 (f7i 1 zd);replace g':=g'.re f7 (f7i 2 zd);replace p5:=p5.re f7 (f7i 0 zd);replace b4:=b4.re f7 (f7i 0 zd) (λb hb=>absurd rfl hb);replace h4:=h4.re f7 (f7i 0 zd);have u4:∀b,reF f7 O8 b<=7:=λb=>f7l _
 generalize reF f7 O8=O8' at *;clear e0 h3 g8 g7 k9 k8 k7 h0 g6 s1 s0 j' l3 o' l' e4 p1 p0 b9 o4 o5;refine zh ?_;apply zlp (λz:Nat×(Nat->Nat)×World×List (Int×Int)×List Nat×ix×ix×ix×List ix×List (List Nat)×List Nat=>[(1,nP db),(2,nP cb),(3,bv),(4,.map (some r)),(5,z.2.2.2.2.2.1),(6,nP ob),(7,nI z.1)]) (λz=>z.2.2.1) (λz=>Lr (λq=>3<=q) O8' w8 z.2.1 z.2.2.1/\Ng w.heap.size z.2.1 z.2.2.1/\MN (λk:Int=>nI k) (λv:Int=>nI v) z.2.1 z.2.2.1 3 r z.2.2.2.1/\NumI cl z.2.2.2.1 z.2.2.2.2.1/\My aL 3 1 z.2.1 z.2.2.1 4 z.2.2.2.2.2.1 z.2.2.2.2.1/\MX z.2.1 z.2.2.1 5 ob #[z.2.2.2.2.2.2.1,z.2.2.2.2.2.2.2.1] 78/\RwO z.2.1 z.2.2.1 6 z.2.2.2.2.2.2.1 z.2.2.2.2.2.2.2.2.1 z.2.2.2.2.2.2.2.2.2.1/\My fq 28 1 z.2.1 z.2.2.1 7 z.2.2.2.2.2.2.2.1 z.2.2.2.2.2.2.2.2.2.2/\LI cl (nxD rows) (nth a') rows.length z.1 z.2.2.2.2.1 z.2.2.2.2.2.2.2.2.2.1 z.2.2.2.2.2.2.2.2.2.2/\fg cl (nxD rows) (nth a') (rows.length+1-z.1) z.1 z.2.2.2.2.1 z.2.2.2.2.2.2.2.2.2.1 z.2.2.2.2.2.2.2.2.2.2=aV cl rows a'/\(∀k,k<z.2.2.2.2.2.2.2.2.2.1.length->PM w.heap.size (nth z.2.2.2.2.2.2.2.2.1 k))) (λz=>rows.length-z.1) (0,O8',w8,dc [] ((cl 0:Nat):Int) (0:Int),[0],s5,nS,nS,[],[],[]) ⟨N6 zd _ _,p5,p9,B8 cl,f9,g0,⟨Mr _ _ _ _ _ _,rfl,λk hk=>absurd hk (ln k)⟩,Mr _ _ _ _ _ _,mS n3,rfl,λk hk=>absurd hk (ln k)⟩;rintro⟨i,O9,w9,D,F,j0,i7,f5,i6,a7,i'⟩ ⟨h9,m0,m4,l5,b7,f',c7,d7,f4,i9,g4⟩
 dsimp only at h9 m0 m4 l5 b7 f' c7 d7 f4 i9 g4 ⊢;have v4:=f4.reps.len;have t1:=b7.sl.len_le;have v0:=f4.rl;have s8:=f4.tln;have n2:=c7.len;refine zh ?_;refine zvH (aM b7.sl.sh Lj rfl) ?_;refine zC ?_ ?_
 ·intro g5;replace g5:i<F.length:=dT g5;obtain⟨fu,o3⟩:∃fu,rows.length+1-i=fu+1:=⟨rows.length-i,zo⟩
  rw[o3,fg,ap g5]at i9;have n':rows.length+1-(i+1)=fu:=zo;have p7:=f4.next g5 n5;obtain⟨p,hp⟩:∃p,p=nth F i:=⟨_,rfl⟩
  have l6:p<rows.length:=by rw[hp];exact f4.reps.lt _ (aJ g5)
  rw[<-hp]at i9 p7;have h8:=b4.J (h9.mono (λ_ h=>zo) zd);have m8:=m9.U n0 h8;obtain⟨r7,k5⟩:=m' p l6;have v2:=r7.U k5 h8;obtain⟨s4,u9⟩:=hr.row p l6;have m1:w9.cell? (adr j0 1 i)=some (nI (p:Int)):=by have:=b7.sl.cell (i:=i) (j:=0) g5 rfl;rw[ar]at this;rw[hp];exact this
  have m2:w9.cell? (nA db 0)=some nv:=(d9.U h9 zd zd).cell 0 rfl;have m3:w9.cell? (adr nv 1 p)=some (nth vs p):=by have:=m8.cell (i:=p) (j:=0) zo rfl;rwa[ar]at this
  refine zh ?_;apply PP zk zk
  refine zh ?_;refine zwH (ai b7.sl.sh Lj (Ls _) rfl rfl i rfl zo) ?_
  apply WS.nil;refine zh ?_
  rw[s4];have n9:=λm=>oO (p:=p) f4.reps (λm hm=>n5 p m l6 hm) m
  apply zlp (λy:Nat×(Nat->Nat)×World×List (Int×Int)×Value×ix=>[(1,nP db),(2,nP cb),(3,bv),(4,.map (some r)),(5,y.2.2.2.2.1),(6,nP ob),(7,nI (i:Nat)),(8,y.2.2.2.2.2),(38,nth vs p),(39,nI (37:Nat)),(40,nI y.1)]) (λy=>y.2.2.1) (λy=>y.1<=37/\Lr (λq=>q=3\/q=4\/q=8) O9 w9 y.2.1 y.2.2.1/\Ng w.heap.size y.2.1 y.2.2.1/\MN (λk:Int=>nI k) (λv:Int=>nI v) y.2.1 y.2.2.1 3 r y.2.2.2.1/\NumI cl y.2.2.2.1 (gh cl (nxD rows) p F y.1).1/\My aL 3 1 y.2.1 y.2.2.1 4 y.2.2.2.2.1 (gh cl (nxD rows) p F y.1).1/\My aL 3 1 y.2.1 y.2.2.1 8 y.2.2.2.2.2 (gh cl (nxD rows) p F y.1).2) (λy=>37-y.1) (0,O9,w9.drew,D,j0,nS) ⟨Li _,aa zd O9 (Lu w9).drew,m0.drew,⟨m4.blk,m4.tag,m4.born⟩,l5,b7.drew,Mr _ _ _ _ _ _⟩;rintro⟨j,O10,m5,D10,b6,rv⟩ ⟨hj,a9,b',b1,c5,a2,a0⟩;dsimp only at hj a9 b' b1 c5 a2 a0 ⊢;have l7:=n9 j hj;have n8:=l7.len;have n7:=l7.reps.len;have l1:=h8.J (a9.mono (λ_ h=>zo) zd);refine zh ?_
  refine zC ?_ ?_
  ·intro k4;replace k4:j<37:=dT k4;have n6:=r7.U k5 l1;obtain⟨to,n1⟩:∃to,to=nxD rows p j:=⟨_,rfl⟩
   have s6:to<rows.length:=by rw[n1];exact n5 p j l6 k4
   have k':=o6.U h4 ((h9.J (a9.mono (λ_ h=>zo) zd)));have k1:m5.cell? (adr (nth vs p) 1 j)=some (nI (to:Int)):=by have:=n6.cell (i:=j) (j:=0) zo rfl;rw[ar]at this;rw[n1];exact this
   have k2:m5.cell? (adr bv 1 to)=some (nI ((cl to:Nat):Int)):=by have:=k'.cell (i:=to) (j:=0) zo rfl;rw[ar]at this;rw[d'];exact this
   have l8:=c5 to;have e1:gh cl (nxD rows) p F (j+1)=(fnF cl (gh cl (nxD rows) p F j).1 to,(gh cl (nxD rows) p F j).2++[fnI cl (gh cl (nxD rows) p F j).1 to]):=by rw[n1];rfl
   refine zh ?_
   cases h6:vX cl (gh cl (nxD rows) p F j).1 to with
   |some k=>
    rw[h6]at l8;have h1:fnF cl (gh cl (nxD rows) p F j).1 to=(gh cl (nxD rows) p F j).1:=by unfold fnF;rw[h6];rfl
    have h2:fnI cl (gh cl (nxD rows) p F j).1 to=k:=by unfold fnI;rw[h6];rfl
    rw[h1,h2]at e1;refine zvH (dm (u:=.tuple #[nI (k:Int),.bool true]) b1 Nz rX (MC _) ((cl to:Nat):Int) rfl rfl rfl (by rw[l8];rfl)) ?_;refine zFH rfl rfl ?_;apply Nl gE a0 b' ((k:Nat)) (λ_=>rfl) rfl rfl rfl (by simp[Lk]) zo zo zo zd rfl rfl;intro m6 wz Oz c8 b8 p4;refine zh ?_;refine zxd (j+1,Oz,wz,D10,b6,m6) ⟨k4,a9.J (b8.mono (λ_ h=>zo) zd),p4,b1.U b8 zd zd,by dsimp only;rw[e1];exact c5,by dsimp only;rw[e1];exact a2.U b8 zd zd,by dsimp only;rw[e1];exact c8⟩
   |none=>
    rw[h6]at l8;have h1:fnF cl (gh cl (nxD rows) p F j).1 to=(gh cl (nxD rows) p F j).1++[to]:=by unfold fnF;rw[h6];rfl
    have h2:fnI cl (gh cl (nxD rows) p F j).1 to=(gh cl (nxD rows) p F j).1.length:=by unfold fnI;rw[h6];rfl
    rw[h1,h2]at e1;have u5:=c5.add h6;refine zvH (dm (u:=.tuple #[nI 0,.bool false]) b1 Nz rX (MC _) ((cl to:Nat):Int) rfl rfl rfl (by rw[l8];rfl)) ?_;refine zTH rfl rfl ?_;refine zvH (aM a2.sl.sh Lj rfl) ?_;apply Mt b1 Nz rX zd ((cl to:Nat):Int) (((gh cl (nxD rows) p F j).1.length:Nat):Int) rfl rfl rfl rfl rfl;intro i5 p' a5;have i3:=b'.U a5;have k0:=a2.U a5 zd zd;have a8:=a0.U a5 zd zd;refine zh ?_;apply Nl gE k0 i3 ((to:Nat)) (λ_=>rfl) rfl rfl rfl (by simp[Lk]) zo zo zo zd rfl rfl;intro m7 d6 O12 a3 b3 i2;have f8:=a8.U b3 zd zd;have i4:=p'.U b3 zd zd;refine zh ?_;apply Nl gE f8 i2 (((gh cl (nxD rows) p F j).1.length:Nat)) (λ_=>rfl) rfl rfl rfl (by simp[Lk]) zo zo zo zd rfl rfl;intro m6 wz Oz c8 b8 p4;refine zh ?_;refine zxd (j+1,Oz,wz,dc D10 ((cl to:Nat):Int) (((gh cl (nxD rows) p F j).1.length:Nat):Int),m7,m6) ⟨k4,((a9.J (a5.mono (λ_ h=>.inl h) zd)).J (b3.mono (λ_ h=>.inr (.inl h)) zd)).J (b8.mono (λ_ h=>.inr (.inr h)) zd),p4,i4.U b8 zd zd,by dsimp only;rw[e1];exact u5,by dsimp only;rw[e1];exact a3.U b8 zd zd,by dsimp only;rw[e1];exact c8⟩
  intro t4;obtain rfl:j=37:=dF t4;generalize v3:gh cl (nxD rows) p F 37=RQ at *;obtain⟨F2,r2⟩:=RQ;dsimp only at l7 n8 n7 c5 a2 a0 i9 p7;obtain⟨ra,rc,t0,_⟩:=a0.sl.shape;subst t0
  -- the row is nobody's now
  obtain⟨f,hf⟩:∃f:Nat->Nat,f=Ja 8 0:=⟨_,rfl⟩
  have e5:∀t,t≠8->f t=t:=λt ht=>by rw[hf];exact tu ht
  have f3:=(h9.J (a9.mono (S':=λq=>3<=q) (λ_ h=>zo) zd)).re f (e5 0 zd) (λb _=>e5 _ (by have:=u4 b;omega));have l4:=b'.re f (e5 0 zd);have s9:=a0.sl;have q':=a0.freeRe zd b' f (by rw[hf];exact C1 _ _);replace a2:=a2.re f (e5 4 zd);replace b1:=b1.re f (e5 3 zd);have e9:=(f'.U a9 zd zd).re f (e5 5 zd);have b5:=(c7.U a9 zd zd).re f (e5 0 zd) (e5 6 zd);have j5:=(d7.U a9 zd zd).re f (e5 7 zd);have s':=a0.newV zd b';clear a0;generalize reF f O10=O11 at *;have k6:=d9.U f3 zd zd;obtain⟨qF,r6⟩:=l7.pre;have n4:nth F2 i=p:=by rw[r6,az,ap g5,hp]
  have hF2l:F.length<=F2.length:=by rw[r6];simp
  have o0:m5.cell? (nA ob 0)=some i7:=e9.cell 0 rfl;refine zh ?_;apply Nl AJ b5.row l4 ((.slice ra r2.length rc:ix)) (λ_=>rfl) rfl rfl rfl (by simp[Lk]) zo zo zo zd rfl rfl;intro b2 i5 O12 a8 a5 i3;have c':=e9.U a5 zd zd
  have j8:RwO O12 i5 6 b2 (i6++[.slice ra r2.length rc]) (a7++[r2]):=⟨a8,by simp[n2],λk hk=>by
   rw[az,az]
   by_cases e:k<a7.length
   ·rw[ap zo,ap e];exact⟨(b5.at_ k e).1.U (b5.at_ k e).2 a5,(b5.at_ k e).2.U a5⟩
   have t3:k=a7.length:=by simp at hk;omega
   subst t3;rw[am zo,am e,show a7.length-i6.length=0 from by omega,N4,ao,ao]
   exact⟨s9.U q' a5,q'.U a5⟩⟩
  refine zh ?_;apply aj (j:=0) c' rfl (Pe _) a8.one rfl rfl rfl
  have b3:Lr (λj=>j=5) O12 i5 O12 (i5.setCell ⟨ob,0,none⟩ b2):=MV zd c'.tag rfl;have e8:MX O12 (i5.setCell ⟨ob,0,none⟩ b2) 5 ob #[b2,f5] 78:=c'.set 0 _;have j7:=j8.U b3 zd zd;have i2:=i3.U b3;generalize i5.setCell ⟨ob,0,none⟩ b2=d6 at *;have a6:=(a5.mono (S':=λq=>q=5\/q=6) (λ_ h=>.inr h) zd).J (b3.mono (λ_ h=>.inl h) zd);have j4:=j5.U a6 zd zd;have a3:=a2.U a6 zd zd;have i4:=b1.U a6 zd zd;have d0:=k6.U a6 zd zd;have d5:=f3.J (a6.mono (λ_ h=>zo) zd);have j3:=i8.U f6 (b4.J (d5.mono (λ_ h=>zo) zd));refine zh ?_;have d1:d6.drew.cell? (nA db 1)=some tv:=d0.cell 1 rfl;have d2:d6.drew.cell? (adr b6 1 i)=some (nI (p:Int)):=by have:=a3.sl.cell (i:=i) (j:=0) zo rfl;rw[ar,n4]at this;exact this
  have d3:d6.drew.cell? (adr tv 1 p)=some (.int .u64 ((nth a' p:Nat):Int)):=by have:=j3.cell (i:=p) (j:=0) zo rfl;rwa[ar]at this
  have d4:d6.drew.cell? (nA ob 1)=some f5:=e8.cell 1 rfl;have o9:Lr (λ_=>False) O12 d6 O12 d6.drew:=aa (λh=>h) O12 (Lu d6).drew;apply aN (λW=>W.cell? (nA db 1)=some tv/\W.cell? (adr b6 1 i)=some (nI (p:Int))/\W.cell? (adr tv 1 p)=some (.int .u64 ((nth a' p:Nat):Int))) 14 rfl zk;refine zin ⟨d1,d2,d3⟩ λzS=>?_
  apply zrf 0 rfl zS rfl;apply zrf 2 rfl zS rfl
  apply zt 3 rfl zS (λw1 j1=>RV.ld j1.1 rfl);apply zrm 4 rfl zS rfl
  apply zrm 5 rfl zS rfl;apply zr 6 rfl zS (λ_=>ai a3.sl.sh Lj (Ls _) rfl rfl i rfl zo)
  apply zt 7 rfl zS (λw1 j1=>RV.ld j1.2.1 rfl);apply zr 8 rfl zS (λ_=>ai j3.sh P3 (sizeOf28 _) rfl rfl p rfl zo)
  apply zt 9 rfl zS (λw1 j1=>RV.ld j1.2.2 rfl);apply bU 1 10 iP (enc:=fq) (nth a' p) rfl rfl zk zk zk zk (λW hE=>NS (hE.cell d4) (PK _) rfl) (λW hE=>⟨hE.cell d1,hE.cell d2,hE.cell d3⟩) rfl rfl rfl zd rfl rfl rfl rfl rfl
  intro s3 s2 j6 p8;have h7:Lr (λ_=>False) O12 d6 O12 s2:=o9.J (aa (λh=>h) O12 p8);apply Lo 11 zk rfl;apply aC iP (j4.U h7 zd (λh=>h)) (i2.U h7) j6 (by simp) rfl rfl (by simp) (by simp[Lk]) (by rw[Lm];omega) (by rw[Lm];omega) zd rfl;intro c6 e6 O15 e7 p2 p6;have a4:Lr (λq=>q=7) O12 d6 O15 e6:=(h7.mono (λ_ h=>h.elim) zd).J p2;have c9:=e8.U a4 zd zd;have l2:=d5.J (a4.mono (λ_ h=>zo) zd);have e1:e6.cell? (nA db 1)=some tv:=(d0.U a4 zd zd).cell 1 rfl;have e2:e6.cell? (adr b6 1 i)=some (nI (p:Int)):=by have:=(a3.U a4 zd zd).sl.cell (i:=i) (j:=0) zo rfl;rw[ar,n4]at this;exact this
  have e3:e6.cell? (adr tv 1 p)=some (.int .u64 ((nth a' p:Nat):Int)):=by have:=(i8.U f6 (b4.J (l2.mono (λ_ h=>zo) zd))).cell (i:=p) (j:=0) zo rfl;rwa[ar]at this
  refine zh ?_;apply ae ⟨e1,e2,e3⟩
  apply zrf 12 rfl ⟨e1,e2,e3⟩ rfl;apply Lo 13 zk rfl
  apply aj (j:=1) c9 rfl (NN _) e7.one rfl rfl rfl;have h':Lr (λj=>j=5) O15 e6 O15 (e6.setCell ⟨ob,1,none⟩ c6):=MV zd c9.tag rfl;have k3:MX O15 (e6.setCell ⟨ob,1,none⟩ c6) 5 ob #[b2,c6] 78:=c9.set 1 _;generalize e6.setCell ⟨ob,1,none⟩ c6=w16 at *;have a1:=(a4.mono (S':=λq=>q=5\/q=7) (λ_ h=>.inr h) zd).J (h'.mono (λ_ h=>.inl h) zd);have e':=d5.J (a1.mono (λ_ h=>zo) zd);have g1:w16.cell? (nA db 1)=some tv:=(d0.U a1 zd zd).cell 1 rfl;have g2:w16.cell? (adr b6 1 i)=some (nI (p:Int)):=by have:=(a3.U a1 zd zd).sl.cell (i:=i) (j:=0) zo rfl;rw[ar,n4]at this;exact this
  have g3:w16.cell? (adr tv 1 p)=some (.int .u64 ((nth a' p:Nat):Int)):=by have:=(i8.U f6 (b4.J (e'.mono (λ_ h=>zo) zd))).cell (i:=p) (j:=0) zo rfl;rwa[ar]at this
  refine zh ?_;apply ae ⟨g1,g2,g3⟩
  apply MJ zk;refine zh ?_
  refine zxd (i+1,O15,w16,D10,F2,b6,b2,c6,i6++[.slice ra r2.length rc],a7++[r2],i'++[nth a' p]) ⟨e',p6.U h',i4.U a1 zd zd,c5,a3.U a1 zd zd,k3,j7.U a1 zd zd,e7.U h' zd zd,p7,by dsimp only;rw[n'];exact i9,λk hk=>?_⟩;dsimp only at hk ⊢;rw[az]
  by_cases e:k<i6.length
  ·rw[ap e];exact g4 k zo
  rw[am e,show k-i6.length=0 from by simp at hk;omega,ao];exact s'
 intro t5;have t2:=f4.le;obtain rfl:i=F.length:=dF t5;have j9:aV cl rows a'=(a7,i'):=by
  rw[<-i9];obtain⟨fu,o3⟩:∃fu,rows.length+1-F.length=fu+1:=⟨rows.length-F.length,zo⟩
  rw[o3,fg,am zo]
 have o1:=c7.row.one;have o2:=d7.one;have g9:=g'.U h9 zd zd;refine zh ?_;apply zv (ah (us:=[i7,f5]) f'.V (MU _) (M7 _) rfl);apply zsb (us:=#[i7,f5]) g9 (M7 _) (by simp only[MA,o1,o2];rfl);have t6:=g9.setRow (us:=#[i7,f5]);have b8:Lr (λj=>j=2) O9 w9 O9 (w9.setRow cb #[i7,f5]):=LU zd g9.tag rfl;have d8:=c7.U b8 zd zd;have j2:=d7.U b8 zd zd;refine zh ?_;refine aO rfl rfl t6.V (MU _) (M7 _) ⟨cl,i7,f5,rfl,o1,o2,((b4.J (h9.mono (λ_ h=>zo) zd)).J (b8.mono (λ_ h=>zo) zd)).ext,by rw[d'];exact t7,by rw[j9];exact⟨i6,d8.row.sl,d8.row.newV zd (m0.U b8),d8.len,λk hk=>⟨(d8.at_ k hk).1,g4 k hk⟩⟩,by rw[j9];exact j2.sl,j2.newV zd (m0.U b8)⟩
end Go.Proofs.YtcfhbfflgnbacaaGreatDoor
namespace Go.VL
section
variable{P:No}{N:Nat}{st:St}{w:ka}{t:MZ}{x:P6}
def Fz{kv:κ->ix}{vv:ν->ix}{K:MZ}{l:List (κ×ν)}(hm:MN kv vv O w i r l)(hu:P.underlying T=some (.map K E))(hx:ev st x=some (.map (some r))):RV P N (.call ⟨.builtin .len,#[x],#[T]⟩) t st w (nI (l.length:Int)):=
 λa ha a0 p e g=>by
  obtain⟨es,c,h1,h2⟩:=hm.blk;have h3:es.size=l.length:=by have:=congrArg Pu h2;simpa using this
  simp only[execOp,resolve,List.map_toArray,M4,List.map_nil,ha.ev hx];simp[invoke,Go.builtin,PZ,run_underlying hu,goInt,getObj,Sem.run,h1,h3]
end
section
variable{P:No}{N:Nat}{ops:Array NV}{Q:Pw→Q0→ka→Prop}{rest:List NV}{st:St}{w:ka}
variable{t:MZ}{p:String}{e:Array PY}{d:Nat}
def mM{a0:Nat}(he:Pj P T E sz a0)(enc:α->List ix)(r:Ng B O w)(i:Nat)(a1:i≠0)(hd:Ny d N=true) 
  (h:∀v w' O',My enc E sz O' w' i v []->Lr (λk=>k=i) O w O' w'->Ng B O' w'->WL P N ops Q rest ((d,v)::st) w'):WL P N ops Q (⟨some d,.buildSlice T 0 #[],t,p,e,none⟩::rest) st w:=by
 obtain⟨a2,z,hi,hz,a4,a5,a3⟩:=he.parts;have u1:=PH (S:=λk=>k=i) (λe=>a1 e.symm) r (.cells #[] E) i;refine WL.val (v:=.slice (some ⟨w.heap.size,0,none⟩) 0 0) (w':=w.alloc (.cells #[] E)) hd (λa ha=>?_) (h _ _ (og O w.heap.size i) ⟨⟨?_,λg hg=>?_⟩,λc hc=>absurd hc (by simp)⟩ u1 (r.U u1))
 ·simp[execOp,Instr.buildSlice,run_underlying he.ht,sizeOf,typeInfo,hi,Instr.fill,newRow,newObj,show Array.range 0 = #[]from rfl];rfl
 ·have:=NZ (base:=0) (size:=sz) (e:=E) w #[] 0 (Li _) (by simp[maxLen]) (by simp);simpa using this
 simp[Pg]at hg;subst hg;exact fJ _ _ _
end
end Go.VL
namespace Go.Proofs.YtcfhbfflgnbacaaGreatDoor
def iA:List Int->Nat->Nat
 |[],n=>n
 |g::r,n=>if g<0\/(n:Int)<g then 0 else iA r (max n (g.toNat+1))
def fZ(l:List Int):Nat:=if l.length=37 then iA l 0 else 0
def jL(l:List Int)(sv:ix)(w:ka)(h:Sl encI 1 w sv l): NA Mw 31 [sv] w λv w' => v = .int .i64 ((fZ l:Nat):Int) ∧ w' = w := by
  have hl := h.len_le
  apply Ln func31 ntmps31 rfl rfl
  refine zh ?_
  refine zC ?_ ?_
  · intro hne
    refine zh ?_
    refine af rfl rfl ⟨by unfold fZ; rw[am (λe => by rw[e]at hne; simp at hne)]; rfl, rfl⟩
  · intro he
    replace he : l.length = 37 := by have : (l.length : Int) = 37 := by simpa using he
                                     omega
    have hm:fZ l = iA l 0 := by unfold fZ; rw[ap he]
    rw[hm]
    refine zh ?_
    apply zlp (λz:Nat×Nat => [(3, .int .i64 z.2), (9, sv), (10, .int .i64 l.length), (11, .int .i64 z.1)]) (λz => w) (λz => z.1 ≤ l.length ∧ z.2 ≤ z.1 ∧ iA (l.drop z.1) z.2 = iA l 0) (λz => l.length - z.1) (0, 0) ⟨Li _, Ll _, rfl⟩
    rintro⟨i, n⟩ ⟨hi, hn, heq⟩
    dsimp only at hi hn heq ⊢
    refine zh ?_
    refine zC ?_ ?_
    · intro hlt
      replace hlt:i < l.length := by have := of_decide_eq_true hlt; omega
      have m1:w.cell? (adr sv 1 i) = some (.int .i64 (nth l i)) := by have := h.cell (i := i) (j := 0) hlt rfl; rwa[ar]at this
      rw[List.drop_eq_getElem_cons hlt, ← aB hlt, iA]at heq
      refine zh ?_
      by_cases h0:nth l i < 0
      · rw[ap (.inl h0)]at heq
        rw[← heq]
        apply ax (d := 17) rfl (b' := true) ((decide_eq_true h0))
        refine zh ?_
        refine zTH rfl rfl ?_
        refine af rfl rfl ⟨rfl, rfl⟩
      · skip
        apply ax (d := 17) rfl (b' := false) ((decide_eq_false h0))
        refine zh ?_
        refine zC ?_ ?_
        · intro h1
          replace h1:(n:Int) < nth l i := of_decide_eq_true h1
          rw[ap (.inr h1)]at heq
          rw[← heq]
          refine zh ?_
          refine af rfl rfl ⟨rfl, rfl⟩
        · intro h1
          replace h1:¬(n:Int) < nth l i := of_decide_eq_false h1
          rw[am (λh => h.elim h0 h1)]at heq
          refine zh ?_
          refine zvH (fY rfl rfl) ?_
          rw[show max (n:Int) (nth l i + 1) = ((max n ((nth l i).toNat + 1):Nat):Int)from by omega]
          refine zxd (i + 1, max n ((nth l i).toNat + 1)) ⟨hlt, by dsimp only; omega, heq⟩
    · intro hge
      obtain rfl:i = l.length := by have := of_decide_eq_false hge; omega
      rw[Pc, iA]at heq
      rw[← heq]
      refine zh ?_
      refine af rfl rfl ⟨rfl, rfl⟩
abbrev yW(d:ix×ix):List ix:=[d.1,d.2]
def qW(rows:List (List Nat))(m:Nat):List UInt8:=rows.flatMap λr=>[Mp (nth r m / 256),Mp (nth r m % 256)]
def lA(tabs:List (List (List Nat)))(m:Nat):List UInt8:=tabs.flatMap λrows=>qW rows m
def mG(rows:List (List Nat))(m:Nat):(qW rows m).length=2*rows.length:=by
 unfold qW
 induction rows with
 |nil=>rfl
 |cons r l ih=>rw[Mz,M9,ih];simp;omega
structure TabsD(w:ka)(sv:ix)(ds:List (ix×ix))(tabs:List (List (List Nat)))(tlss:List (List Nat)):Prop where
 sl:Sl yW 2 w sv ds
 l1:tabs.length=ds.length
 l2:tlss.length=ds.length
 at_:∀i,i<ds.length->RowsN w (nth ds i).1 (nth tabs i)/\Sl fq 1 w (nth ds i).2 (nth tlss i)/\RightD (nth tabs i) (nth tlss i)
def TabsD.ext{w w':ka}{sv:ix}{ds:List (ix×ix)}{tabs:List (List (List Nat))}{a0:List (List Nat)}(h:TabsD w sv ds tabs a0)(e:Np w w'):TabsD w' sv ds tabs a0:=
 ⟨h.sl.ext e,h.l1,h.l2,λi hi=>⟨(h.at_ i hi).1.ext e,(h.at_ i hi).2.1.ext e,(h.at_ i hi).2.2⟩⟩
def RowsN.one{w:ka}{v:ix}{rows:List (List Nat)}(h:RowsN w v rows):v.oneCell'=true:=by
 obtain⟨vs,h1,_⟩:=h;exact h1.one
def BQ(ds:List (ix×ix))(tabs:List (List (List Nat)))(b3:List (List Nat))(sv:ix)(m:Nat)(w:ka)(h:TabsD w sv ds tabs b3)(hm:m<37)(e7:ds.length<=1000):
  NA Mw 57 [sv,nI (m:Nat)] w λv w'=>v=.string (bs (lA tabs m))/\Np w w':=by
 have d2:=h.l1;have e4:=h.sl;apply Ln func57 ntmps57 rfl rfl;refine zh ?_;apply zlp (λz:Nat×ix×(Nat->Nat)×World=>[(1,nI (m:Nat)),(5,z.2.1),(10,sv),(11,nI ds.length),(12,nI z.1)]) (λz=>z.2.2.2) (λz=>z.1<=ds.length/\My DW 5 1 z.2.2.1 z.2.2.2 1 z.2.1 (lA (tabs.take z.1) m)/\(lA (tabs.take z.1) m).length<=2000*z.1/\Lr (λq=>1<=q) (λ_=>0) w z.2.2.1 z.2.2.2/\Ng w.heap.size z.2.2.1 z.2.2.2) (λz=>ds.length-z.1) (0,nS,λ_=>0,w) ⟨Li _,Mr _ _ _ _ _ _,Li _,N6 zd _ _,aw w⟩;rintro⟨i,v1,O1,w1⟩ ⟨hi,a2,d3,hU,hR⟩;dsimp only at hi a2 d3 hU hR ⊢;have h1:=h.ext hU.ext;have d1:=h1.sl;refine zh ?_;refine zC ?_ ?_
 ·intro a5;replace a5:i<ds.length:=dT a5;obtain⟨c9,c7,b8⟩:=h1.at_ i a5;have o1:=c9.one;have o2:=c7.one;obtain⟨rows,a1⟩:∃rows,rows=nth tabs i:=⟨_,rfl⟩
  rw[<-a1]at c9 b8;have e5:=b8.le;have c8:lA (tabs.take (i+1)) m=lA (tabs.take i) m++qW rows m:=by
   unfold lA;rw[aG zo,MK,<-a1];simp
  refine zh ?_;apply zv (ah (us:=yW (nth ds i)) (λj u hu=>d1.cell a5 hu) (MU _) (M7 _) rfl)
  apply au hR 2 zo (MM _) rfl;intro db w2 O2 a4 d9 e1 e8;apply zsb (us:=#[(nth ds i).1,(nth ds i).2]) a4 (M7 _) (by simp only[MA,o1,o2];rfl)
  have b':=a4.setRow (us:=#[(nth ds i).1,(nth ds i).2]);have c':Lr (λj=>j=2) O2 w2 O2 (w2.setRow db #[(nth ds i).1,(nth ds i).2]):=LU zd a4.tag rfl;have b0:=d9.J c';have a9:=a2.U b0 zd zd;have e0:=e1.U c';have b2:=hU.J (b0.mono (λ_ h=>zo) zd);generalize w2.setRow db #[(nth ds i).1,(nth ds i).2]=w3 at *;have c0:w3.cell? (nA db 0)=some (nth ds i).1:=b'.cell 0 rfl;have b7:RowsN w (nth ds i).1 rows:=by rw[a1];exact(h.at_ i a5).1
  obtain⟨vs,a6,e3,a7⟩:=b7;have e2:=a6.ext b2.ext;refine zh ?_;apply zlp (λy:Nat×ix×(Nat->Nat)×World=>[(1,nI (m:Nat)),(5,y.2.1),(10,sv),(11,nI ds.length),(12,nI i),(17,(nth ds i).1),(18,nI vs.length),(19,nI y.1)]) (λy=>y.2.2.2) (λy=>y.1<=rows.length/\My DW 5 1 y.2.2.1 y.2.2.2 1 y.2.1 (lA (tabs.take i) m++qW (rows.take y.1) m)/\Lr (λq=>1<=q) (λ_=>0) w y.2.2.1 y.2.2.2/\Ng w.heap.size y.2.2.1 y.2.2.2) (λy=>rows.length-y.1) (0,v1,O2,w3) ⟨Li _,by dsimp only;rw[Pk];exact(by simpa[qW]using a9),b2,e0⟩;rintro⟨j,v4,O4,w4⟩ ⟨hj,a0,a',c6⟩;dsimp only at hj a0 a' c6 ⊢;have b5:=a6.ext a'.ext;have d6:=mG (rows.take j) m;have c7:(rows.take j).length<=j:=by simp;omega
  refine zh ?_;refine zC ?_ ?_
  ·intro a3;replace a3:j<rows.length:=dT a3;have b9:=(a7 j a3).ext a'.ext;obtain⟨r1,r2⟩:=b8.row j a3;obtain⟨p,hp⟩:∃p,p=nth (nth rows j) m:=⟨_,rfl⟩
   have e6:p<=999:=by have:=r2 m hm;rw[<-hp]at this;omega
   have m1:w4.cell? (adr (nth ds i).1 1 j)=some (nth vs j):=by have:=b5.cell (i:=j) (j:=0) zo rfl;rwa[ar]at this
   have b6:qW (rows.take (j+1)) m=qW (rows.take j) m++[Mp (p / 256),Mp (p % 256)]:=by
    unfold qW;rw[aG a3,MK,hp];simp
   refine zh ?_;have k1:w4.drew.cell? (adr (nth vs j) 1 m)=some (nI (p:Int)):=by have:=b9.cell (i:=m) (j:=0) zo rfl;rw[ar]at this;rw[hp];exact this
   apply aN (λW=>W.cell? (adr (nth vs j) 1 m)=some (nI (p:Int))) 15 rfl zk;apply zrm 0 rfl k1 rfl
   apply zrm 1 rfl k1 rfl;apply zrm 2 rfl k1 rfl
   apply zr 3 rfl k1 (λ_=>ai b9.sh Lj (Ls _) rfl rfl m rfl zo);apply zt 4 rfl k1 (λw1 b4=>RV.ld b4 rfl)
   apply zr 5 rfl k1 (λ_=>jI (a:=p) (b:=8) rfl rfl rfl rfl zd);apply zr 6 rfl k1 (λ_=>oY Ns Nf rfl)
   apply zrm 7 rfl k1 rfl;apply zrm 8 rfl k1 rfl
   apply zr 9 rfl k1 (λ_=>ai b9.sh Lj (Ls _) rfl rfl m rfl zo);apply zt 10 rfl k1 (λw1 b4=>RV.ld b4 rfl)
   apply zr 11 rfl k1 (λ_=>oY Ns Nf rfl);rw[sS p,sS (p / 2^8),show p / 2^8 % 256=p / 256 from by omega];apply Lo 12 zk rfl
   apply fD Nj (sizeOf5 _) (PT _) DW [Mp (p / 256),Mp (p % 256)] rfl rfl rfl rfl zk (by simp) rfl;intro bv w5 d7 d0;have c5:Lr (λ_=>False) O4 w4 O4 w5:=(aa (λh=>h) O4 (Lu w4).drew).J (aa (λh=>h) O4 d0);refine zh ?_
   apply ae (d0.cell k1);apply Lo 13 zk rfl
   apply aC L5 (a0.U c5 zd λh=>h) (c6.U c5) d7 (by simp) rfl rfl (by simp) (by simp[Lk]) (by simp;omega) (by simp;omega) zd rfl;intro v6 w6 O6 a8 d8 d';have b1:Lr (λq=>1<=q) (λ_=>0) w O6 w6:=(a'.J (c5.mono (λ_ h=>h.elim) zd)).J (d8.mono (λ_ h=>zo) zd);have k6:w6.cell? (adr (nth vs j) 1 m)=some (nI (p:Int)):=by have:=((a7 j a3).ext b1.ext).cell (i:=m) (j:=0) zo rfl;rw[ar]at this;rw[hp];exact this
   refine zh ?_;apply ae k6
   apply zra 14 rfl k6 rfl;apply MJ zk
   refine zh ?_;refine zxd (j+1,v6,O6,w6) ⟨a3,by dsimp only;rw[b6,<-Na];exact a8,b1,d'⟩
  intro d4;obtain rfl:j=rows.length:=dF d4;rw[M8]at a0 d6;refine zh ?_;refine zxd (i+1,v4,O4,w4) ⟨a5,by dsimp only;rw[c8];exact a0,by dsimp only;rw[c8,M9];omega,a',c6⟩
 intro d5;obtain rfl:i=ds.length:=dF d5;rw[<-d2,M8]at a2;refine zh ?_;refine zvH (AY a2.sl Nj Nf Pd rfl) ?_;refine af rfl rfl ⟨rfl,hU.ext⟩
def xN(S:List (List UInt8))(k:List UInt8):Option Nat:=S.findIdx? (· == k)
def xP(S:List (List UInt8))(k:List UInt8):List (List UInt8):=if(xN S k).isSome=true then S else S++[k]
def pK(S:List (List UInt8))(k:List UInt8):Nat:=(xN S k).getD S.length
def cI(ks:List (List UInt8)):Nat->List (List UInt8)×List Nat
 |0=>([],[])
 |i+1=>(xP (cI ks i).1 (nth ks i),(cI ks i).2++[pK (cI ks i).1 (nth ks i)])
def DA{t:List UInt8}(h:xN S s=none):xN (S++[s]) t=if s=t then some S.length else xN S t:=by
 unfold xN at h ⊢;rw[Nn]
 by_cases e:s=t
 ·rw[ap e];have:Nq (λo=>o==t) S=none:=by rw[<-e];exact h
  rw[this];simp[Mu,e]
 rw[am e]
 cases Nq (λo=>o==t) S with
 |some k=>simp
 |none=>simp[Mu,e]
def lW(ks:List (List UInt8)):∀i,(cI ks i).2.length=i/\(cI ks i).1.length<=i
 |0=>⟨rfl,Ll _⟩
 |i+1=>by
  obtain⟨h1,h2⟩:=lW ks i;unfold cI;refine⟨by simp[h1],?_⟩;dsimp only;unfold xP
  split
  ·omega
  simp;omega
structure NumK(D:List (ByteArray×Int))(S:List (List UInt8)):Prop where
 at_:∀k,bC D (bs k)=(xN S k).map λn:Nat=>(n:Int)
 len:D.length=S.length
def GW[DecidableEq κ]{l:List (κ×ν)}{k:κ}(h:bC l k=none)(x:ν):dc l k x=l++[(k,x)]:=by
 induction l with
 |nil=>rfl
 |cons p r ih=>
  obtain⟨a,y⟩:=p;simp only[bC]at h
  split at h
  ·cases h
  rename_i hn;simp only[dc,am hn,ih h,ND]
def NumK.add{D:List (ByteArray×Int)}(h:NumK D S)(hs:xN S s=none):NumK (dc D (bs s) (D.length:Int)) (S++[s]):=by
 refine⟨λk=>?_,?_⟩
 ·rw[bn,DA hs]
  by_cases e:s=k
  ·rw[ap (by rw[e]),ap e,h.len];rfl
  rw[am (λe2=>e (Ip e2)),am e];exact h.at_ k
 rw[GW (by rw[h.at_,hs];rfl)];simp[h.len]
def vp(ks:List (List UInt8))(sv:ix)(w:ka)(h:Sl encS 1 w sv ks)(c5:ks.length<=1000):NA Mw 58 [sv] w λv w'=>Sl aL 1 w' v (cI ks ks.length).2/\Np w w'/\PM w.heap.size v:=by
 apply Ln func58 ntmps58 rfl rfl;refine zh ?_
 apply bx Nc (λv:Int=>nI v) (aw w) 2 zd rfl;intro r w1 O1 b8 b1 b5;have h1:=h.ext b1.ext;refine zh ?_
 apply zlp (λz:Nat×ix×(Nat->Nat)×World×List (ByteArray×Int)=>[(3,.map (some r)),(4,z.2.1),(10,sv),(11,nI ks.length),(12,nI z.1)]) (λz=>z.2.2.2.1) (λz=>z.1<=ks.length/\My aL 3 1 z.2.2.1 z.2.2.2.1 1 z.2.1 (cI ks z.1).2/\MN Nc (λv:Int=>nI v) z.2.2.1 z.2.2.2.1 2 r z.2.2.2.2/\NumK z.2.2.2.2 (cI ks z.1).1/\Lr (λq=>1<=q) (λ_=>0) w z.2.2.1 z.2.2.2.1/\Ng w.heap.size z.2.2.1 z.2.2.2.1) (λz=>ks.length-z.1) (0,nS,O1,w1,[]) ⟨Li _,Mr _ _ _ _ _ _,b8,⟨λk=>rfl,rfl⟩,b1.mono (λ_ h=>zo) zd,b5⟩;rintro⟨i,v2,O2,w2,D⟩ ⟨hi,a0,a3,hN,a8,a9⟩;dsimp only at hi a0 a3 hN a8 a9 ⊢;have h2:=h.ext a8.ext;obtain⟨b',b9⟩:=lW ks i;refine zh ?_
 refine zC ?_ ?_
 ·intro a6;replace a6:i<ks.length:=dT a6;obtain⟨k,hk⟩:∃k,k=nth ks i:=⟨_,rfl⟩
  have m1:w2.cell? (adr sv 1 i)=some (.string (bs k)):=by have:=h2.cell (i:=i) (j:=0) a6 rfl;rw[ar]at this;rw[hk];exact this
  have a7:=hN.at_ k;have e1:cI ks (i+1)=(xP (cI ks i).1 k,(cI ks i).2++[pK (cI ks i).1 k]):=by rw[hk];rfl
  refine zh ?_
  cases a2:xN (cI ks i).1 k with
  |some q=>
   rw[a2]at a7;have f1:xP (cI ks i).1 k=(cI ks i).1:=by unfold xP;rw[a2];rfl
   have f2:pK (cI ks i).1 k=q:=by unfold pK;rw[a2];rfl
   rw[f1,f2]at e1;refine zvH (dm (u:=.tuple #[nI (q:Int),.bool true]) a3 MD vR (MC _) (bs k) rfl rfl rfl (by rw[a7];rfl)) ?_;refine zFH rfl rfl ?_;apply zv (MT (u:=nI (q:Int)) a3 MD vR (MC _) (bs k) rfl rfl rfl (by rw[a7];rfl));apply Nl gE a0 a9 ((q:Nat)) (λ_=>rfl) rfl rfl rfl (by simp[Lk]) zo zo zo zd rfl rfl;intro v3 w3 O3 a1 a4 a';refine zh ?_;refine zxd (i+1,v3,O3,w3,D) ⟨a6,by dsimp only;rw[e1];exact a1,a3.U a4 zd zd,by dsimp only;rw[e1];exact hN,a8.J (a4.mono (λ_ h=>zo) zd),a'⟩
  |none=>
   rw[a2]at a7;have f1:xP (cI ks i).1 k=(cI ks i).1++[k]:=by unfold xP;rw[a2];rfl
   have f2:pK (cI ks i).1 k=(cI ks i).1.length:=by unfold pK;rw[a2];rfl
   rw[f1,f2]at e1;have b6:=hN.add a2;have b7:=hN.len;refine zvH (dm (u:=.tuple #[nI 0,.bool false]) a3 MD vR (MC _) (bs k) rfl rfl rfl (by rw[a7];rfl)) ?_;refine zTH rfl rfl ?_;apply zv (Fz a3 MD rfl);apply Mt a3 MD vR zd (bs k) (D.length:Int) rfl rfl rfl rfl rfl;intro w3 b2 a4;have a1:=a0.U a4 zd zd;have a':=a9.U a4;refine zh ?_;apply zv (MT (u:=nI (((cI ks i).1.length:Nat):Int)) b2 MD vR (MC _) (bs k) rfl rfl rfl (by rw[bn,ap rfl,b7];rfl));apply Nl gE a1 a' (((cI ks i).1.length:Nat)) (λ_=>rfl) rfl rfl rfl (by simp[Lk]) zo zo zo zd rfl rfl;intro v4 w4 O4 a5 b0 b4;refine zh ?_;refine zxd (i+1,v4,O4,w4,dc D (bs k) (D.length:Int)) ⟨a6,by dsimp only;rw[e1];exact a5,b2.U b0 zd zd,by dsimp only;rw[e1];exact b6,(a8.J (a4.mono (λ_ h=>zo) zd)).J (b0.mono (λ_ h=>zo) zd),b4⟩
 intro b3;obtain rfl:i=ks.length:=dF b3;refine zh ?_;refine af rfl rfl ⟨a0.sl,a8.ext,a0.newV zd a9⟩
def elD:Pj Mw 120 78 2 48:=⟨PG,by kernel_rfl,zd⟩
def BS(l:List (ix×ix))(sv:ix)(w:ka)(h:Sl yW 2 w sv l)(hz:∀u∈l,(yW u).length=2)(h1:∀u∈l,∀c∈yW u,c.oneCell'=true)(hl:l.length<=100000):
  NA Mw 54 [sv] w λv w'=>Sl yW 2 w' v l/\Np w w'/\∀(B:Nat) (O:Nat->Nat),Ng B O w->Nm O w' v:=by
 obtain⟨a,c,rfl,_,_,ha⟩:=h.shape;apply Ln func54 ntmps54 rfl rfl;refine zh ?_;refine zvH (lq PG rfl rfl) ?_
 cases a with
 |none=>
  have a4:l=[]:=MW (LD λa3=>by obtain⟨b,o,e⟩:=ha a3;cases e);subst a4;refine zTH rfl rfl ?_;refine af rfl rfl ⟨(Mr yW 0 2 (λ_=>0) w 0).sl,Lu _,λB O _ a n c e hn=>by cases e⟩
 |some a=>
  refine zFH rfl rfl ?_;apply mM elD yW (aw w) 1 zd rfl
  intro v1 w1 O1 a1 a2 a7;have h2:=h.ext a2.ext;refine zh ?_;apply dU elD a1 a7 h2 rfl rfl hz h1 (by simp;omega) (by simp;omega) zd rfl;intro v2 w2 O2 a0 a5 a6;refine zh ?_;refine af rfl rfl ⟨by have:=a0.sl;rwa[MY]at this,(a2.J a5).ext,λB O hO=>a0.free zd a6 hO⟩
def sy(l:List Nat)(sv:ix)(w:ka)(h:Sl aL 1 w sv l)(hz:∀u∈l,(aL u).length=1)(h1:∀u∈l,∀c∈aL u,c.oneCell'=true)(hl:l.length<=100000):
  NA Mw 100 [sv] w λv w'=>Sl aL 1 w' v l/\Np w w'/\∀(B:Nat) (O:Nat->Nat),Ng B O w->Nm O w' v:=by
 obtain⟨a,c,rfl,_,_,ha⟩:=h.shape;apply Ln func100 ntmps100 rfl rfl;refine zh ?_;refine zvH (lq Lj rfl rfl) ?_
 cases a with
 |none=>
  have a4:l=[]:=MW (LD λa3=>by obtain⟨b,o,e⟩:=ha a3;cases e);subst a4;refine zTH rfl rfl ?_;refine af rfl rfl ⟨(Mr aL 0 1 (λ_=>0) w 0).sl,Lu _,λB O _ a n c e hn=>by cases e⟩
 |some a=>
  refine zFH rfl rfl ?_;apply mM gE aL (aw w) 1 zd rfl
  intro v1 w1 O1 a1 a2 a7;have h2:=h.ext a2.ext;refine zh ?_;apply dU gE a1 a7 h2 rfl rfl hz h1 (by simp;omega) (by simp;omega) zd rfl;intro v2 w2 O2 a0 a5 a6;refine zh ?_;refine af rfl rfl ⟨by have:=a0.sl;rwa[MY]at this,(a2.J a5).ext,λB O hO=>a0.free zd a6 hO⟩
def nQ(l:List Nat)(sv:ix)(w:ka)(h:Sl fq 1 w sv l)(hz:∀u∈l,(fq u).length=1)(h1:∀u∈l,∀c∈fq u,c.oneCell'=true)(hl:l.length<=100000):
  NA Mw 101 [sv] w λv w'=>Sl fq 1 w' v l/\Np w w'/\∀(B:Nat) (O:Nat->Nat),Ng B O w->Nm O w' v:=by
 obtain⟨a,c,rfl,_,_,ha⟩:=h.shape;apply Ln func101 ntmps101 rfl rfl;refine zh ?_;refine zvH (lq P3 rfl rfl) ?_
 cases a with
 |none=>
  have a4:l=[]:=MW (LD λa3=>by obtain⟨b,o,e⟩:=ha a3;cases e);subst a4;refine zTH rfl rfl ?_;refine af rfl rfl ⟨(Mr fq 0 1 (λ_=>0) w 0).sl,Lu _,λB O _ a n c e hn=>by cases e⟩
 |some a=>
  refine zFH rfl rfl ?_;apply mM iP fq (aw w) 1 zd rfl
  intro v1 w1 O1 a1 a2 a7;have h2:=h.ext a2.ext;refine zh ?_;apply dU iP a1 a7 h2 rfl rfl hz h1 (by simp;omega) (by simp;omega) zd rfl;intro v2 w2 O2 a0 a5 a6;refine zh ?_;refine af rfl rfl ⟨by have:=a0.sl;rwa[MY]at this,(a2.J a5).ext,λB O hO=>a0.free zd a6 hO⟩
def qT{F:Pm}(hF:∀(args:Array ix) (w:ka),(callFunc F args).run Mw w=.ok (.enter F args) w)(cs:Array ix)(l:List (ix×ix))(sv:ix)(q:Nat->Bool)(w:ka)(h:Sl yW 2 w sv l) 
  (hq:∀i,i<l.length->∀w',Np w w'->NA Mw F ([(λd:ix×ix=>Px #[d.1,d.2]) (nth l i)]++cs.toList) w' λv w''=>v=.bool (q i)/\Np w' w'') :
  NA Mw 98 [sv,.func (.func F) #[] cs] w λv w'=>v=nI (ey q l.length)/\Np w w':=by
 have hl:=h.len_le;apply Ln func98 ntmps98 rfl rfl;refine zh ?_;apply zlp (λx:Nat×ka=>[(0,sv),(1,.func (.func F) #[] cs),(7,nI l.length),(8,nI x.1)]) (λx=>x.2) (λx=>x.1<=l.length/\Np w x.2/\∀i,i<x.1->q i=false) (λx=>l.length-x.1) (0,w) ⟨Li _,Lu _,λi hi=>absurd hi (ln i)⟩;rintro⟨k,w1⟩ ⟨hk,hE,a1⟩;dsimp only at hk hE a1 ⊢;have h1:=h.ext hE;refine zh ?_;refine zC ?_ ?_
 ·intro a0;replace a0:k<l.length:=dT a0;refine zh ?_;apply zv (ah (us:=yW (nth l k)) (λj u hu=>h1.cell a0 hu) (MU _) (M7 _) rfl);apply eo rfl hF rfl (hq k a0 w1 hE) rfl;rintro v w2 ⟨rfl,a3⟩;refine zh ?_;refine zC ?_ ?_
  ·intro hy;refine zh ?_;refine af rfl rfl ⟨by rw[cX a0 hy a1],hE.J a3⟩
  intro hy;refine zh ?_;refine zxd (k+1,w2) ⟨a0,hE.J a3,λi hi=>(NM.1 hi).elim (a1 i) (λe=>by rw[e];exact hy)⟩
 intro a2;replace a2:l.length<=k:=dF a2;refine zh ?_;refine af rfl rfl ⟨by rw[cU λi hi=>a1 i zo],hE⟩
def yR(nv tv:ix)(rows:List (List Nat))(a0:List Nat)(w:ka)(hn:RowsN w nv rows)(a2:Sl fq 1 w tv a0)(hr:RightD rows a0):NA Mw 55 [.agg #[nv,tv]] w λv w'=>v=.bool false/\Np w w':=by
 apply Ln func55 ntmps55 rfl rfl;refine zh ?_
 apply aI (aw w) 1 zo rfl rfl;intro db w1 O1 a3 a5 a6 a1;refine zh ?_
 apply zv (ah (us:=[nv,tv]) a3.V (MU _) (M7 _) rfl);apply zc call56 (kY nv tv rows a0 w1 (hn.ext a1) (a2.ext a1) hr)
 rintro _ w2 ⟨rfl,a4⟩;refine zh ?_;refine af rfl rfl ⟨rfl,a1.J a4⟩
def yX{F:Pm}(hF:∀(args:Array ix) (w:ka),(callFunc F args).run Mw w=.ok (.enter F args) w)(cs:Array ix)(l:List (ix×ix))(sv:ix)(w:ka)(h:Sl yW 2 w sv l) 
  (hq:∀i,i<l.length->∀w',Np w w'->NA Mw F ([(λd:ix×ix=>Px #[d.1,d.2]) (nth l i)]++cs.toList) w' λv w''=>v=.bool false/\Np w' w'') :
  NA Mw 53 [sv,.func (.func F) #[] cs] w λv w'=>v=sv/\Np w w':=by
 apply Ln func53 ntmps53 rfl rfl;refine zh ?_
 apply zc call98 (qT hF cs l sv (λ_=>false) w h hq);rintro _ w1 ⟨rfl,a0⟩;rw[cU (q:=λ_=>false) λi hi=>rfl];refine zh ?_
 refine zTH rfl rfl ?_;refine af rfl rfl ⟨rfl,a0⟩
def bB(tabs:List (List (List Nat))):List Nat:=(cI ((LK 37).map (lA tabs)) 37).2
def LG:Pj Mw 124 9 1 16:=⟨underlying124,by kernel_rfl,zd⟩
def BF(ds:List (ix×ix))(tabs:List (List (List Nat)))(a2:List (List Nat))(sv:ix)(w:ka)(h:TabsD w sv ds tabs a2)(b8:ds.length<=1000):
  NA Mw 25 [sv] w λv w'=>Sl aL 1 w' v (bB tabs)/\Np w w'/\PM w.heap.size v:=by
 have b5:=h.sl;have a8:∀u∈ds,∀c∈yW u,c.oneCell'=true:=λu hu c hc=>by
  obtain⟨j,hj,rfl⟩:=cd hu
  rcases Lp.1 hc with rfl|hc
  ·exact(h.at_ j hj).1.one
  rw[L3.1 hc];exact(h.at_ j hj).2.1.one
 apply Ln func25 ntmps25 rfl rfl;refine zh ?_
 apply zc call54 (BS ds sv w b5 (λ_ _=>rfl) a8 zo);rintro a6 w1 ⟨b2,a',_⟩;apply zc call53 (yX call55 #[] ds a6 w1 b2 (λi hi w' b0=>yR _ _ _ _ w' ((h.at_ i hi).1.ext (a'.J b0)) ((h.at_ i hi).2.1.ext (a'.J b0)) (h.at_ i hi).2.2))
 rintro v2 w2 ⟨b1,b4⟩;rw[b1];clear b1 v2;have a1:=a'.J b4;have c5:TabsD w2 a6 ds tabs a2:=⟨b2.ext b4,h.l1,h.l2,λi hi=>⟨(h.at_ i hi).1.ext a1,(h.at_ i hi).2.1.ext a1,(h.at_ i hi).2.2⟩⟩
 refine zh ?_;apply zlp (λz:Nat×ix×(Nat->Nat)×World=>[(0,a6),(3,z.2.1),(8,nI z.1)]) (λz=>z.2.2.2) (λz=>z.1<=37/\My encS 9 1 z.2.2.1 z.2.2.2 1 z.2.1 ((LK z.1).map (lA tabs))/\Lr (λq=>q=1) (λ_=>0) w2 z.2.2.1 z.2.2.2/\Ng w2.heap.size z.2.2.1 z.2.2.2) (λz=>37-z.1) (0,nS,λ_=>0,w2) ⟨Li _,Mr _ _ _ _ _ _,N6 zd _ _,aw w2⟩
 rintro⟨m,v3,O3,w3⟩ ⟨hm,a0,a5,b3⟩;dsimp only at hm a0 a5 b3 ⊢;have b':=c5.ext a5.ext;refine zh ?_;refine zC ?_ ?_
 ·intro a7;replace a7:m<37:=dT a7;refine zh ?_;apply zc call57 (BQ ds tabs a2 a6 m w3 b' a7 b8);rintro _ w4 ⟨rfl,c8⟩;have a9:Lr (λ_=>False) O3 w3 O3 w4:=aa (λh=>h) O3 c8;have a4:=a0.U a9 zd (λh=>h);have c9:((LK m).map (lA tabs)).length=m:=by simp
  apply Nl LG a4 (b3.U a9) ((lA tabs m)) (λ_=>rfl) rfl rfl rfl (by simp[Lk]) zo zo zo zd rfl rfl;intro v5 w5 O5 a3 b9 c6;refine zh ?_
  refine zxd (m+1,v5,O5,w5) ⟨a7,by dsimp only;rw[Nk,ME];exact a3,(a5.J (a9.mono (λ_ h=>h.elim) zd)).J b9,c6⟩
 intro b7;obtain rfl:m=37:=dF b7;refine zh ?_;apply zc call58 (vp _ v3 w3 a0.sl (by simp));rintro v6 w6 ⟨h6,c7,b6⟩;refine zh ?_;refine af rfl rfl ⟨by rw[Ph,List.length_range]at h6;exact h6,(a1.J a5.ext).J c7,b6.mono (Nx a1.size a5.size)⟩
attribute [irreducible] bB
def rz:List Int->Nat->Prop
 |[],_=>True
 |g::r,n=>0<=g/\g<=n/\rz r (max n (g.toNat+1))
def nu{g:Int}:∀(l:List Int) (n:Nat),rz l n->0<=g->g<=(iA l n:Nat)->rz (l++[g]) n/\iA (l++[g]) n=max (iA l n) (g.toNat+1)
 |[],n,_,h0,h1=>by
  simp only[iA]at h1;simp only[MY,rz,iA];rw[am zo];exact⟨⟨h0,h1,trivial⟩,rfl⟩
 |a::l,n,h,h0,h1=>by
  obtain⟨a1,a2,a3⟩:=h;simp only[iA]at h1;rw[am zo]at h1;have ih:=nu l _ a3 h0 h1;simp only[ND,rz,iA];rw[am zo,am zo];exact⟨⟨a1,a2,ih.1⟩,ih.2⟩
abbrev ints(l:List Nat):List Int:=l.map λn:Nat=>(n:Int)
structure NuI(ks:List (List UInt8))(i:Nat)(S:List (List UInt8))(r:List Nat):Prop where
 len:r.length=i
 lt:∀j,j<i->nth r j<S.length/\nth S (nth r j)=nth ks j
 nd:S.Nodup
 hit:∀k,k<S.length->∃j,j<i/\nth r j=k
 right:rz (ints r) 0
 many:iA (ints r) 0=S.length
def ju(h:xN S s=some k):k<S.length/\nth S k=s:=by
 obtain⟨h1,h2,_⟩:=M1.1 h;exact⟨h1,by rw[aB h1];simpa using h2⟩
def vT(h:xN S s=none):s∉S:=λhs=>by
 have:=MI.1 h s hs;simp at this
def pJ(ks:List (List UInt8)):∀i,NuI ks i (cI ks i).1 (cI ks i).2
 |0=>⟨rfl,λj hj=>absurd hj (ln j),NJ,λk hk=>absurd hk (ln k),trivial,rfl⟩
 |i+1=>by
  have ih:=pJ ks i;unfold cI;generalize cI ks i=R at *;obtain⟨S,r⟩:=R;dsimp only at ih ⊢;have hl:=ih.len;have a0:∀(g:Nat),ints (r++[g])=ints r++[(g:Int)]:=λg=>by simp[ints]
  cases h:xN S (nth ks i)with
  |some k=>
   obtain⟨h1,h2⟩:=ju h;have e1:xP S (nth ks i)=S:=by unfold xP;rw[h];rfl
   have e2:pK S (nth ks i)=k:=by unfold pK;rw[h];rfl
   rw[e1,e2];have hs:=nu (g:=(k:Int)) (ints r) 0 ih.right zo (by rw[ih.many];omega);refine⟨by simp[hl],λj hj=>?_,ih.nd,λq hq=>?_,by rw[a0];exact hs.1,by rw[a0,hs.2,ih.many];simp;omega⟩
   ·rw[az]
    by_cases e:j<r.length
    ·rw[ap e];exact ih.lt j zo
    rw[am e,show j-r.length=0 from by omega,ao];obtain rfl:j=i:=zo;exact⟨h1,h2⟩
   obtain⟨j,hj,e⟩:=ih.hit q hq;exact⟨j,zo,by rw[az,ap zo];exact e⟩
  |none=>
   have hn:=vT h;have e1:xP S (nth ks i)=S++[nth ks i]:=by unfold xP;rw[h];rfl
   have e2:pK S (nth ks i)=S.length:=by unfold pK;rw[h];rfl
   rw[e1,e2];have hs:=nu (g:=(S.length:Int)) (ints r) 0 ih.right zo (by rw[ih.many];omega);refine⟨by simp[hl],λj hj=>?_,Nw.2 ⟨ih.nd,by simp,λa ha b hb e=>?_⟩,λq hq=>?_,by rw[a0];exact hs.1,by rw[a0,hs.2,ih.many];simp⟩
   ·rw[az]
    by_cases e:j<r.length
    ·obtain⟨a1,a2⟩:=ih.lt j zo;rw[ap e];exact⟨by simp;omega,by rw[az,ap a1];exact a2⟩
    rw[am e,show j-r.length=0 from by omega,ao];obtain rfl:j=i:=zo;exact⟨by simp,by rw[az,am zo,N4,ao]⟩
   ·rw[L3]at hb;subst hb;subst e;exact hn ha
   rw[M9,Lm]at hq
   by_cases e:q<S.length
   ·obtain⟨j,hj,e⟩:=ih.hit q e;exact⟨j,zo,by rw[az,ap zo];exact e⟩
   exact⟨i,zo,by rw[az,am zo,show i-r.length=0 from by omega,ao];omega⟩
def G8{a:Nat}(ha:a<256)(hb:b<256)(h:Mp a=Mp b):a=b:=by
 have:=congrArg UInt8.toNat h;simp at this;omega
def AL:∀ {rows:List (List Nat)} {i j:Nat},(∀r∈rows,nth r i<=999/\nth r j<=999)->qW rows i=qW rows j->∀r∈rows,nth r i=nth r j
 |[],_,_,_,_=>λr hr=>absurd hr (by simp)
 |r::rows,i,j,h,e=>by
  obtain⟨h1,h2⟩:=h r (by simp);unfold qW at e;simp only[Mz,ND,MY,PN]at e;obtain⟨e1,e2,e3⟩:=e;have a1:=G8 zo zo e1;have a2:=G8 zo zo e2;intro q hq
  rcases Lp.1 hq with rfl|hq
  ·omega
  exact AL (λq hq=>h q (by simp[hq])) e3 q hq
def oX:∀ {tabs:List (List (List Nat))} {i j:Nat},(∀rows∈tabs,∀r∈rows,nth r i<=999/\nth r j<=999)->lA tabs i=lA tabs j->∀rows∈tabs,∀r∈rows,nth r i=nth r j
 |[],_,_,_,_=>λr hr=>absurd hr (by simp)
 |t::tabs,i,j,h,e=>by
  unfold lA at e;simp only[Mz]at e;obtain⟨e1,e2⟩:=List.append_inj e (by rw[mG,mG]);intro q hq
  rcases Lp.1 hq with rfl|hq
  ·exact AL (h q (by simp)) e1
  exact oX (λq hq=>h q (by simp[hq])) e2 q hq
def JA{tabs:List (List (List Nat))}(h:∀rows∈tabs,∀r∈rows,nth r i=nth r j):lA tabs i=lA tabs j:=by
 unfold lA;refine congrArg Pq (NY λrows hr=>?_);unfold qW;exact congrArg Pq (NY λr a0=>by rw[h rows hr r a0])
structure GrpI(g:List Nat)(many:Nat):Prop where
 len:g.length=37
 lt:∀i,i<37->nth g i<many
 hit:∀k,k<many->∃i,i<37/\nth g i=k
 cnt:fZ (ints g)=many
 pos:1<=many
 le:many<=37
def vq{l:List α}(h:l.Nodup)(hi:i<l.length)(hj:j<l.length)(e:l[i]=l[j]):i=j:=by
 rcases Nat.lt_trichotomy i j with h1|h1|h1
 ·exact absurd e (N8.1 h i j hi hj h1)
 ·exact h1
 exact absurd e.symm (N8.1 h j i hj hi h1)
def nJ(tabs:List (List (List Nat))):∃many,GrpI (bB tabs) many/\∀i j,i<37->j<37->(nth (bB tabs) i=nth (bB tabs) j↔lA tabs i=lA tabs j):=by
 have h:=pJ ((LK 37).map (lA tabs)) 37;have a4:=(lW ((LK 37).map (lA tabs)) 37).2;have hk:∀j,j<37->nth ((LK 37).map (lA tabs)) j=lA tabs j:=λj hj=>by rw[cz (by simpa using hj),aB (by simpa using hj)];simp
 unfold bB;have a0:=h.len;refine⟨(cI ((LK 37).map (lA tabs)) 37).1.length,⟨a0,λi hi=>(h.lt i hi).1,h.hit,?_,?_,a4⟩,λi j hi hj=>⟨λe=>?_,λe=>?_⟩⟩
 ·unfold fZ;rw[ap (by rw[Ph];exact a0)];exact h.many
 ·have:=(h.lt 0 zd).1;omega
 ·have h1:=(h.lt i hi).2;have h2:=(h.lt j hj).2;rw[hk i hi]at h1;rw[hk j hj]at h2;rw[<-h1,<-h2,e]
 obtain⟨a1,a2⟩:=h.lt i hi;obtain⟨b1,b2⟩:=h.lt j hj;rw[hk i hi]at a2;rw[hk j hj]at b2;have a3:=h.nd;show nth (cI _ 37).2 i=nth (cI _ 37).2 j;rw[aB a1]at a2;rw[aB b1]at b2;exact vq a3 a1 b1 (by rw[a2,b2,e])
def lz(g:List Nat)(many:Nat)(row:List Nat):List Nat:=(LK many).map λk=>nth row ((g.findIdx? (· == k)).getD 0)
def oQ(g:List Nat)(many:Nat)(row:List Nat):(lz g many row).length=many:=by simp[lz]
def yz(hg:GrpI g many)(hc:∀i j,i<37->j<37->nth g i=nth g j->nth row i=nth row j)(hi:i<37):nth (lz g many row) (nth g i)=nth row i:=by
 have a0:=hg.len;have hk:=hg.lt i hi;unfold lz;rw[aB (xs:=List.map _ (LK many)) (by simpa using hk),Pa,List.getElem_range]
 cases hf:g.findIdx? (· == nth g i)with
 |none=>
  have:=MI.1 hf (nth g i) (aJ zo);simp at this
 |some q=>
  obtain⟨h1,h2,_⟩:=M1.1 hf;rw[<-aB h1]at h2;exact hc q i zo hi (by simpa using h2)
def vu(hg:GrpI g many)(hc:∀i j,i<37->j<37->nth g i=nth g j->nth row i=nth row j)(ho:a0.length=many)(h:∀i,i<37->nth a0 (nth g i)=nth row i):a0=lz g many row:=by
 refine List.ext_getElem (by rw[ho,oQ]) λk h1 h2=>?_
 obtain⟨i,hi,e⟩:=hg.hit k zo;rw[<-aB h1,<-aB h2,<-e,h i hi,yz hg hc hi]
def Br(g row:List Nat)(many:Nat)(gv rv:ix)(w:ka)(hg:GrpI g many)(b0:Sl aL 1 w gv g)(a9:Sl aL 1 w rv row)(b5:row.length=37)(hc:∀i j,i<37->j<37->nth g i=nth g j->nth row i=nth row j):
  NA Mw 102 [gv,rv,nI (many:Nat)] w λv w'=>∃ov,v=.tuple #[ov,.bool true]/\Sl aL 1 w' ov (lz g many row)/\Np w w'/\∀(B:Nat) (O:Nat->Nat),Ng B O w->Nm O w' ov:=by
 have c9:=hg.len;have c7:=hg.le;apply Ln func102 ntmps102 rfl rfl;refine zh ?_;apply cY gE (val:=λn:Nat=>nI (n:Int)) (0:Nat) zk (λ_=>rfl) (aw w) 1 zd many rfl rfl rfl rfl zo zo rfl;intro w1 O1 ov b6 a5 b' c5 b3;clear b6;have d0:=b0.ext b3;have c6:=a9.ext b3;refine zh ?_;rw[show((row.length:Int)-1)=((37:Nat):Int)-1 from by rw[b5]];apply zlp (λz:Nat×ka×List Nat=>[(0,gv),(1,rv),(8,ov),(9,nI ((z.1:Int)-1))]) (λz=>z.2.1) (λz=>z.1<=37/\My aL 3 1 O1 z.2.1 1 ov z.2.2/\Lr (λq=>q=1) O1 w1 O1 z.2.1/\z.2.2.length=many/\∀i,z.1<=i->i<37->nth z.2.2 (nth g i)=nth row i) (λz=>z.1) (37,w1,Ly many 0) ⟨Ll _,a5,N6 zd _ _,by simp,λi h1 h2=>by dsimp only at h1;omega⟩;rintro⟨j,w2,b4⟩ ⟨hj,a0,a6,a7,a1⟩;dsimp only at hj a0 a6 a7 a1 ⊢;have a3:Np w w2:=(b'.J a6).ext;have b2:=b0.ext a3;have a':=a9.ext a3;refine zh ?_;refine zC ?_ ?_
 ·intro b1;replace b1:1<=j:=dT b1;obtain⟨m,rfl⟩:∃m,j=m+1:=⟨j-1,zo⟩
  rw[show(((m+1:Nat):Int)-1)=(m:Int)from by omega];have c8:=hg.lt m zo;have k1:w2.cell? (adr gv 1 m)=some (nI ((nth g m:Nat):Int)):=by have:=b2.cell (i:=m) (j:=0) zo rfl;rwa[ar]at this
  have k2:w2.cell? (adr rv 1 m)=some (nI ((nth row m:Nat):Int)):=by have:=a'.cell (i:=m) (j:=0) zo rfl;rwa[ar]at this
  refine zh ?_;apply Pf 10 rfl rfl zk zk
  refine zh ?_;apply zw (ai a0.sl.sh Lj (Ls _) rfl rfl (nth g m) rfl zo)
  apply dX;apply N7 a0.drew (nth g m) zo (nth row m) (Ls _) rfl zd rfl rfl rfl rfl
  intro w3 a4 b9;refine zh ?_;refine zxd (m,w3,b4.set (nth g m) (nth row m)) ⟨by dsimp only;omega,a4,a6.drew.J b9,by dsimp only;rw[Lq];exact a7,λi h1 h2=>?_⟩;dsimp only at h1 ⊢;rw[bm zo]
  split
  ·rename_i e;exact hc m i zo h2 e.symm
  rename_i e;refine a1 i ?_ h2;have:i≠m:=λe2=>e (by rw[e2])
  omega
 intro b7;obtain rfl:j=0:=dF b7;have a8:=vu hg hc a7 λi hi=>a1 i (Li _) hi
 refine zh ?_;apply zlp (λz:Nat=>[(0,gv),(8,ov),(31,rv),(32,nI row.length),(33,nI z)]) (λz=>w2) (λz=>z<=row.length) (λz=>row.length-z) 0 (Li _)
 intro i hi;refine zh ?_;refine zC ?_ ?_
 ·intro a2;replace a2:i<row.length:=dT a2;have c':=hg.lt i zo;have k1:w2.cell? (adr gv 1 i)=some (nI ((nth g i:Nat):Int)):=by have:=b2.cell (i:=i) (j:=0) zo rfl;rwa[ar]at this
  have k2:w2.cell? (adr rv 1 i)=some (nI ((nth row i:Nat):Int)):=by have:=a'.cell (i:=i) (j:=0) zo rfl;rwa[ar]at this
  have k3:w2.cell? (adr ov 1 (nth g i))=some (nI ((nth row i:Nat):Int)):=by have:=a0.sl.cell (i:=nth g i) (j:=0) zo rfl;rw[ar,a1 i (Li _) zo]at this;exact this
  refine zh ?_;refine zvH (ai a0.sl.sh Lj (Ls _) rfl rfl (nth g i) rfl zo) ?_
  refine zFH rfl ((by simp)) ?_;refine zxd (i+1) a2
 intro b8;refine zh ?_;refine cj rfl rfl rfl ⟨ov,rfl,by rw[<-a8];exact a0.sl,a3,λB O hO=>a0.free zd (c5.U a6) hO⟩
end Go.Proofs.YtcfhbfflgnbacaaGreatDoor
