/- Texts that the proof of this statement needs, merged and shortened. -/
import Derived.Test.YteolbhblkgjbhaaGreatDoorQShippedBreaks4
set_option linter.defProp false
open Go renaming World->ix,Value->ln,TypeId->NP,FuncId->PM
open Go.VL.Ret renaming enter->L0,mono->Pr
open Nat renaming zero_le->L1,lt_succ_iff_lt_or_eq->L4,not_lt_zero->L5,le_refl->L6,le_of_eq->Ms,zero_add->NQ,lt_succ_self->Pm
open List renaming range->L2,dropWhile_suffix->L3,length_append->LX,replicate->M4,eq_nil_of_length_eq_zero->M6,mem_cons->M7,length_singleton->Mb,mem_singleton->Mi,getElem_range->Ml,drop_eq_getElem_cons->Mm,append_assoc->Mo,getElem_map->Mp,length_set->Mu,all_cons->Mw,length_cons->Mz,ext_getElem->MA,map_append->MC,pairwise_cons->MD,length->ME,findIdx?_eq_some_iff_getElem->MG,all_nil->MJ,takeWhile_prefix->MN,range_succ->MR,append_nil->MS,map_congr_left->MV,findIdx?_eq_none_iff->MY,not_mem_nil->N1,getElem_set->N2,drop_of_length_le->N5,mem_range->N8,replicate_succ->Ng,getElem_mem->Nn,mem_append->Nr,takeWhile_cons_of_pos->Nx,getElem?_append_right->Ny,drop_zero->Nz,drop_drop->NA,getElem_append_right->ND,getElem?_eq_some_iff->NF,getElem?_append_left->NG,getElem_append_left->NK,take_of_length_le->NM,getElem_replicate->NN,take_append_drop->NR,set_append_right->NS,contains_iff_mem->NT,length_pos_iff->P4,toArray_inj->Ph,length_take->Pi,length_drop->Pj,take_left'->Pn
open Bool renaming and_eq_true->L7,or_eq_true->Mv,not_eq_true'->MK,false_or->MP,eq_iff_iff->MT,or_eq_false_iff->N9,and_false->Na,false_ne_true->P8,true_and->Ps,true_or->PA
open Go.Proofs.Tryz renaming underlying38->L8,underlying9->LZ,underlying22->M0,sizeOf4->M8,prog->Mc,underlying146->Me,sizeOf3->Mk,sizeOf31->Mn,sizeOf38->Mr,sizeOf96->Mx,sizeOf56->MH,isAgg96->MI,call109->MO,zeroValue31->MW,zeroValue56->N4,isAgg31->Nb,zeroValue240->Ns,sizeOf22->Nu,call79->NB,isAgg56->NL,underlying107->P2,sizeOf120->P6,sizeOf112->P7,call76->Pa,call260->Pb,call101->Pc,call77->Pq,ntmps79->Pu,call114->Pv,call113->Pw,func79->PH,underlying270->PN,underlying266->PO,zeroValue197->PV,zeroValue120->PW,underlying33->PX,sizeOf9->PY,call112->PZ,call100->Q0,zeroValue9->Qd,call67->Qe,call53->Qf
open Go.Value renaming oneCell'->L9,bool->Mq
open Go.VL.Ext renaming refl->LY
open Go.VL.RV renaming move->M1,extract->MF,add->Nk,build->Nm,ext->NJ,len->NX,eql->Pf,assign->Po,geq->PS
open Go.VL.WH renaming one->M5,done->Md
open Array renaming getElem?_setIfInBounds_ne->M9,getElem?_setIfInBounds_self_of_lt->N7,size_setIfInBounds->NH
open Go.VL.Upd renaming setRow->Ma,set->Mj,refl->MM,lowT->P3,J->PQ,mono->Q2,drew->Q3
open Go.VL.WL renaming storeAt->Mf,push->Nl,off->NU,nil->Pe,ext->PP
open Go.VL renaming Upd->Mg,BlkO->My,RowT->MB,Ret->MX,Ext->MZ,Rng->Nf,Free->Ni,Ints->PL,NewV->Qh
open Go.VL.BlkO renaming U->Mh,setRow->N0,drew->Nc,tag->PT,set->PU,q7->Q7,q6->Q8
open Go.World renaming setCell->Mt,setRow->MU,drew->Nv,frozen?->NC
open Go.VL.WC renaming tail->MQ,region->NO,seq->Py,block->Pz,skip->PD
open Go.VL.Fit renaming i64->N6
open Go.VL.WS renaming go->Nh
open Go.VL.RowT renaming nil->Nj,drew->PJ
open Go.VL.WI renaming region->No,seq->Px
open Or renaming inr->Np,inl->Nq
open Go.Proofs.YteolbhblkgjbhaaGreatDoor renaming PostC->Nw,Rd6->Pd,StarP->PI,Made->PK,PartV->Qb,TabM->Qg
open Go.Value.tuple renaming injEq->NI
open Go.Value.int renaming injEq->NV
open Go.Value.agg renaming injEq->NW
open Go.Proofs.YteolbhblkgjbhaaGreatDoor.Nd renaming kind->NY,cls->Pg,kids->Pk
open List.cons renaming injEq->NZ,inj->Q5
open Go.Proofs.YteolbhblkgjbhaaGreatDoor.LR renaming bad->P1
open Go.Lib renaming compact->P5
open Array.mk renaming injEq->P9
open Go.Addr renaming add->Pp
open Go.Proofs.YteolbhblkgjbhaaGreatDoor.RowsT renaming push->PB
open Go.VL.Leave renaming call->PC
open Go.VL.RetB renaming enter->PE
open Int renaming le_refl->PF
open Go.VL.Rng renaming drew->Q4,U->Q9
open Classical renaming byContradiction->Q6
open Go.VL.QF renaming dn->Qa
open Go.Proofs.YteolbhblkgjbhaaGreatDoor.Mac renaming U->Qc
set_option maxRecDepth 10000
open Go.VL Go.Proofs Go.Proofs.Tryz
variable {α:Type}{wi:Bool}{c e:Int}{ids li lk ms:List Int}{L M:List Int->Prop}{r:List UInt8}{a0:List ln}{B a b i j k n o:Nat}{O:Nat->Nat}{f:Nat->Nat->Bool}{F:PM}{w:ix}{P:ix->Prop}{v:ln}{l:List α}{p:α->Bool}
variable {ji jk jr:Nat}{w':ix}
namespace Go.Proofs.YteolbhblkgjbhaaGreatDoor
def MatV(w:ix)(v:ln)(n:Nat)(f:Nat->Nat->Bool):Prop:=∃vs:List ln,Sl yo 1 w v vs/\vs.length=n/\∀i,i<n->Sl dD 1 w (nth vs i) ((L2 n).map (f i))
def MatV.ext{w w':ix}{v:ln}{n:Nat}{f:Nat->Nat->Bool}(h:MatV w v n f)(e:MZ w w'):MatV w' v n f:=by
 obtain⟨vs,h1,h2,h3⟩:=h;exact⟨vs,h1.ext e,h2,λi hi=>(h3 i hi).ext e⟩
def MatN(B:Nat)(w:ix)(v:ln)(n:Nat)(f:Nat->Nat->Bool):Prop:=∃vs:List ln,Sl yo 1 w v vs/\vs.length=n/\(∀i,i<n->Sl dD 1 w (nth vs i) ((L2 n).map (f i)))/\Qh B v/\∀i,i<n->Qh B (nth vs i)
def MatN.mat(h:MatN B w v n f):MatV w v n f:=by
 obtain⟨vs,h1,h2,h3,_⟩:=h;exact⟨vs,h1,h2,h3⟩
def MatN.ext{B:Nat}{w w':ix}{v:ln}{n:Nat}{f:Nat->Nat->Bool}(h:MatN B w v n f)(e:MZ w w'):MatN B w' v n f:=by
 obtain⟨vs,h1,h2,h3,h4,h5⟩:=h;exact⟨vs,h1.ext e,h2,λi hi=>(h3 i hi).ext e,h4,h5⟩
def MatN.mono{B B':Nat}{w:ix}{v:ln}{n:Nat}{f:Nat->Nat->Bool}(h:MatN B w v n f)(e:B'<=B):MatN B' w v n f:=by
 obtain⟨vs,h1,h2,h3,h4,h5⟩:=h;exact⟨vs,h1,h2,h3,h4.mono e,λi hi=>(h5 i hi).mono e⟩
def gH(f:Nat->Bool)(h:j<n):nth ((L2 n).map f) j=f j:=by
 rw[aD (by simpa using h),Mp,Ml]
def AB(n:Nat)(f:Nat->Bool)(k:Nat):List Bool:=(L2 k).map f++M4 (n-k) false
def FD(n:Nat)(f:Nat->Bool)(h:k<=n):(AB n f k).length=n:=by simp[AB];omega
def FC(n:Nat)(f:Nat->Bool)(h:k<n):(AB n f k).set k (f k)=AB n f (k+1):=by
 unfold AB;rw[NS _ _ (by simp),MR,MC];obtain⟨d,hd⟩:∃d,n-k=d+1:=⟨n-k-1,zo⟩
 rw[hd,show n-(k+1)=d from by omega];simp[Ng]
def FE(n:Nat)(f:Nat->Bool):AB n f n=(L2 n).map f:=by simp[AB]
def Cl(n:Nat)(f:Nat->Bool):AB n f 0=M4 n false:=by simp[AB]
def Ld:Elem Mc 146 38 1 24:=⟨Me,by kernel_rfl,zd⟩
structure MatO(O:Nat->Nat)(w:ix)(ov:ln)(ms:List ln)(n k:Nat)(f:Nat->Nat->Bool):Prop where
 row:MB yo 38 1 O w 2 ov ms
 len:ms.length=n
 at_:∀i,i<k->MB dD 4 1 O w (10+i) (nth ms i) ((L2 n).map (f i))
def MatO.U{S:Nat->Prop}{O O':Nat->Nat}{w w':ix}{ov:ln}{ms:List ln}{n k:Nat}{f:Nat->Nat->Bool}(h:MatO O w ov ms n k f)(u:Mg S O w O' w')(h2:¬S 2)(hS:∀i,i<k->¬S (10+i)):MatO O' w' ov ms n k f:=
 ⟨h.row.U u zd h2,h.len,λi hi=>(h.at_ i hi).U u zo (hS i hi)⟩
def MatO.matN{ov:ln}{ms:List ln}(h:MatO O w ov ms n n f)(r:Nf B O w):MatN B w ov n f:=⟨ms,h.row.sl,h.len,λi hi=>(h.at_ i hi).sl,h.row.newV zd r,λi hi=>(h.at_ i hi).newV zo r⟩
def dZ(n:Nat)(f g:Nat->Nat->Bool)(av bv:ln)(w:ix)(ha:MatV w av n f)(hb:MatV w bv n g)(hn:n<=100):
  MX Mc 101 [av,bv] w λv w'=>MatN w.heap.size w' v n (λi j=>f i j||g i j)/\MZ w w':=by
 obtain⟨xs,b4,g2,d0⟩:=ha;obtain⟨ys,c8,g1,c7⟩:=hb;have hz:¬(0=2\/10<=0):=zo;have c':=b4.free0 (λx=>by simp);have d':=c8.free0 (λx=>by simp);have e5:∀i,i<n->Ni (λ_=>0) w (nth xs i):=λi hi=>(d0 i hi).free0 (λx=>by simp)
 have d9:∀i,i<n->Ni (λ_=>0) w (nth ys i):=λi hi=>(c7 i hi).free0 (λx=>by simp)
 apply L0 func101 ntmps101 rfl rfl;refine zh ?_
 apply gV Ld nS zk rfl (aA w) 2 zd n rfl rfl zo zo zo zo rfl;intro w1 O1 ov b9 f5 f8 g5;have d3:Mg (λq=>q=2\/10<=q) (λ_=>0) w O1 w1:=f5.mono (λ_ h=>.inl h) hz;refine zh ?_
 apply zlp (λz:Nat×(Nat->Nat)×World×List ln=>[(0,av),(1,bv),(5,ov),(6,nI (z.1:Nat))]) (λz=>z.2.2.1) (λz=>z.1<=n/\MatO z.2.1 z.2.2.1 ov z.2.2.2 n z.1 (λi j=>f i j||g i j)/\Mg (λq=>q=2\/10<=q) (λ_=>0) w z.2.1 z.2.2.1/\Nf w.heap.size z.2.1 z.2.2.1) (λz=>n-z.1) (0,O1,w1,M4 n nS) ⟨L1 _,⟨b9,by simp,λi hi=>absurd hi (L5 i)⟩,d3,f8⟩;rintro⟨i,O2,w2,ms⟩ ⟨hi,hM,b6,d4⟩;dsimp only at hi hM b6 d4 ⊢;have g3:=b4.U c' b6;refine zh ?_
 refine zC ?_ ?_
 ·intro a3;replace a3:i<n:=dT a3;have d7:=hM.len;refine zh ?_;apply cg xe (val:=λb:Bool=>Mq b) false zk (λ_=>rfl) d4 (10+i) zo n rfl rfl zo zo zo zo rfl;intro w3 O3 rv g0 b1 e6 f7 g4;have d6:=hM.U e6 zo (λt ht=>zo);apply zv (aj d6.row.sl.sh Me (Mr _) rfl rfl i rfl zo);apply Mf d6.row i zo rv (Mr _) b1.one zd rfl rfl rfl rfl;intro w4 b8 b5;have b0:=b1.U b5 zo zo
  have f9:MatO O3 w4 ov (ms.set i rv) n i (λi j=>f i j||g i j):=⟨b8,by rw[Mu];exact d7,λt ht=>by
   rw[bf zo,am zo]
   exact(d6.at_ t ht).U b5 zo zo⟩
  have d8:nth (ms.set i rv) i=rv:=by rw[bf zo,ap rfl]
  rw[<-Cl n (λj=>f i j||g i j)]at b0;have e8:(ms.set i rv).length=n:=by rw[Mu];exact d7
  generalize ms.set i rv=ms4 at *;refine zh ?_;apply zlp (λy:Nat×ix=>[(0,av),(1,bv),(5,ov),(6,nI (i:Nat)),(7,nI (y.1:Nat))]) (λy=>y.2) (λy=>y.1<=n/\MatO O3 y.2 ov ms4 n i (λi j=>f i j||g i j)/\MB dD 4 1 O3 y.2 (10+i) rv (AB n (λj=>f i j||g i j) y.1)/\Mg (λq=>q=2\/10<=q) (λ_=>0) w O3 y.2/\Nf w.heap.size O3 y.2) (λy=>n-y.1) (0,w4) ⟨L1 _,f9,b0,(b6.J (e6.mono (λ_ h=>zo) hz)).J (b5.mono (λ_ h=>zo) hz),f7.U b5⟩;rintro⟨j,w5⟩ ⟨hj,a9,a2,a8,b7⟩;dsimp only at hj a9 a2 a8 b7 ⊢;have f4:=b4.U c' a8;refine zh ?_;refine zC ?_ ?_
  ·intro a0;replace a0:j<n:=dT a0;have f3:=c8.U d' a8;have c9:=(d0 i a3).U (e5 i a3) a8;have c6:=(c7 i a3).U (d9 i a3) a8;have f':=FD n (λj=>f i j||g i j) (k:=j) zo;have e7:∀W,MB dD 4 1 O3 W (10+i) rv ((AB n (λj=>f i j||g i j) j).set j (f i j||g i j))->MB dD 4 1 O3 W (10+i) rv (AB n (λj=>f i j||g i j) (j+1)):=λW h=>by rw[<-FC n (λj=>f i j||g i j) a0];exact h
   refine zh ?_;have e9:∀W,MatO O3 W ov ms4 n i (λi j=>f i j||g i j)->W.cell? (adr ov 1 i)=some rv:=λW h=>by have:=h.row.sl.cell (i:=i) (j:=0) zo rfl;rw[ax,d8]at this;exact this
   have a1:∀W,MatO O3 W ov ms4 n i (λi j=>f i j||g i j)->Mg (λq=>q=2\/10<=q) (λ_=>0) w O3 W->W.cell? (adr ov 1 i)=some rv/\W.cell? (adr av 1 i)=some (nth xs i)/\W.cell? (adr (nth xs i) 1 j)=some (.bool (f i j))/\W.cell? (adr bv 1 i)=some (nth ys i)/\W.cell? (adr (nth ys i) 1 j)=some (.bool (g i j)):=λW hm hu=>by
    refine⟨e9 W hm,?_,?_,?_,?_⟩
    ·have:=(b4.U c' hu).cell (i:=i) (j:=0) zo rfl;rw[ax]at this;exact this
    ·have:=((d0 i a3).U (e5 i a3) hu).cell (i:=j) (j:=0) (by simpa using a0) rfl;rw[ax,gH _ a0]at this;exact this
    ·have:=(c8.U d' hu).cell (i:=i) (j:=0) zo rfl;rw[ax]at this;exact this
    have:=((c7 i a3).U (d9 i a3) hu).cell (i:=j) (j:=0) (by simpa using a0) rfl;rw[ax,gH _ a0]at this;exact this
   have b2:=ae (S:=λ_=>False) (λh=>h) O3 (LY w5).drew;have d5:=a9.U b2 (λh=>h) (λ_ _ h=>h);have d1:=a8.J (b2.mono (λ_ h=>h.elim) hz);have a':MB (λx=>[(λb:Bool=>Mq b) x]) 4 1 O3 w5.drew (10+i) rv (AB n (λj=>f i j||g i j) j):=a2.U b2 zo (λh=>h);obtain⟨e0,e1,e2,e3,e4⟩:=a1 w5.drew d5 d1;apply aO (λW=>W.cell? (adr ov 1 i)=some rv/\W.cell? (adr av 1 i)=some (nth xs i)/\W.cell? (adr (nth xs i) 1 j)=some (.bool (f i j))/\W.cell? (adr bv 1 i)=some (nth ys i)/\W.cell? (adr (nth ys i) 1 j)=some (.bool (g i j))) 23 rfl zk;refine zin ⟨e0,e1,e2,e3,e4⟩ λzS=>?_
   apply zrm 0 rfl zS rfl;apply zrm 1 rfl zS rfl
   apply zr 2 rfl zS (λ_=>aj a9.row.sl.sh Me (Mr _) rfl rfl i rfl zo);apply zt 3 rfl zS (λw1 a5=>RV.ld a5.1 rfl)
   apply zrm 4 rfl zS rfl;apply zrm 5 rfl zS rfl
   apply zrm 6 rfl zS rfl;apply zr 7 rfl zS (λ_=>aj f4.sh Me (Mr _) rfl rfl i rfl zo)
   apply zt 8 rfl zS (λw1 a5=>RV.ld a5.2.1 rfl);apply zrm 9 rfl zS rfl
   apply zr 10 rfl zS (λ_=>aj c9.sh L8 (M8 _) rfl rfl j rfl (by simpa using a0));apply zt 11 rfl zS (λw1 a5=>RV.ld a5.2.2.1 rfl)
   apply zrm 12 rfl zS rfl
   cases c2:f i j with
   |true=>
    rw[c2]at a1 e2;apply bJ (d:=41) rfl (b':=true) rfl;refine zin ⟨e0,e1,e2,e3,e4⟩ λzS=>?_
    apply zte 13 rfl rfl zS;apply zte 14 rfl rfl zS
    apply zte 15 rfl rfl zS;apply zte 16 rfl rfl zS
    apply zte 17 rfl rfl zS;apply zte 18 rfl rfl zS
    apply zte 19 rfl rfl zS;apply zr 20 rfl zS (λ_=>aT rfl rfl)
    apply zr 21 rfl zS (λ_=>aj a2.sl.sh L8 (M8 _) rfl rfl j rfl zo);apply M5 22 zk rfl
    apply Mf a' j zo true (M8 _) rfl zo rfl rfl rfl rfl;intro w6 a6 a7;have b3:=d5.U a7 zo (λt ht=>zo);have a4:=d1.J (a7.mono (λ_ h=>zo) hz);refine zh ?_
    apply af ((a1 w6 b3 a4));apply Md zk
    refine zh ?_;refine zxd (j+1,w6) ⟨a0,b3,e7 w6 (by rw[c2,PA];exact a6),a4,(b7.U b2).U a7⟩
   |false=>
    rw[c2]at a1 e2;apply bJ (d:=41) rfl (b':=false) rfl;refine zin ⟨e0,e1,e2,e3,e4⟩ λzS=>?_
    apply zro 13 rfl zS (λ_=>M1 rfl);apply zro 14 rfl zS (λ_=>M1 rfl)
    apply zro 15 rfl zS (λ_=>aj f3.sh Me (Mr _) rfl rfl i rfl zo);apply zto 16 rfl zS (λw1 a5=>RV.ld a5.2.2.2.1 rfl)
    apply zro 17 rfl zS (λ_=>M1 rfl);apply zro 18 rfl zS (λ_=>aj c6.sh L8 (M8 _) rfl rfl j rfl (by simpa using a0))
    apply zto 19 rfl zS (λw1 a5=>RV.ld a5.2.2.2.2 rfl);apply zr 20 rfl zS (λ_=>aV rfl rfl)
    apply zr 21 rfl zS (λ_=>aj a2.sl.sh L8 (M8 _) rfl rfl j rfl zo);apply M5 22 zk rfl
    apply Mf a' j zo (g i j) (M8 _) rfl zo rfl rfl rfl rfl;intro w6 a6 a7;have b3:=d5.U a7 zo (λt ht=>zo);have a4:=d1.J (a7.mono (λ_ h=>zo) hz);refine zh ?_
    apply af ((a1 w6 b3 a4));apply Md zk
    refine zh ?_;refine zxd (j+1,w6) ⟨a0,b3,e7 w6 (by rw[c2,MP];exact a6),a4,(b7.U b2).U a7⟩
  intro c5;obtain rfl:j=n:=dF c5;rw[FE]at a2;refine zh ?_;refine zxd (i+1,O3,w5,ms4) ⟨a3,⟨a9.row,a9.len,λt ht=>?_⟩,a8,b7⟩
  by_cases e:t=i
  ·subst e;rw[d8];exact a2
  exact a9.at_ t (by dsimp only at ht;omega)
 intro e';obtain rfl:i=n:=by have:=of_decide_eq_false e';omega
 refine zh ?_;refine ah rfl rfl ⟨hM.matN d4,b6.ext⟩
def xc(n:Nat)(p q:Nat->Bool)(j:Nat):List Bool:=(L2 n).map λt=>if t<j then p t else q t
def FX(n:Nat)(p q:Nat->Bool)(j:Nat):(xc n p q j).length=n:=by simp[xc]
def uU(n:Nat)(p q:Nat->Bool):xc n p q 0=(L2 n).map q:=by simp[xc]
def FY(n:Nat)(p q:Nat->Bool):xc n p q n=(L2 n).map p:=by
 unfold xc;exact MV λt ht=>ap (N8.1 ht)
def FW(n:Nat)(p q:Nat->Bool):(xc n p q j).set j (p j)=xc n p q (j+1):=by
 unfold xc;refine MA (by simp) λt h1 h2=>?_
 simp only[N2,Mp,Ml]
 by_cases e:j=t
 ·subst e;rw[ap rfl,ap zo]
 rw[am e]
 by_cases e2:t<j
 ·rw[ap e2,ap zo]
 rw[am e2,am zo]
def IU(n:Nat)(p q:Nat->Bool)(h:j<n):nth (xc n p q j) j=q j:=by
 unfold xc;rw[gH _ h,am zo]
def ib(f g:Nat->Nat->Bool)(i k j:Nat):Bool:=(L2 k).any λt=>f i t&&g t j
def tT(f g:Nat->Nat->Bool)(i k j:Nat):ib f g i (k+1) j=(ib f g i k j||(f i k&&g k j)):=by
 unfold ib;rw[MR,List.any_append];simp
def iz(n:Nat)(f g:Nat->Nat->Bool)(av bv:ln)(w:ix)(ha:MatV w av n f)(hb:MatV w bv n g)(hn:n<=100):
  MX Mc 100 [av,bv] w λv w'=>MatN w.heap.size w' v n (λi j=>ib f g i n j)/\MZ w w':=by
 obtain⟨xs,c6,g',f4⟩:=ha;obtain⟨ys,d5,g9,d4⟩:=hb;have hz:¬(0=2\/10<=0):=zo;have d6:=c6.free0 (λx=>by simp);have f3:=d5.free0 (λx=>by simp);have g0:∀i,i<n->Ni (λ_=>0) w (nth xs i):=λi hi=>(f4 i hi).free0 (λx=>by simp)
 have e':∀i,i<n->Ni (λ_=>0) w (nth ys i):=λi hi=>(d4 i hi).free0 (λx=>by simp)
 apply L0 func100 ntmps100 rfl rfl;refine zh ?_
 apply gV Ld nS zk rfl (aA w) 2 zd n rfl rfl zo zo zo zo rfl;intro w1 O1 ov d0 g2 g5 h3;have d9:Mg (λq=>q=2\/10<=q) (λ_=>0) w O1 w1:=g2.mono (λ_ h=>.inl h) hz;refine zh ?_
 apply zlp (λz:Nat×(Nat->Nat)×World×List ln=>[(0,av),(1,bv),(5,ov),(6,nI (z.1:Nat))]) (λz=>z.2.2.1) (λz=>z.1<=n/\MatO z.2.1 z.2.2.1 ov z.2.2.2 n z.1 (λi j=>ib f g i n j)/\Mg (λq=>q=2\/10<=q) (λ_=>0) w z.2.1 z.2.2.1/\Nf w.heap.size z.2.1 z.2.2.1) (λz=>n-z.1) (0,O1,w1,M4 n nS) ⟨L1 _,⟨d0,by simp,λi hi=>absurd hi (L5 i)⟩,d9,g5⟩;rintro⟨i,O2,w2,ms⟩ ⟨hi,hM,c9,e4⟩;dsimp only at hi hM c9 e4 ⊢;have h1:=c6.U d6 c9;refine zh ?_
 refine zC ?_ ?_
 ·intro b5;replace b5:i<n:=dT b5;have e7:=hM.len;refine zh ?_;apply cg xe (val:=λb:Bool=>Mq b) false zk (λ_=>rfl) e4 (10+i) zo n rfl rfl zo zo zo zo rfl;intro w3 O3 rv g8 b4 f5 g4 h2;have e6:=hM.U f5 zo (λt ht=>zo);apply zv (aj e6.row.sl.sh Me (Mr _) rfl rfl i rfl zo);apply Mf e6.row i zo rv (Mr _) b4.one zd rfl rfl rfl rfl;intro w4 c' c8;have b3:=b4.U c8 zo zo
  have g6:MatO O3 w4 ov (ms.set i rv) n i (λi j=>ib f g i n j):=⟨c',by rw[Mu];exact e7,λt ht=>by
   rw[bf zo,am zo]
   exact(e6.at_ t ht).U c8 zo zo⟩
  have e8:nth (ms.set i rv) i=rv:=by rw[bf zo,ap rfl]
  rw[show M4 n false=(L2 n).map (ib f g i 0)from(by
   refine(List.eq_replicate_iff.2 ⟨by simp,λb hb=>?_⟩).symm;obtain⟨t,_,rfl⟩:=List.mem_map.1 hb
   rfl)]at b3
  have f7:(ms.set i rv).length=n:=by rw[Mu];exact e7
  generalize ms.set i rv=ms4 at *;refine zh ?_;apply zlp (λx:Nat×ix=>[(0,av),(1,bv),(5,ov),(6,nI (i:Nat)),(7,nI (x.1:Nat))]) (λx=>x.2) (λx=>x.1<=n/\MatO O3 x.2 ov ms4 n i (λi j=>ib f g i n j)/\MB dD 4 1 O3 x.2 (10+i) rv ((L2 n).map (ib f g i x.1))/\Mg (λq=>q=2\/10<=q) (λ_=>0) w O3 x.2/\Nf w.heap.size O3 x.2) (λx=>n-x.1) (0,w4) ⟨L1 _,g6,b3,(c9.J (f5.mono (λ_ h=>zo) hz)).J (c8.mono (λ_ h=>zo) hz),g4.U c8⟩;rintro⟨k,w8⟩ ⟨hk,b9,a5,c7,d'⟩;dsimp only at hk b9 a5 c7 d' ⊢;have h0:=c6.U d6 c7;refine zh ?_;refine zC ?_ ?_
  ·intro a0;replace a0:k<n:=dT a0;rw[<-uU n (ib f g i (k+1)) (ib f g i k)]at a5;refine zh ?_;apply zlp (λy:Nat×ix=>[(0,av),(1,bv),(5,ov),(6,nI (i:Nat)),(7,nI (k:Nat)),(8,nI (y.1:Nat))]) (λy=>y.2) (λy=>y.1<=n/\(f i k=false->y.1=0)/\MatO O3 y.2 ov ms4 n i (λi j=>ib f g i n j)/\MB dD 4 1 O3 y.2 (10+i) rv (xc n (ib f g i (k+1)) (ib f g i k) y.1)/\Mg (λq=>q=2\/10<=q) (λ_=>0) w O3 y.2/\Nf w.heap.size O3 y.2) (λy=>n-y.1) (0,w8) ⟨L1 _,λ_=>rfl,b9,a5,c7,d'⟩;rintro⟨j,w5⟩ ⟨hj,e9,b0,a1,a6,b8⟩;dsimp only at hj e9 b0 a1 a6 b8 ⊢;have g1:=c6.U d6 a6;have b6:=(f4 i b5).U (g0 i b5) a6;have b1:w5.cell? (adr av 1 i)=some (nth xs i):=by have:=g1.cell (i:=i) (j:=0) zo rfl;rw[ax]at this;exact this
   have b2:w5.cell? (adr (nth xs i) 1 k)=some (.bool (f i k)):=by have:=b6.cell (i:=k) (j:=0) (by simpa using a0) rfl;rw[ax,gH _ a0]at this;exact this
   refine zh ?_
   by_cases a3:j<n
   ·apply ay (d:=34) rfl (b':=true) ((decide_eq_true zo));refine zh ?_
    refine zvH (aj b6.sh L8 (M8 _) rfl rfl k rfl (by simpa using a0)) ?_
    cases c0:f i k with
    |false=>
     have d1:=e9 c0;subst d1;have e:xc n (ib f g i (k+1)) (ib f g i k) 0=(L2 n).map (ib f g i (k+1)):=by
      rw[uU];exact MV λt _=>by rw[tT,c0];simp
     rw[e]at a1;refine zFH rfl rfl ?_;refine zxd (k+1,w5) ⟨a0,b0,a1,a6,b8⟩
    |true=>
     have f':=d5.U f3 a6;have d3:=(d4 k a0).U (e' k a0) a6;have g7:=FX n (ib f g i (k+1)) (ib f g i k) j;have hv:ib f g i (k+1) j=(ib f g i k j||g k j):=by rw[tT,c0,Ps]
     have f6:∀W,MB dD 4 1 O3 W (10+i) rv ((xc n (ib f g i (k+1)) (ib f g i k) j).set j (ib f g i (k+1) j))->MB dD 4 1 O3 W (10+i) rv (xc n (ib f g i (k+1)) (ib f g i k) (j+1)):=λW h=>by rw[<-FW];exact h
     have a2:∀W,MatO O3 W ov ms4 n i (λi j=>ib f g i n j)->Mg (λq=>q=2\/10<=q) (λ_=>0) w O3 W->W.cell? (adr ov 1 i)=some rv/\W.cell? (adr bv 1 k)=some (nth ys k)/\W.cell? (adr (nth ys k) 1 j)=some (.bool (g k j)):=λW hm hu=>by
      refine⟨?_,?_,?_⟩
      ·have:=hm.row.sl.cell (i:=i) (j:=0) zo rfl;rw[ax,e8]at this;exact this
      ·have:=(d5.U f3 hu).cell (i:=k) (j:=0) zo rfl;rw[ax]at this;exact this
      have:=((d4 k a0).U (e' k a0) hu).cell (i:=j) (j:=0) (by simpa using a3) rfl;rw[ax,gH _ a3]at this;exact this
     have b7:=ae (S:=λ_=>False) (λh=>h) O3 (LY w5).drew;have e5:=b0.U b7 (λh=>h) (λ_ _ h=>h);have d7:=a6.J (b7.mono (λ_ h=>h.elim) hz);have a8:MB (λx=>[(λb:Bool=>Mq b) x]) 4 1 O3 w5.drew (10+i) rv (xc n (ib f g i (k+1)) (ib f g i k) j):=a1.U b7 zo (λh=>h);obtain⟨e0,e1,e2⟩:=a2 w5.drew e5 d7;have e3:w5.drew.cell? (adr rv 1 j)=some (.bool (ib f g i k j)):=by have:=a8.sl.cell (i:=j) (j:=0) zo rfl;rw[ax,IU _ _ _ a3]at this;exact this
     refine zTH rfl rfl ?_;apply aO (λW=>W.cell? (adr ov 1 i)=some rv/\W.cell? (adr bv 1 k)=some (nth ys k)/\W.cell? (adr (nth ys k) 1 j)=some (.bool (g k j))) 23 rfl zk
     refine zin ⟨e0,e1,e2⟩ λzS=>?_
     apply zrm 0 rfl zS rfl;apply zrm 1 rfl zS rfl
     apply zr 2 rfl zS (λ_=>aj b0.row.sl.sh Me (Mr _) rfl rfl i rfl zo);apply zt 3 rfl zS (λw1 a7=>RV.ld a7.1 rfl)
     apply zrm 4 rfl zS rfl;apply zrm 5 rfl zS rfl
     apply zrm 6 rfl zS rfl;apply zr 7 rfl zS (λ_=>aj b0.row.sl.sh Me (Mr _) rfl rfl i rfl zo)
     apply zt 8 rfl zS (λw1 a7=>RV.ld a7.1 rfl);apply zrm 9 rfl zS rfl
     apply zr 10 rfl zS (λ_=>aj a1.sl.sh L8 (M8 _) rfl rfl j rfl zo);apply M5 11 zk rfl
     refine zvH (RV.ld e3 rfl) ?_;apply af ⟨e0,e1,e2⟩
     apply zrm 12 rfl ⟨e0,e1,e2⟩ rfl
     cases c2:ib f g i k j with
     |true=>
      rw[c2,PA]at hv;apply bJ (d:=57) rfl (b':=true) rfl;refine zin ⟨e0,e1,e2⟩ λzS=>?_
      apply zte 13 rfl rfl zS;apply zte 14 rfl rfl zS
      apply zte 15 rfl rfl zS;apply zte 16 rfl rfl zS
      apply zte 17 rfl rfl zS;apply zte 18 rfl rfl zS
      apply zte 19 rfl rfl zS;apply zr 20 rfl zS (λ_=>aT rfl rfl)
      apply zr 21 rfl zS (λ_=>aj a1.sl.sh L8 (M8 _) rfl rfl j rfl zo);apply M5 22 zk rfl
      apply Mf a8 j zo true (M8 _) rfl zo rfl rfl rfl rfl;intro w6 a9 a';have c5:=e5.U a' zo (λt ht=>zo);have a4:=d7.J (a'.mono (λ_ h=>zo) hz);refine zh ?_
      apply af ((a2 w6 c5 a4));apply Md zk
      refine zh ?_;refine zxd (j+1,w6) ⟨a3,(λh=>by cases h),c5,f6 w6 (by rw[hv];exact a9),a4,(b8.U b7).U a'⟩
     |false=>
      rw[c2,MP]at hv;apply bJ (d:=57) rfl (b':=false) rfl;refine zin ⟨e0,e1,e2⟩ λzS=>?_
      apply zro 13 rfl zS (λ_=>M1 rfl);apply zro 14 rfl zS (λ_=>M1 rfl)
      apply zro 15 rfl zS (λ_=>aj f'.sh Me (Mr _) rfl rfl k rfl zo);apply zto 16 rfl zS (λw1 a7=>RV.ld a7.2.1 rfl)
      apply zro 17 rfl zS (λ_=>M1 rfl);apply zro 18 rfl zS (λ_=>aj d3.sh L8 (M8 _) rfl rfl j rfl (by simpa using a3))
      apply zto 19 rfl zS (λw1 a7=>RV.ld a7.2.2 rfl);apply zr 20 rfl zS (λ_=>aV rfl rfl)
      apply zr 21 rfl zS (λ_=>aj a1.sl.sh L8 (M8 _) rfl rfl j rfl zo);apply M5 22 zk rfl
      apply Mf a8 j zo (g k j) (M8 _) rfl zo rfl rfl rfl rfl;intro w6 a9 a';have c5:=e5.U a' zo (λt ht=>zo);have a4:=d7.J (a'.mono (λ_ h=>zo) hz);refine zh ?_
      apply af ((a2 w6 c5 a4));apply Md zk
      refine zh ?_;refine zxd (j+1,w6) ⟨a3,(λh=>by cases h),c5,f6 w6 (by rw[hv];exact a9),a4,(b8.U b7).U a'⟩
   have f8:j=n:=zo;subst f8;rw[FY]at a1;apply ay (d:=34) rfl (b':=false) ((decide_eq_false zo));refine zh ?_;refine zFH rfl rfl ?_;refine zxd (k+1,w5) ⟨a0,b0,a1,a6,b8⟩
  intro d2;obtain rfl:k=n:=dF d2;refine zh ?_;refine zxd (i+1,O3,w8,ms4) ⟨b5,⟨b9.row,b9.len,λt ht=>?_⟩,c7,d'⟩
  by_cases e:t=i
  ·subst e;rw[e8];exact a5
  exact b9.at_ t (by dsimp only at ht;omega)
 intro f9;obtain rfl:i=n:=dF f9;refine zh ?_;refine ah rfl rfl ⟨hM.matN e4,c9.ext⟩
abbrev Tb:=Nat->Nat->Bool
def seg(ms:List Int)(i j:Nat):List Int:=(ms.drop i).take (j-i)
def ow(ms:List Int)(h:i<=j)(hj:j<=ms.length):(seg ms i j).length=j-i:=by simp[seg];omega
def yY(ms:List Int)(i:Nat):seg ms i i=[]:=by simp[seg]
def xw(ms:List Int){m:Nat}(h1:i<=m)(h2:m<=j):seg ms i j=seg ms i m++seg ms m j:=by
 unfold seg;obtain⟨a,rfl⟩:∃a,m=i+a:=⟨m-i,zo⟩
 obtain⟨b,rfl⟩:∃b,j=i+a+b:=⟨j-(i+a),zo⟩
 rw[show i+a+b-i=a+b from by omega,show i+a-i=a from by omega,show i+a+b-(i+a)=b from by omega,List.take_add,NA]
def uo(h:i<=j)(hj:j<=ms.length){u v:List Int}(e:seg ms i j=u++v):i+u.length<=j/\u=seg ms i (i+u.length)/\v=seg ms (i+u.length) j:=by
 have hl:=congrArg ME e;rw[ow ms h hj,LX]at hl;have h1:i+u.length<=j:=zo;have e2:=xw ms (show i<=i+u.length by omega) h1;rw[e]at e2;obtain⟨e3,e4⟩:=List.append_inj e2 (by rw[ow ms zo zo];omega);exact⟨h1,e3,e4⟩
def Io(h:i<ms.length):seg ms i (i+1)=[nth ms i]:=by
 unfold seg;rw[show i+1-i=1 from by omega,Mm h,aD h];rfl
def GD(n:Nat)(t:Tb):Nat->Tb
 |0=>t
 |r+1=>λi j=>GD n t r i j||ib (GD n t r) t i n j
def stepT(n:Nat)(k:Int)(a0 t:Tb):Tb:=
 if k=4 then λi j=>ib a0 t i n j else if k=6\/k=7 then λi j=>a0 i j||GD n t n i j else λi j=>a0 i j||t i j
def ft(ms:List Int)(k c:Int):Tb:=λi j=>if i=j then decide (k=4\/k=6\/k=8\/k=9)else if j=i+1/\k<4 then IL k c (nth ms i)else false
mutual
/-- From which place of marks a node leads to which. -/
def bU(ms:List Int):Nd->Tb
 |.mk k c l=>dL ms k l (ft ms k c)
def dL(ms:List Int)(k:Int):List Nd->Tb->Tb
 |[],out=>out
 |t::r,out=>dL ms k r (stepT (ms.length+1) k out (bU ms t))
end
def BD(f g:Tb)(i n j:Nat):ib f g i n j=true↔∃m,m<n/\f i m=true/\g m j=true:=by
 unfold ib;rw[List.any_eq_true]
 constructor
 ·rintro⟨m,hm,h⟩;rw[L7]at h;exact⟨m,N8.1 hm,h.1,h.2⟩
 rintro⟨m,hm,h1,h2⟩;exact⟨m,N8.2 hm,by rw[h1,h2];rfl⟩
def Says(ms:List Int)(t:Tb)(L:List Int->Prop):Prop:=∀i j,i<=ms.length->j<=ms.length->(t i j=true↔i<=j/\L (seg ms i j))
def yZ{f g:Tb}(hf:Says ms f L)(hg:Says ms g M):Says ms (λi j=>ib f g i (ms.length+1) j) (λw=>∃u v,w=u++v/\L u/\M v):=λi j hi hj=>by
 rw[BD]
 constructor
 ·rintro⟨m,hm,h1,h2⟩;obtain⟨a1,a2⟩:=(hf i m hi zo).1 h1;obtain⟨b1,b2⟩:=(hg m j zo hj).1 h2;exact⟨zo,_,_,xw ms a1 b1,a2,b2⟩
 rintro⟨a0,u,v,e,h1,h2⟩;obtain⟨s1,s2,s3⟩:=uo a0 hj e;exact⟨i+u.length,zo,(hf i _ hi zo).2 ⟨zo,s2▸h1⟩,(hg _ j zo hj).2 ⟨s1,s3▸h2⟩⟩
def rX{f g:Tb}(hf:Says ms f L)(hg:Says ms g M):Says ms (λi j=>f i j||g i j) (λw=>L w\/M w):=λi j hi hj=>by
 rw[Mv,hf i j hi hj,hg i j hi hj];exact⟨λh=>h.elim (λh=>⟨h.1,.inl h.2⟩) (λh=>⟨h.1,.inr h.2⟩),fun⟨h1,h2⟩=>h2.elim (λh=>.inl ⟨h1,h⟩) (λh=>.inr ⟨h1,h⟩)⟩
def Says.congr{f:Tb}(h:Says ms f L)(e:∀w,L w↔M w):Says ms f M:=λi j hi hj=>by rw[h i j hi hj,e]
def KF(P:List Int->Prop):Nat->List Int->Prop
 |0,w=>P w
 |r+1,w=>∃u v,w=u++v/\KF P r u/\P v
def za{ms:List Int}{t:Tb}{L:List Int->Prop}(h:Says ms t L):∀r,Says ms (GD (ms.length+1) t r) (λw=>∃s,s<=r/\KF L s w)
 |0=>h.congr λw=>⟨λhw=>⟨0,L6 _,hw⟩,fun⟨s,hs,hw⟩=>(match s,hs,hw with|0,_,hw=>hw)⟩
 |r+1=>by
  have ih:=za h r;refine(rX ih (yZ ih h)).congr λw=>?_
  constructor
  ·rintro(⟨s,hs,hw⟩|⟨u,v,rfl,⟨s,hs,hu⟩,hv⟩)
   ·exact⟨s,zo,hw⟩
   exact⟨s+1,zo,u,v,rfl,hu,hv⟩
  rintro⟨s,hs,hw⟩
  by_cases e:s<=r
  ·exact .inl ⟨s,e,hw⟩
  obtain rfl:s=r+1:=zo;obtain⟨u,v,rfl,hu,hv⟩:=hw;exact .inr ⟨u,v,rfl,⟨r,L6 _,hu⟩,hv⟩
def B9{k:Int}(hk:4<=k):Says ms (ft ms k c) (λw=>(k=4\/k=6\/k=8\/k=9)/\w=[]):=λi j hi hj=>by
 unfold ft
 by_cases e:i=j
 ·subst e;rw[ap rfl,yY,decide_eq_true_eq];exact⟨λh=>⟨L6 _,h,rfl⟩,λh=>h.2.1⟩
 rw[am e,am zo];refine⟨λh=>(by cases h),fun⟨h1,_,h2⟩=>?_⟩;have:=congrArg ME h2;rw[ow ms h1 hj]at this;simp at this;omega
def Cw{k m:Int}(hk:k=0/\0<=c/\c<36\/k=1\/k=2\/k=3):IL k c m=de k c m:=by
 unfold IL de
 rcases hk with⟨rfl,h1,h2⟩|rfl|rfl|rfl
 ·rw[ap rfl,ap rfl]
  by_cases e:m=c
  ·subst e;rw[decide_eq_true h1,decide_eq_true h2];rfl
  rw[beq_eq_false_iff_ne.2 e,Na]
 ·rw[am zd,ap rfl,am zd,ap rfl];congr 1;exact decide_eq_decide.2 zo
 ·rw[am zd,am zd,ap rfl,am zd,am zd,ap rfl];congr 2;exact decide_eq_decide.2 zo
 rw[am zd,am zd,am zd,am zd,am zd,am zd];rfl
def kW{k:Int}(hk:k=0/\0<=c/\c<36\/k=1\/k=2\/k=3):Says ms (ft ms k c) (λw=>∃m,w=[m]/\de k c m=true):=λi j hi hj=>by
 unfold ft
 by_cases e:i=j
 ·subst e;rw[ap rfl,yY,decide_eq_false zo];exact⟨λh=>(by cases h),fun⟨_,m,h,_⟩=>by cases h⟩
 rw[am e]
 by_cases e2:j=i+1
 ·subst e2;rw[ap ⟨rfl,zo⟩,Io zo,Cw hk];exact⟨λh=>⟨zo,_,rfl,h⟩,fun⟨_,m,h,ht⟩=>by cases h;exact ht⟩
 rw[am zo];refine⟨λh=>(by cases h),fun⟨h1,m,h2,_⟩=>?_⟩;have:=congrArg ME h2;rw[ow ms h1 hj]at this;simp at this;omega
def Fp{P:List Int->Prop}{w:List Int}(h:PI P w):w=[]\/∃s,s+1<=w.length/\∃l:List (List Int),l.length=s+1/\w=l.flatten/\∀u∈l,P u:=by
 induction h with
 |nil=>exact .inl rfl
 | @cons u v hu hv ih=>
  by_cases a0:u=[]
  ·subst a0;rw[List.nil_append];exact ih
  have a1:=P4.2 a0
  rcases ih with rfl|⟨s,hs,l,hl,rfl,hP⟩
  ·exact .inr ⟨0,by rw[MS];exact a1,[u],rfl,by simp,λx hx=>by rw[Mi.1 hx];exact hu⟩
  refine .inr ⟨s+1,by rw[LX];omega,u::l,by simp[hl],rfl,λx hx=>?_⟩
  rcases M7.1 hx with rfl|hx
  ·exact hu
  exact hP x hx
def GR{P:List Int->Prop}:∀(s:Nat) (l:List (List Int)),l.length=s+1->(∀u∈l,P u)->KF P s l.flatten
 |0,l,hl,hP=>by
  match l,hl with
  |[u],_=>have:=hP u (by simp);show P _;simpa using this
 |s+1,l,hl,hP=>by
  have a0:l≠[]:=λe=>by rw[e]at hl;cases hl
  refine⟨l.dropLast.flatten,l.getLast a0,?_,GR s _ (by rw[List.length_dropLast];omega) (λu hu=>hP u (List.dropLast_subset l hu)),hP _ (List.getLast_mem a0)⟩
  conv=>lhs;rw[<-List.dropLast_concat_getLast a0]
  simp
def zj{P:List Int->Prop}:∀(s:Nat) (w:List Int),KF P s w->∃l:List (List Int),l.length=s+1/\w=l.flatten/\∀u∈l,P u
 |0,w,h=>⟨[w],rfl,by simp,λu hu=>by rw[Mi.1 hu];exact h⟩
 |s+1,w,⟨u,v,e,hu,hv⟩=>by
  obtain⟨l,h1,h2,h3⟩:=zj s u hu;refine⟨l++[v],by simp[h1],by rw[e,h2];simp,λx hx=>?_⟩
  rcases Nr.1 hx with hx|hx
  ·exact h3 x hx
  rw[Mi.1 hx];exact hv
def tZ{P:List Int->Prop}:∀(l:List (List Int)),(∀u∈l,P u)->PI P l.flatten
 |[],_=>.nil
 |u::l,h=>.cons (h u (by simp)) (tZ l (λx hx=>h x (by simp[hx])))
def vg{ms:List Int}:∀(l:List Nd),(∀t∈l,Says ms (bU ms t) (Lg t))->∀(a0:Tb) (L:List Int->Prop),Says ms a0 L->Says ms (dL ms 4 l a0) (λw=>∃u v,w=u++v/\L u/\LgS l v)
 |[],_,a0,L,h=>by
  unfold dL;refine h.congr λw=>?_
  constructor
  ·intro hw;exact⟨w,[],by simp,hw,by unfold LgS;rfl⟩
  rintro⟨u,v,rfl,hu,hv⟩;unfold LgS at hv;subst hv
  rwa[MS]
 |t::r,hl,a0,L,h=>by
  unfold dL;refine(vg r (λx hx=>hl x (by simp[hx])) _ _ (yZ h (hl t (by simp)))).congr λw=>?_
  constructor
  ·rintro⟨_,v,rfl,⟨a,b,rfl,ha,hb⟩,hv⟩;exact⟨a,b++v,by rw[Mo],ha,by unfold LgS;exact⟨b,v,rfl,hb,hv⟩⟩
  rintro⟨a,v,rfl,ha,hv⟩;unfold LgS at hv;obtain⟨b,v',rfl,hb,a1⟩:=hv;exact⟨a++b,v',by rw[Mo],⟨a,b,rfl,ha,hb⟩,a1⟩
def oQ{ms:List Int}{k:Int}(h4:k≠4)(h6:¬(k=6\/k=7)):∀(l:List Nd),(∀t∈l,Says ms (bU ms t) (Lg t))->∀(a0:Tb) (L:List Int->Prop),Says ms a0 L->Says ms (dL ms k l a0) (λw=>L w\/LgA l w)
 |[],_,a0,L,h=>by
  unfold dL;refine h.congr λw=>⟨.inl,λhw=>hw.elim id λhw=>?_⟩
  unfold LgA at hw;exact hw.elim
 |t::r,hl,a0,L,h=>by
  unfold dL;have h1:Says ms (stepT (ms.length+1) k a0 (bU ms t)) (λw=>L w\/Lg t w):=by
   unfold stepT;rw[am h4,am h6];exact rX h (hl t (by simp))
  refine(oQ h4 h6 r (λx hx=>hl x (by simp[hx])) _ _ h1).congr λw=>?_
  rw[LgA];exact or_assoc
def uq{t:Tb}(h:Says ms t L):Says ms (GD (ms.length+1) t (ms.length+1)) (λw=>∃u v,w=u++v/\L u/\PI L v):=λi j hi hj=>by
 rw[za h _ i j hi hj];refine and_congr_right λa0=>?_
 have hl:=ow ms a0 hj
 constructor
 ·rintro⟨s,_,hw⟩;obtain⟨l,h1,h2,h3⟩:=zj s _ hw
  match l,h1,h3 with
  |u::r,_,h3=>exact⟨u,r.flatten,h2,h3 u (by simp),tZ r (λx hx=>h3 x (by simp[hx]))⟩
 rintro⟨u,v,e,hu,hv⟩;have a1:v.length<=ms.length:=by have:=congrArg ME e;rw[LX]at this;omega
 rw[e]
 rcases Fp hv with rfl|⟨s,hs,l,h1,rfl,h3⟩
 ·exact⟨0,L1 _,by rw[MS];exact hu⟩
 refine⟨s+1,zo,?_⟩
 have:=GR (s+1) (u::l) (by simp[h1]) (λx hx=>by
  rcases M7.1 hx with rfl|hx
  ·exact hu
  exact h3 x hx)
 exact this
def lg4(c:Int)(l:List Nd)(w:List Int):Lg (.mk 4 c l) w↔LgS l w:=by rw[Lg];simp
def lg5(c:Int)(l:List Nd)(w:List Int):Lg (.mk 5 c l) w↔LgA l w:=by rw[Lg];simp
def lg6(c:Int)(t:Nd)(w:List Int):Lg (.mk 6 c [t]) w↔PI (Lg t) w:=by
 have eH:LgH [t]=Lg t:=by rw[LgH]
 rw[Lg,<-eH];simp
def lg7(c:Int)(t:Nd)(w:List Int):Lg (.mk 7 c [t]) w↔∃u v,w=u++v/\Lg t u/\PI (Lg t) v:=by
 have eH:LgH [t]=Lg t:=by rw[LgH]
 rw[Lg,<-eH];simp
def lg8(c:Int)(t:Nd)(w:List Int):Lg (.mk 8 c [t]) w↔w=[]\/Lg t w:=by
 have eH:LgH [t]=Lg t:=by rw[LgH]
 rw[Lg,<-eH];simp
mutual
def qO(ms:List Int):∀(t:Nd) (wi:Bool),bV t wi=true->Says ms (bU ms t) (Lg t)
 |.mk k c l,wi,h=>by
  unfold bV at h
  rw[L7]at h
  have hall:=vh ms l h.2
  have hb:=λhk:4<=k=>B9 (ms:=ms) (c:=c) hk
  unfold bU
  rcases dM h.1 with⟨rfl,hn,h1,h2⟩|⟨rfl,hn,h1⟩|⟨rfl,hn,h1,h2⟩|⟨rfl,hn,h1⟩|⟨rfl,hn,h1⟩|⟨rfl,hn,h1⟩|⟨rfl,hn,h1⟩|⟨rfl,hn,h1⟩|⟨rfl,hn,h1⟩|⟨rfl,hn,h1,h2⟩
  ·obtain rfl:=M6 hn
   unfold dL
   exact(kW (.inl ⟨rfl,h1,h2⟩)).congr λw=>by rw[Lg];simp
  ·obtain rfl:=M6 hn
   unfold dL
   exact(kW (.inr (.inl rfl))).congr λw=>by rw[Lg];simp
  ·obtain rfl:=M6 hn
   unfold dL
   exact(kW (.inr (.inr (.inl rfl)))).congr λw=>by rw[Lg];simp
  ·obtain rfl:=M6 hn
   unfold dL
   exact(kW (.inr (.inr (.inr rfl)))).congr λw=>by rw[Lg];simp
  ·refine(vg l hall _ _ (hb zd)).congr λw=>?_
   rw[lg4]
   constructor
   ·rintro⟨u,v,rfl,⟨_,rfl⟩,hv⟩;exact hv
   intro hw;exact⟨[],w,rfl,⟨.inl rfl,rfl⟩,hw⟩
  ·refine(oQ zd zd l hall _ _ (hb zd)).congr λw=>?_
   rw[lg5]
   exact⟨λhw=>hw.elim (λhw=>absurd hw.1 zd) id,.inr⟩
  ·match l,hn,hall with
   |[t],_,hall=>
    have ht:=hall t (by simp)
    have h3:=rX (hb zd) (uq ht)
    refine h3.congr λw=>?_
    rw[lg6]
    constructor
    ·rintro(⟨_,rfl⟩|⟨u,v,rfl,hu,hv⟩)
     ·exact .nil
     exact .cons hu hv
    intro hw
    cases hw with
    |nil=>exact .inl ⟨zd,rfl⟩
    |cons hu hv=>exact .inr ⟨_,_,rfl,hu,hv⟩
  ·match l,hn,hall with
   |[t],_,hall=>
    have ht:=hall t (by simp)
    have h3:=rX (hb zd) (uq ht)
    refine h3.congr λw=>?_
    rw[lg7]
    constructor
    ·rintro(⟨h,_⟩|hw)
     ·exact absurd h zd
     exact hw
    exact .inr
  ·match l,hn,hall with
   |[t],_,hall=>
    refine(oQ zd zd [t] hall _ _ (hb zd)).congr λw=>?_
    rw[lg8]
    constructor
    ·rintro(⟨_,hw⟩|hw)
     ·exact .inl hw
     rw[LgA,LgA]at hw
     exact .inr (hw.elim id False.elim)
    rintro(hw|hw)
    ·exact .inl ⟨zd,hw⟩
    exact .inr (by rw[LgA];exact .inl hw)
  obtain rfl:=M6 hn
  unfold dL
  refine(hb zd).congr λw=>?_
  rw[Lg];simp
def vh(ms:List Int):∀(l:List Nd),eS l=true->∀t∈l,Says ms (bU ms t) (Lg t)
 |[],_,t,ht=>by cases ht
 |a::r,h,t,ht=>by
  unfold eS at h
  rw[L7]at h
  have h1:=qO ms a true h.1
  have h2:=vh ms r h.2
  rcases M7.1 ht with e|ht
  ·rw[e];exact h1
  exact h2 t ht
end
def oP(ms:List Int){t:Nd}(h:bz t=true):Says ms (bU ms t) (Lg t):=by
 unfold bz at h;rw[L7]at h;exact qO ms t false h.2
def Gy{k:Int}(_:i<n)(hn:n=ms.length+1):(L2 n).map (ft ms k c i) =
  if i+1<n/\k<4 then((M4 n false).set i (decide (k=4\/k=6\/k=8\/k=9))).set (i+1) (IL k c (nth ms i))else(M4 n false).set i (decide (k=4\/k=6\/k=8\/k=9)):=by
 by_cases h:i+1<n/\k<4
 ·rw[ap h];refine MA (by simp) λj h1 h2=>?_
  simp only[Mp,Ml,N2,NN];unfold ft
  by_cases e:i=j
  ·subst e;rw[ap rfl,am zo,ap rfl]
  rw[am e]
  by_cases e2:i+1=j
  ·rw[ap ⟨e2.symm,h.2⟩,ap e2]
  rw[am zo,am e2,am e]
 rw[am h];refine MA (by simp) λj h1 h2=>?_
 simp only[List.length_map,List.length_range]at h1;simp only[Mp,Ml,N2,NN];unfold ft
 by_cases e:i=j
 ·subst e;rw[ap rfl,ap rfl]
 rw[am e,am e,am zo]
def iA(ms:List Int)(mv:ln)(j':ms.length<=60):∀(n:Nat) (t:Nd),nsz t<=n->∀(x:N3) (w:ix),Nt (λ_=>0) w t x->PL w mv ms->MX Mc 67 [nv x,mv] w λv w'=>MatN w.heap.size w' v (ms.length+1) (bU ms t)/\MZ w w'
 |0,t,hn=>by have:=dy t;omega
 |n+1,.mk k c kids,hn=>by
  intro x w h hm;have j6:=h.ones;obtain⟨xs,hs,hf,hl,hk⟩:=h.kids;simp only[Pk]at hl hk;simp only[nsz]at hn;have hM:bU ms (.mk k c kids)=dL ms k kids (ft ms k c):=by rw[bU]
  rw[hM];generalize x.2.2=sv at *;subst j6;simp only[NY,Pg];obtain⟨K,hK⟩:∃K,K=ms.length+1:=⟨_,rfl⟩
  rw[<-hK];have hz:¬(0=1\/0=2\/10<=0):=zo;have j3:=hm.free0 (λx=>by simp);apply L0 func67 ntmps67 rfl rfl;refine zh ?_;apply aQ (aA w) 1 zo rfl rfl;intro xb w1 O1 g7 k7 l1 l4;refine zh ?_;refine zvH (NX (by first|exact hm.ext l4) M0 rfl) ?_;rw[show((ms.length:Nat):Int)+1=((K:Nat):Int)from by rw[hK];omega];apply gV Ld nS zk rfl l1 2 zd K rfl rfl rfl rfl zo zo rfl;intro w2 O2 ov h0 j4 l0 l';have g6:=g7.U j4 zd zd;have i9:Mg (λq=>q=1\/q=2\/10<=q) (λ_=>0) w O2 w2:=(k7.mono (λ_ h=>zo) hz).J (j4.mono (λ_ h=>zo) hz);refine zh ?_;apply zlp (λz:Nat×(Nat->Nat)×World×List ln=>[(1,mv),(2,nP xb),(5,nI (K:Nat)),(6,ov),(7,nI (z.1:Nat))]) (λz=>z.2.2.1) (λz=>z.1<=K/\MatO z.2.1 z.2.2.1 ov z.2.2.2 K z.1 (ft ms k c)/\My z.2.1 z.2.2.1 1 xb #[nI k,nI c,sv] 96/\Mg (λq=>q=1\/q=2\/10<=q) (λ_=>0) w z.2.1 z.2.2.1/\Nf w.heap.size z.2.1 z.2.2.1) (λz=>K-z.1) (0,O2,w2,M4 K nS) ⟨L1 _,⟨h0,by simp,λi hi=>absurd hi (L5 i)⟩,g6,i9,l0⟩;rintro⟨i,O3,w3,rs⟩ ⟨hi,f6,c5,i7,i'⟩;dsimp only at hi f6 c5 i7 i' ⊢;have e9:=f6.len;refine zh ?_;refine zC ?_ ?_
  ·intro b1;replace b1:i<K:=dT b1;refine zh ?_;apply cg xe (val:=λb:Bool=>Mq b) false zk (λ_=>rfl) i' (10+i) zo K rfl rfl rfl rfl zo zo rfl;intro w4 O4 rv l7 e7 i6 k' b2;have d':=f6.U i6 zo (λt ht=>zo);have g5:=c5.U i6 zd zo;apply zv (aj d'.row.sl.sh Me (Mr _) rfl rfl i rfl zo);apply Mf d'.row i zo rv (Mr _) e7.one zd rfl rfl rfl rfl;intro w5 g' f4;have b5:=e7.U f4 zo zo;have g4:=g5.U f4 zd zd;have k9:=k'.U f4;have i8:=(i7.J (i6.mono (λ_ h=>zo) hz)).J (f4.mono (λ_ h=>zo) hz)
   have f5:MatO O4 w5 ov (rs.set i rv) K i (ft ms k c):=⟨g',by rw[Mu];exact e9,λt ht=>by
    rw[bf zo,am zo]
    exact(d'.at_ t ht).U f4 zo zo⟩
   have h3:nth (rs.set i rv) i=rv:=by rw[bf zo,ap rfl]
   have j9:(rs.set i rv).length=K:=by rw[Mu];exact e9
   generalize rs.set i rv=rs5 at *;refine zh ?_;obtain⟨b0,e'⟩:∃b0,b0=decide (k=4\/k=6\/k=8\/k=9):=⟨_,rfl⟩
   refine ia (λz:ix=>[(1,mv),(2,nP xb),(5,nI (K:Nat)),(6,ov),(7,nI (i:Nat))]) (λz:ix=>z) (λz:ix=>MatO O4 z ov rs5 K i (ft ms k c)/\My O4 z 1 xb #[nI k,nI c,sv] 96/\MB dD 4 1 O4 z (10+i) rv ((M4 K false).set i b0)/\Mg (λq=>q=1\/q=2\/10<=q) (λ_=>0) w O4 z/\Nf w.heap.size O4 z) ?_ ?_
   ·intro Qm hN;have b8:=ae (S:=λ_=>False) (λh=>h) O4 (LY w5).drew;have d3:=f5.U b8 (λh=>h) (λ_ _ h=>h);have a5:=g4.U b8 zd (λh=>h);have d9:=i8.J (b8.mono (λ_ h=>h.elim) hz);have e4:=k9.U b8;have a':MB (λx=>[(λb:Bool=>Mq b) x]) 4 1 O4 w5.drew (10+i) rv (M4 K false):=b5.U b8 zo (λh=>h);have a0:∀W,MatO O4 W ov rs5 K i (ft ms k c)->My O4 W 1 xb #[nI k,nI c,sv] 96->W.cell? (adr ov 1 i)=some rv/\W.cell? (nA xb 0)=some (nI k):=λW hm hb=>by
     refine⟨?_,hb.cell 0 rfl⟩;have:=hm.row.sl.cell (i:=i) (j:=0) zo rfl;rw[ax,h3]at this;exact this
    obtain⟨e0,e1⟩:=a0 w5.drew d3 a5;have j8:(M4 K false).length=K:=by simp
    apply aO (λW=>W.cell? (adr ov 1 i)=some rv/\W.cell? (nA xb 0)=some (nI k)) 25 rfl zk;refine zin ⟨e0,e1⟩ λzS=>?_
    apply zrm 0 rfl zS rfl;apply zrm 1 rfl zS rfl
    apply zr 2 rfl zS (λ_=>aj f5.row.sl.sh Me (Mr _) rfl rfl i rfl zo);apply zt 3 rfl zS (λw1 a7=>RV.ld a7.1 rfl)
    apply zrm 4 rfl zS rfl;apply zrf 5 rfl zS rfl
    apply zt 6 rfl zS (λw1 a7=>RV.ld a7.2 rfl);apply zr 7 rfl zS (λ_=>Pf rfl rfl)
    apply zrm 8 rfl zS rfl
    by_cases h4:k=4
    ·apply bJ (d:=35) rfl (b':=true) ((by rw[h4];rfl));refine zin ⟨e0,e1⟩ λzS=>?_
     apply zte 9 rfl rfl zS;apply zte 10 rfl rfl zS
     apply zte 11 rfl rfl zS;apply zr 12 rfl zS (λ_=>aT rfl rfl)
     apply zrm 13 rfl zS rfl;apply zte 14 rfl rfl zS
     apply zte 15 rfl rfl zS;apply zte 16 rfl rfl zS
     apply zr 17 rfl zS (λ_=>aT rfl rfl);apply zrm 18 rfl zS rfl
     apply zte 19 rfl rfl zS;apply zte 20 rfl rfl zS
     apply zte 21 rfl rfl zS;apply zr 22 rfl zS (λ_=>aT rfl rfl)
     apply zr 23 rfl zS (λ_=>aj b5.sl.sh L8 (M8 _) rfl rfl i rfl zo);apply M5 24 zk rfl
     apply Mf a' i zo true (M8 _) rfl zo rfl rfl rfl rfl;intro w6 a8 a3;have b9:=d3.U a3 zo (λt ht=>zo);have b4:=a5.U a3 zd zo;refine zh ?_
     apply af ((a0 w6 b9 b4));apply Md zk
     exact dA (hN w6 ⟨b9,b4,by rw[e',decide_eq_true (Nq h4)];exact a8,d9.J (a3.mono (λ_ h=>zo) hz),e4.U a3⟩) ⟨rfl,rfl,rfl,rfl,rfl,trivial⟩ rfl
    apply bJ (d:=35) rfl (b':=false) ((by rw[beq_eq_false_iff_ne];exact h4));refine zin ⟨e0,e1⟩ λzS=>?_
    apply zro 9 rfl zS (λ_=>RV.fa rfl);apply zto 10 rfl zS (λw1 a7=>RV.ld a7.2 rfl)
    apply zro 11 rfl zS (λ_=>Pf rfl rfl);apply zr 12 rfl zS (λ_=>aV rfl rfl)
    apply zrm 13 rfl zS rfl
    by_cases h6:k=6
    ·apply bJ (d:=40) rfl (b':=true) ((by rw[h6];rfl));refine zin ⟨e0,e1⟩ λzS=>?_
     apply zte 14 rfl rfl zS;apply zte 15 rfl rfl zS
     apply zte 16 rfl rfl zS;apply zr 17 rfl zS (λ_=>aT rfl rfl)
     apply zrm 18 rfl zS rfl;apply zte 19 rfl rfl zS
     apply zte 20 rfl rfl zS;apply zte 21 rfl rfl zS
     apply zr 22 rfl zS (λ_=>aT rfl rfl);apply zr 23 rfl zS (λ_=>aj b5.sl.sh L8 (M8 _) rfl rfl i rfl zo)
     apply M5 24 zk rfl;apply Mf a' i zo true (M8 _) rfl zo rfl rfl rfl rfl
     intro w6 a8 a3;have b9:=d3.U a3 zo (λt ht=>zo);have b4:=a5.U a3 zd zo;refine zh ?_;apply af ((a0 w6 b9 b4));apply Md zk;exact dA (hN w6 ⟨b9,b4,by rw[e',decide_eq_true (Np (Nq h6))];exact a8,d9.J (a3.mono (λ_ h=>zo) hz),e4.U a3⟩) ⟨rfl,rfl,rfl,rfl,rfl,trivial⟩ rfl
    apply bJ (d:=40) rfl (b':=false) ((by rw[beq_eq_false_iff_ne];exact h6));refine zin ⟨e0,e1⟩ λzS=>?_
    apply zro 14 rfl zS (λ_=>RV.fa rfl);apply zto 15 rfl zS (λw1 a7=>RV.ld a7.2 rfl)
    apply zro 16 rfl zS (λ_=>Pf rfl rfl);apply zr 17 rfl zS (λ_=>aV rfl rfl)
    apply zrm 18 rfl zS rfl
    by_cases h8:k=8
    ·apply bJ (d:=45) rfl (b':=true) ((by rw[h8];rfl));refine zin ⟨e0,e1⟩ λzS=>?_
     apply zte 19 rfl rfl zS;apply zte 20 rfl rfl zS
     apply zte 21 rfl rfl zS;apply zr 22 rfl zS (λ_=>aT rfl rfl)
     apply zr 23 rfl zS (λ_=>aj b5.sl.sh L8 (M8 _) rfl rfl i rfl zo);apply M5 24 zk rfl
     apply Mf a' i zo true (M8 _) rfl zo rfl rfl rfl rfl;intro w6 a8 a3;have b9:=d3.U a3 zo (λt ht=>zo);have b4:=a5.U a3 zd zo;refine zh ?_
     apply af ((a0 w6 b9 b4));apply Md zk
     exact dA (hN w6 ⟨b9,b4,by rw[e',decide_eq_true (Np (Np (Nq h8)))];exact a8,d9.J (a3.mono (λ_ h=>zo) hz),e4.U a3⟩) ⟨rfl,rfl,rfl,rfl,rfl,trivial⟩ rfl
    apply bJ (d:=45) rfl (b':=false) ((by rw[beq_eq_false_iff_ne];exact h8));refine zin ⟨e0,e1⟩ λzS=>?_
    apply zro 19 rfl zS (λ_=>RV.fa rfl);apply zto 20 rfl zS (λw1 a7=>RV.ld a7.2 rfl)
    apply zro 21 rfl zS (λ_=>Pf rfl rfl);apply zr 22 rfl zS (λ_=>aV rfl rfl)
    apply zr 23 rfl zS (λ_=>aj b5.sl.sh L8 (M8 _) rfl rfl i rfl zo);apply M5 24 zk rfl
    apply Mf a' i zo (k==9) (M8 _) rfl zo rfl rfl rfl rfl;intro w6 a8 a3;have b9:=d3.U a3 zo (λt ht=>zo);have b4:=a5.U a3 zd zo;refine zh ?_
    apply af ((a0 w6 b9 b4));apply Md zk
    exact dA (hN w6 ⟨b9,b4,by rw[e',show decide (k=4\/k=6\/k=8\/k=9)=(k==9)from by rw[MT];simp[h4,h6,h8]];exact a8,d9.J (a3.mono (λ_ h=>zo) hz),e4.U a3⟩) ⟨rfl,rfl,rfl,rfl,rfl,trivial⟩ rfl
   rintro w7 ⟨j1,d5,d7,i5,j5⟩;refine zh ?_;have b6:=Gy (k:=k) (c:=c) b1 hK;rw[<-e']at b6;have x7:w7.cell? (nA xb 0)=some (nI k):=d5.cell 0 rfl;refine zh ?_;refine aU (λw1=>_=w1) (decide (k<4)) 3 rfl rfl rfl rfl rfl rfl ?_ ?_
   ·intro g1;refine zh ?_;refine nE 55 4 rfl g1
   rintro _ rfl;refine zh ?_;refine ia (λz:ix=>[(1,mv),(2,nP xb),(5,nI (K:Nat)),(6,ov),(7,nI (i:Nat))]) (λz:ix=>z) (λz:ix=>MatO O4 z ov rs5 K (i+1) (ft ms k c)/\My O4 z 1 xb #[nI k,nI c,sv] 96/\Mg (λq=>q=1\/q=2\/10<=q) (λ_=>0) w O4 z/\Nf w.heap.size O4 z) ?_ ?_
   ·intro Qm hN
    have e6:∀W,MatO O4 W ov rs5 K i (ft ms k c)->MB dD 4 1 O4 W (10+i) rv ((L2 K).map (ft ms k c i))->MatO O4 W ov rs5 K (i+1) (ft ms k c):=λW h1 h2=>⟨h1.row,h1.len,λt ht=>by
     by_cases e:t=i
     ·subst e;rw[h3];exact h2
     exact h1.at_ t zo⟩
    refine zC ?_ ?_
    ·intro hc;have i2:i+1<K/\k<4:=by
      rw[L7]at hc;have a1:=of_decide_eq_true hc.1;have a2:=of_decide_eq_true hc.2;exact⟨zo,a2⟩
     rw[ap i2]at b6;have b8:=ae (S:=λ_=>False) (λh=>h) O4 (LY w7).drew;have d3:=j1.U b8 (λh=>h) (λ_ _ h=>h);have a5:=d5.U b8 zd (λh=>h);have d9:=i5.J (b8.mono (λ_ h=>h.elim) hz);have e4:=j5.U b8;have a':=d7.U b8 zo (λh=>h);have k3:i<ms.length:=zo;have a4:∀W,MatO O4 W ov rs5 K i (ft ms k c)->My O4 W 1 xb #[nI k,nI c,sv] 96->Mg (λq=>q=1\/q=2\/10<=q) (λ_=>0) w O4 W->W.cell? (adr ov 1 i)=some rv/\W.cell? (adr mv 1 i)=some (nI (nth ms i))/\(∀j u,[nI k,nI c,sv][j]? = some u->W.cell? (nA xb j)=some u):=λW k1 hb hu=>by
      refine⟨?_,?_,hb.V⟩
      ·have:=k1.row.sl.cell (i:=i) (j:=0) zo rfl;rw[ax,h3]at this;exact this
      have:=(hm.U j3 hu).cell (i:=i) (j:=0) k3 rfl;rw[ax]at this;exact this
     have e5:=a4 w7.drew d3 a5 d9;have k0:=hm.U j3 i5;have j8:((M4 K false).set i b0).length=K:=by simp
     apply aO (λW=>W.cell? (adr ov 1 i)=some rv/\W.cell? (adr mv 1 i)=some (nI (nth ms i))/\(∀j u,[nI k,nI c,sv][j]? = some u->W.cell? (nA xb j)=some u)) 14 rfl zk;apply zrm 0 rfl e5 rfl
     apply zrm 1 rfl e5 rfl;apply zr 2 rfl e5 (λ_=>aj j1.row.sl.sh Me (Mr _) rfl rfl i rfl zo)
     apply zt 3 rfl e5 (λw1 a7=>RV.ld a7.1 rfl);apply zrm 4 rfl e5 rfl
     apply zr 5 rfl e5 (λ_=>Nk rfl rfl (N6 zo));apply zt 6 rfl e5 (λw1 a7=>ai (us:=[nI k,nI c,sv]) a7.2.2 (MI _) (Mx _) rfl)
     apply zrm 7 rfl e5 rfl;apply zrm 8 rfl e5 rfl
     apply zr 9 rfl e5 (λ_=>aj k0.sh M0 (Mk _) rfl rfl i rfl zo);apply zt 10 rfl e5 (λw1 a7=>RV.ld a7.2.1 rfl)
     apply M5 11 zk rfl;apply zc call99 (AF k c (nth ms i) sv w7.drew)
     rintro _ w9 ⟨rfl,l3⟩;have f3:=ae (S:=λ_=>False) (λh=>h) O4 l3;have j0:=d3.U f3 (λh=>h) (λ_ _ h=>h);have d4:=a5.U f3 zd (λh=>h);have i4:=d9.J (f3.mono (λ_ h=>h.elim) hz);have g8:MB (λx=>[(λb:Bool=>Mq b) x]) 4 1 O4 w9 (10+i) rv ((M4 K false).set i b0):=a'.U f3 zo (λh=>h);refine zh ?_;apply af ((a4 w9 j0 d4 i4));apply zr 12 rfl ((a4 w9 j0 d4 i4)) (λ_=>aj d7.sl.sh L8 (M8 _) rfl rfl (i+1) rfl zo);apply M5 13 zk rfl;apply Mf g8 (i+1) zo (IL k c (nth ms i)) (M8 _) rfl zo rfl rfl rfl rfl;intro f' e8 c7;have f7:=j0.U c7 zo (λt ht=>zo);have c':=d4.U c7 zd zo;have d1:=i4.J (c7.mono (λ_ h=>zo) hz);refine zh ?_;apply af ((a4 f' f7 c' d1));apply Md zk;exact dA (hN f' ⟨e6 f' f7 (by rw[b6];exact e8),c',d1,(e4.U f3).U c7⟩) ⟨rfl,rfl,rfl,rfl,rfl,trivial⟩ rfl
    intro hc;have i2:¬(i+1<K/\k<4):=λh=>by
     rw[decide_eq_true (show((i:Nat):Int)+1<((K:Nat):Int) by omega),decide_eq_true h.2]at hc
     cases hc
    rw[am i2]at b6;refine zh ?_;exact dA (hN w7 ⟨e6 w7 j1 (by rw[b6];exact d7),d5,i5,j5⟩) ⟨rfl,rfl,rfl,rfl,rfl,trivial⟩ rfl
   rintro w8 ⟨l2,g3,k6,k8⟩;refine zh ?_;refine zxd (i+1,O4,w8,rs5) ⟨b1,l2,g3,k6,k8⟩
  intro k5;have k4:i=K:=dF k5;rw[k4]at f6;have f8:=i7.ext;have l6:w3.cell? (nA xb 0)=some (nI k):=c5.cell 0 rfl;have l5:w3.cell? (nA xb 2)=some sv:=c5.cell 2 rfl;have k2:=hs.len_le;obtain⟨R,hR⟩:∃R,R=dL ms k kids (ft ms k c):=⟨_,rfl⟩
  rw[<-hR];refine zh ?_;apply zlp (λz:Nat×ix×ln×Tb=>[(1,mv),(2,nP xb),(5,nI (K:Nat)),(6,z.2.2.1),(8,nI (z.1:Nat))]) (λz=>z.2.1) (λz=>z.1<=xs.length/\MZ w3 z.2.1/\MatN w.heap.size z.2.1 z.2.2.1 K z.2.2.2/\dL ms k (kids.drop z.1) z.2.2.2=R) (λz=>xs.length-z.1) (0,w3,ov,ft ms k c) ⟨L1 _,LY _,f6.matN i',hR.symm⟩;rintro⟨p,w4,e3,f⟩ ⟨hp,b2,i0,b3⟩;dsimp only at hp b2 i0 b3 ⊢;have j7:=hs.ext (f8.J b2);have d0:=b2.cell l6;have d2:=b2.cell l5;refine zh ?_;refine zC ?_ ?_
  ·intro b1;replace b1:p<xs.length:=dT b1;have l9:=bQ kids p zo;rw[Mm zo,<-aD (show p<kids.length by omega),dL,<-hK]at b3;refine zh ?_;refine zvH (ai (us:=bu (nth xs p)) (λj u hu=>j7.cell b1 hu) (MI _) (Mx _) rfl) ?_;apply zc Qe (iA ms mv j' n (nth kids p) zo (nth xs p) w4 ((hk p b1).ext (f8.J b2)) (hm.ext (f8.J b2)));rintro tv w5 ⟨c6,e2⟩;rw[<-hK]at c6;have f9:=i0.mat.ext e2;have c9:=(f8.J b2).J e2;replace c6:=c6.mat
   have m0:=e2.cell d0;refine zh ?_
   by_cases h4:k=4
   ·have d6:stepT K k f (bU ms (nth kids p))=λi j=>ib f (bU ms (nth kids p)) i K j:=by unfold stepT;rw[ap h4]
    rw[d6]at b3;refine zTH rfl ((by rw[h4];rfl)) ?_;apply zc Q0 (iz K f (bU ms (nth kids p)) e3 tv w5 f9 c6 zo);rintro g2 w6 ⟨h',a6⟩;refine zh ?_;refine zxd (p+1,w6,g2,_) ⟨b1,(b2.J e2).J a6,h'.mono c9.size,b3⟩
   refine zFH rfl ((by rw[beq_eq_false_iff_ne];exact h4)) ?_
   by_cases h6:k=6
   ·have d6:stepT K k f (bU ms (nth kids p))=λi j=>f i j||GD K (bU ms (nth kids p)) K i j:=by unfold stepT;rw[am h4,ap (.inl h6)]
    rw[d6]at b3;refine zTH rfl ((by rw[h6];rfl)) ?_;refine zTH rfl ((by rw[h6];rfl)) ?_;apply zlp (λy:Nat×ix×ln=>[(1,mv),(2,nP xb),(5,nI (K:Nat)),(6,e3),(8,nI (p:Nat)),(9,tv),(10,y.2.2),(11,nI (y.1:Nat))]) (λy=>y.2.1) (λy=>y.1<=K/\MZ w5 y.2.1/\MatV y.2.1 y.2.2 K (GD K (bU ms (nth kids p)) y.1)) (λy=>K-y.1) (0,w5,tv) ⟨L1 _,LY _,c6⟩;rintro⟨r,w6,av⟩ ⟨hr,a6,b7⟩;dsimp only at hr a6 b7 ⊢;refine zh ?_;refine zC ?_ ?_
    ·intro a9;replace a9:r<K:=dT a9;refine zh ?_;apply zc Q0 (iz K _ _ av tv w6 b7 (c6.ext a6) zo);rintro bv w7 ⟨i3,c8⟩;apply zc Pc (dZ K _ _ av bv w7 (b7.ext c8) i3.mat zo);rintro cv w8 ⟨i1,j2⟩;refine zh ?_;refine zxd (r+1,w8,cv) ⟨a9,(a6.J c8).J j2,i1.mat⟩
    intro d8;have g9:r=K:=dF d8;rw[g9]at b7;refine zh ?_;apply zc Pc (dZ K f _ e3 av w6 (f9.ext a6) b7 zo);rintro g0 w7 ⟨h9,c8⟩;refine zh ?_;refine zxd (p+1,w7,g0,_) ⟨b1,((b2.J e2).J a6).J c8,h9.mono (c9.J a6).size,b3⟩
   refine zFH rfl ((by rw[beq_eq_false_iff_ne];exact h6)) ?_
   by_cases h7:k=7
   ·have d6:stepT K k f (bU ms (nth kids p))=λi j=>f i j||GD K (bU ms (nth kids p)) K i j:=by unfold stepT;rw[am h4,ap (.inr h7)]
    rw[d6]at b3;refine zTH rfl ((by rw[h7];rfl)) ?_;apply zlp (λy:Nat×ix×ln=>[(1,mv),(2,nP xb),(5,nI (K:Nat)),(6,e3),(8,nI (p:Nat)),(9,tv),(10,y.2.2),(11,nI (y.1:Nat))]) (λy=>y.2.1) (λy=>y.1<=K/\MZ w5 y.2.1/\MatV y.2.1 y.2.2 K (GD K (bU ms (nth kids p)) y.1)) (λy=>K-y.1) (0,w5,tv) ⟨L1 _,LY _,c6⟩;rintro⟨r,w6,av⟩ ⟨hr,a6,b7⟩;dsimp only at hr a6 b7 ⊢;refine zh ?_;refine zC ?_ ?_
    ·intro a9;replace a9:r<K:=dT a9;refine zh ?_;apply zc Q0 (iz K _ _ av tv w6 b7 (c6.ext a6) zo);rintro bv w7 ⟨i3,c8⟩;apply zc Pc (dZ K _ _ av bv w7 (b7.ext c8) i3.mat zo);rintro cv w8 ⟨i1,j2⟩;refine zh ?_;refine zxd (r+1,w8,cv) ⟨a9,(a6.J c8).J j2,i1.mat⟩
    intro d8;have g9:r=K:=dF d8;rw[g9]at b7;refine zh ?_;apply zc Pc (dZ K f _ e3 av w6 (f9.ext a6) b7 zo);rintro g0 w7 ⟨h9,c8⟩;refine zh ?_;refine zxd (p+1,w7,g0,_) ⟨b1,((b2.J e2).J a6).J c8,h9.mono (c9.J a6).size,b3⟩
   have d6:stepT K k f (bU ms (nth kids p))=λi j=>f i j||bU ms (nth kids p) i j:=by unfold stepT;rw[am h4,am (λh=>h.elim h6 h7)]
   rw[d6]at b3;refine zFH rfl ((by rw[beq_eq_false_iff_ne];exact h7)) ?_;apply zc Pc (dZ K f _ e3 tv w5 f9 c6 zo);rintro g2 w6 ⟨h',a6⟩;refine zh ?_;refine zxd (p+1,w6,g2,_) ⟨b1,(b2.J e2).J a6,h'.mono c9.size,b3⟩
  intro h5;have l8:p=xs.length:=dF h5;rw[N5 zo,dL]at b3;subst b3;refine zh ?_;refine ah rfl rfl ⟨i0,f8.J b2⟩
section
variable{α:Type}
def ik(n:Nat)(f:Nat->α)(z:α)(k:Nat):List α:=(L2 k).map f++M4 (n-k) z
def vF(n:Nat)(f:Nat->α)(z:α)(h:k<=n):(ik n f z k).length=n:=by simp[ik];omega
def rk(n:Nat)(f:Nat->α)(z:α):ik n f z 0=M4 n z:=by simp[ik]
def Dq(n:Nat)(f:Nat->α)(z:α):ik n f z n=(L2 n).map f:=by simp[ik]
def pg(n:Nat)(f:Nat->α)(z:α)(h:k<n):(ik n f z k).set k (f k)=ik n f z (k+1):=by
 unfold ik;rw[NS _ _ (by simp),MR,MC];obtain⟨d,hd⟩:∃d,n-k=d+1:=⟨n-k-1,zo⟩
 rw[hd,show n-(k+1)=d from by omega];simp[Ng]
def A7(n:Nat)(f:Nat->α)(z:α)(h:k<n)(hz:f k=z):ik n f z k=ik n f z (k+1):=by
 unfold ik;rw[MR,MC,Mo];obtain⟨d,hd⟩:∃d,n-k=d+1:=⟨n-k-1,zo⟩
 rw[hd,show n-(k+1)=d from by omega,Ng];simp[hz]
def zq[Inhabited α](f:Nat->α)(h:j<n):nth ((L2 n).map f) j=f j:=by
 rw[aD (by simpa using h),Mp,Ml]
def xa(n:Nat)(p q:Nat->α)(j:Nat):List α:=(L2 n).map λt=>if t<j then p t else q t
def FU(n:Nat)(p q:Nat->α)(j:Nat):(xa n p q j).length=n:=by simp[xa]
def CI(n:Nat)(p q:Nat->α):xa n p q 0=(L2 n).map q:=by simp[xa]
def FV(n:Nat)(p q:Nat->α):xa n p q n=(L2 n).map p:=by
 unfold xa;exact MV λt ht=>ap (N8.1 ht)
def FT(n:Nat)(p q:Nat->α):(xa n p q j).set j (p j)=xa n p q (j+1):=by
 unfold xa;refine MA (by simp) λt h1 h2=>?_
 simp only[N2,Mp,Ml]
 by_cases e:j=t
 ·subst e;rw[ap rfl,ap zo]
 rw[am e]
 by_cases e2:t<j
 ·rw[ap e2,ap zo]
 rw[am e2,am zo]
def uT(n:Nat)(p q:Nat->α)(h:p j=q j):xa n p q j=xa n p q (j+1):=by
 unfold xa;refine MV λt _=>?_
 by_cases e:t=j
 ·subst e;rw[am zo,ap zo,h]
 by_cases e2:t<j
 ·rw[ap e2,ap zo]
 rw[am e2,am zo]
end
def jI(li lk ids:List Int):Nat->List Int
 |0=>[36]
 |k+1=>if il li lk ids k=true then jI li lk ids k else jI li lk ids k++[((aY (nth ids k):Nat):Int)]
def rO(li lk ids:List Int):∀k,(jI li lk ids k).length<=k+1/\1<=(jI li lk ids k).length
 |0=>⟨L6 _,L6 _⟩
 |k+1=>by
  obtain⟨h1,h2⟩:=rO li lk ids k;unfold jI
  split
  ·exact⟨zo,h2⟩
  rw[LX,Mb];exact⟨zo,zo⟩
def tS(li lk ids:List Int): ∀ {k n:Nat}, k ≤ n → ∃r, jI li lk ids n = jI li lk ids k ++ r
  | k, 0, h => by obtain rfl : k = 0 := by omega
                  exact⟨[], by simp⟩
  |k, n + 1, h => by
    by_cases e:k = n + 1
    · subst e; exact⟨[], by simp⟩
    · obtain⟨r, hr⟩ := tS li lk ids (show k ≤ n by omega)
      rw[jI]
      split
      · exact⟨r, hr⟩
      · rw[hr, Mo]; exact⟨_, rfl⟩
def atN(li lk ids:List Int)(i:Nat):Nat:=if il li lk ids i=true then 0 else(jI li lk ids i).length
def Kh(li lk ids:List Int)(h:i<=n):atN li lk ids i<=(jI li lk ids n).length:=by
 unfold atN
 split
 ·exact L1 _
 obtain⟨r,hr⟩:=tS li lk ids h;rw[hr,LX];omega
def lS(f:Tb)(a:Nat):Nat->Bool
 |0=>false
 |k+1=>lS f a k||f k a
def pI(f:Tb)(a:Nat):∀k,lS f a k=true↔∃m,m<k/\f m a=true
 |0=>by simp[lS]
 |k+1=>by
  unfold lS;rw[Mv,pI f a k]
  constructor
  ·rintro(⟨m,h1,h2⟩|h)
   ·exact⟨m,zo,h2⟩
   exact⟨k,zo,h⟩
  rintro⟨m,h1,h2⟩
  by_cases e:m=k
  ·subst e;exact .inr h2
  exact .inl ⟨m,zo,h2⟩
def gT(f:Tb)(a:Nat):Nat->Bool
 |0=>false
 |k+1=>gT f a k||f a (a+k)
def ng(f:Tb)(a:Nat):∀k,gT f a k=true↔∃m,m<k/\f a (a+m)=true
 |0=>by simp[gT]
 |k+1=>by
  unfold gT;rw[Mv,ng f a k]
  constructor
  ·rintro(⟨m,h1,h2⟩|h)
   ·exact⟨m,zo,h2⟩
   exact⟨k,zo,h⟩
  rintro⟨m,h1,h2⟩
  by_cases e:m=k
  ·subst e;exact .inr h2
  exact .inl ⟨m,zo,h2⟩
def DH(ms:List Int)(x:R3)(a:Nat):Bool:=lS (bU ms x.1) a (a+1)&&gT (bU ms x.2.1) a (ms.length+1-a)
def pf(ms:List Int)(a:Nat):List R3->Nat->Int
 |[],_=>-1
 |x::l,r=>if DH ms x a=true then(r:Int)else pf ms a l (r+1)
def gQ(ms:List Int)(a:Nat):∀(l:List R3) (r:Nat),(pf ms a l r = -1/\∀i,i<l.length->DH ms (nth l i) a=false)\/∃i,i<l.length/\pf ms a l r=((r+i:Nat):Int)/\DH ms (nth l i) a=true/\∀j,j<i->DH ms (nth l j) a=false
 |[],r=>.inl ⟨rfl,λi hi=>absurd hi (L5 i)⟩
 |x::l,r=>by
  unfold pf
  by_cases hx:DH ms x a=true
  ·rw[ap hx];exact .inr ⟨0,Nat.succ_pos _,rfl,by rw[ar];exact hx,λj hj=>absurd hj (L5 j)⟩
  rw[am hx];have a0:DH ms x a=false:=by simpa using hx
  rcases gQ ms a l (r+1)with⟨h1,h2⟩|⟨i,h1,h2,h3,h4⟩
  ·refine .inl ⟨h1,λi hi=>?_⟩
   cases i with
   |zero=>rw[ar];exact a0
   |succ i=>rw[aX];exact h2 i (by simpa using hi)
  refine .inr ⟨i+1,by simpa using h1,by rw[h2];congr 1;omega,by rw[aX];exact h3,λj hj=>?_⟩
  cases j with
  |zero=>rw[ar];exact a0
  |succ j=>rw[aX];exact h4 j zo
def bO(li lk ids:List Int)(ts:List R3)(r i:Nat):Int:=if il li lk ids i=true then -2 else pf (jI li lk ids ids.length) (atN li lk ids i) (ts.drop r) r
def tN(li lk ids:List Int)(ts:List R3):List Int:=(L2 ids.length).map (bO li lk ids ts 0)
def ei(li lk ids:List Int)(ts:List R3)(i:Nat):Bool:=bO li lk ids ts 0 i == -1||(decide (0<=bO li lk ids ts 0 i)&&(nth ts (bO li lk ids ts 0 i).toNat).2.2)
def iT(li lk ids:List Int)(ts:List R3):List Bool:=true::(L2 (ids.length-1)).map (λi=>ei li lk ids ts (i+1))++if 0<ids.length then [true]else []
def yy{t:Nd}(h:bz t=true)(ha:a<=ms.length):lS (bU ms t) a (a+1)=true↔∃u v,ms.take a=u++v/\Lg t v:=by
 rw[pI];have hS:=oP ms h
 constructor
 ·rintro⟨m,h1,h2⟩;obtain⟨_,h3⟩:=(hS m a zo ha).1 h2;refine⟨ms.take m,seg ms m a,?_,h3⟩;have:=xw ms (L1 m) (show m<=a by omega);simpa[seg]using this
 rintro⟨u,v,e,h3⟩;have hl:=congrArg ME e;rw[Pi,LX]at hl;have e0:seg ms 0 a=u++v:=by simpa[seg]using e
 obtain⟨s1,s2,s3⟩:=uo (L1 a) ha e0;rw[NQ]at s1 s3;exact⟨u.length,zo,(hS _ a zo ha).2 ⟨s1,s3▸h3⟩⟩
def vN{t:Nd}(h:bz t=true)(ha:a<=ms.length):gT (bU ms t) a (ms.length+1-a)=true↔∃u v,ms.drop a=u++v/\Lg t u:=by
 rw[ng];have hS:=oP ms h
 constructor
 ·rintro⟨m,h1,h2⟩;obtain⟨_,h3⟩:=(hS a (a+m) ha zo).1 h2;refine⟨seg ms a (a+m),ms.drop (a+m),?_,h3⟩;unfold seg;rw[show a+m-a=m from by omega,<-NA,NR]
 rintro⟨u,v,e,h3⟩;have hl:=congrArg ME e;rw[Pj,LX]at hl;refine⟨u.length,zo,(hS a _ ha zo).2 ⟨zo,?_⟩⟩;unfold seg;rw[show a+u.length-a=u.length from by omega,e,Pn]
 ·exact h3
 rfl
def vE{ts:List R3}(hr:∀t∈ts,bz t.1=true/\bz t.2.1=true)(ha:a<=ms.length){a0 after:List Nat}(hb:ints a0=ms.take a)(hf:ints after=ms.drop a):FirstR ts a0 after (pf ms a ts 0):=by
 have a1:∀i,kI ts a0 after i↔i<ts.length/\DH ms (nth ts i) a=true:=λi=>by
  unfold kI;refine and_congr_right λhi=>?_
  obtain⟨r1,r2⟩:=hr _ (aZ hi);unfold DH;rw[L7,yy r1 ha,vN r2 ha,hb,hf,ed hi,ed hi]
 rcases gQ ms a ts 0 with⟨h1,h2⟩|⟨i,h1,h2,h3,h4⟩
 ·refine .inl ⟨h1,λi hi=>?_⟩;obtain⟨k1,k2⟩:=(a1 i).1 hi;rw[h2 i k1]at k2;cases k2
 refine .inr ⟨i,by rw[h2,NQ],(a1 i).2 ⟨h1,h3⟩,λj hj hA=>?_⟩;have:=((a1 j).1 hA).2;rw[h4 j hj]at this;cases this
def yX{l:List Int}(h:∀c∈l,0<=c/\c<=35)(c:Nat):(dB l).testBit c=decide ((c:Int)∈l):=by
 have a0:∀(l:List Int),(∀c∈l,0<=c/\c<=35)->∀b:Nat,(l.foldl (λb c=>b ||| 2^c.toNat) b).testBit c=(b.testBit c||decide ((c:Int)∈l)):=by
  intro l
  induction l with
  |nil=>intro _ b;simp
  |cons x r ih=>
   intro hl b;have hx:=hl x (by simp);rw[List.foldl_cons,ih (λy hy=>hl y (by simp[hy])),Nat.testBit_or,Nat.testBit_two_pow,Bool.or_assoc];congr 1;rw[MT,Mv,decide_eq_true_eq,decide_eq_true_eq,decide_eq_true_eq,M7];apply or_congr_left;omega
 have:=a0 l h 0;simpa[dB]using this
def sT(t:Qg)(li lk ids:List Int)(a1:∀c:Nat,t.ig.testBit c=decide ((c:Int)∈li))(a0:∀c:Nat,t.kp.testBit c=decide ((c:Int)∈lk)):∀(r:List Int) (k:Nat),r=ids.drop (k+1)->∀j,j<r.length->nth (qV t (aY (nth ids k),il li lk ids k) r) j=(aY (nth ids (k+1+j)),il li lk ids (k+1+j))
 |[],_,_,j,hj=>absurd hj (L5 j)
 |c::r,k,e,j,hj=>by
  have hk:k+1<ids.length:=by
   refine Q6 λhn=>?_
   rw[N5 zo]at e;cases e
  rw[Mm hk,<-aD hk]at e;obtain⟨rfl,e2⟩:=Q5 e;have hh:(t.ig.testBit (aY (nth ids (k+1)))&&(il li lk ids k || !(t.kp.testBit (aY (nth ids k)))))=il li lk ids (k+1):=by rw[a1,a0,il]
  unfold qV;dsimp only;rw[hh]
  cases j with
  |zero=>rw[ar,Nat.add_zero]
  |succ j=>
   rw[aX,sT t li lk ids a1 a0 r (k+1) e2 j (by simpa using hj),show k+1+(j+1)=k+1+1+j from by omega]
def xh(t:Qg)(li lk:List Int)(c:Int)(r:List Int)(a1:∀c:Nat,t.ig.testBit c=decide ((c:Int)∈li))(a0:∀c:Nat,t.kp.testBit c=decide ((c:Int)∈lk)):∀n,n<=r.length->jI li lk (c::r) (n+1)=ints ([36,aY c]++fX ((qV t (aY c,false) r).take n))
 |0,_=>by
  unfold jI jI;rw[List.take_zero,am (by rw[il];simp),ar];rfl
 |n+1,hn=>by
  have hL:=nW t r (aY c,false);have hx:=sT t li lk (c::r) a1 a0 r 0 rfl n hn;rw[ar,show il li lk (c::r) 0=false from rfl,show 0+1+n=n+1 from by omega]at hx;rw[jI,xh t li lk c r a1 a0 n zo,bd zo,hx,rP,<-Mo];generalize [36,aY c]++fX ((qV t (aY c,false) r).take n)=X
  cases il li lk (c::r) (n+1)with
  |true=>
   show ints X=ints (X++[]);rw[MS]
  |false=>
   show ints X++[((aY (nth (c::r) (n+1)):Nat):Int)]=ints (X++[aY (nth (c::r) (n+1))]);unfold ints;rw[MC];rfl
section
variable{li lk:List Int}{ts:List R3}{a b:List (List Nat)×List Nat}{clA clB:Nat→Nat}
def Made.ig(h:PK li lk ts a b clA clB)(c:Nat):(cC li lk ts a b clA clB).ig.testBit c=decide ((c:Int)∈li):=yX (eI h.rt).2.1 c
def Made.kp(h:PK li lk ts a b clA clB)(c:Nat):(cC li lk ts a b clA clB).kp.testBit c=decide ((c:Int)∈lk):=yX (eI h.rt).2.2.1 c
def Made.row(h:PK li lk ts a b clA clB)(c:Int):stL (cC li lk ts a b clA clB) (stL (cC li lk ts a b clA clB) 0 36) (aY c)=jZ (bm clA a.1 a.2).1 [36,aY c] 0:=by
 rw[h.inv.left 0 36 ((h.left [] (λm hm=>by cases hm)).1) zd];have hc:=iQ c;exact h.inv.left _ _ ((h.left [36] (λm hm=>by rw[Mi.1 hm];decide)).1) zo
def tQ(hr:∀t∈ts,bz t.1=true/\bz t.2.1=true)(t:Qg)(c:Int)(r:List Int)(a1:∀c:Nat,t.ig.testBit c=decide ((c:Int)∈li))(a0:∀c:Nat,t.kp.testBit c=decide ((c:Int)∈lk))(hn:n<r.length)(hh:il li lk (c::r) (n+1)=false):
  FirstR ts ([36,aY c]++fX ((qV t (aY c,false) r).take n)) (fX ((qV t (aY c,false) r).drop n)) (bO li lk (c::r) ts 0 (n+1)):=by
 have hL:=nW t r (aY c,false);have hw:=xh t li lk c r a1 a0 n zo;have hN:=xh t li lk c r a1 a0 r.length (L6 _);rw[NM zo]at hN;have a2:fX (qV t (aY c,false) r)=fX ((qV t (aY c,false) r).take n)++fX ((qV t (aY c,false) r).drop n):=by rw[<-rP,NR]
 have hA:atN li lk (c::r) (n+1)=(jI li lk (c::r) (n+1)).length:=by unfold atN;rw[hh];rfl
 have e0:jI li lk (c::r) (c::r).length=jI li lk (c::r) (n+1)++ints (fX ((qV t (aY c,false) r).drop n)):=by
  rw[hw,Mz,hN,a2,<-Mo];unfold ints;rw[MC]
 unfold bO;rw[hh,am zd,Nz,hA,e0];refine vE hr (by rw[LX];omega) ?_ ?_
 ·rw[Pn rfl,hw]
 rw[List.drop_left' rfl]
def Bi(li lk ids:List Int)(ts:List R3)(i:Nat):ei li lk ids ts i=if il li lk ids i=true then false else brk ts (bO li lk ids ts 0 i):=by
 unfold ei brk
 split
 ·rename_i hh;have:bO li lk ids ts 0 i = -2:=by unfold bO;rw[ap hh]
  rw[this];rfl
 rename_i hh;have hk : -1<=bO li lk ids ts 0 i:=by
  unfold bO;rw[am hh]
  rcases gQ (jI li lk ids ids.length) (atN li lk ids i) (ts.drop 0) 0 with⟨h1,_⟩|⟨_,_,h1,_⟩<;>rw[h1]<;>omega
 generalize bO li lk ids ts 0 i=k at *
 by_cases e:k = -1
 ·subst e;rfl
 rw[decide_eq_false (show¬k<0 by omega),decide_eq_true (show 0<=k by omega),MP,Ps,show(k == -1)=false from by simpa using e,MP]
def Made.rules2(h:PK li lk ts a b clA clB):∀t∈ts,bz t.1=true/\bz t.2.1=true:=λt ht=>⟨(h.rules t ht).1,(h.rules t ht).2.1⟩
def Made.breaks(h:PK li lk ts a b clA clB)(ids:List Int)(hn:ids.length<=100000):tk (cC li lk ts a b clA clB) ids=iT li lk ids ts:=by
 cases ids with
 |nil=>rfl
 |cons c r=>
  obtain⟨p1,p2⟩:=uH (cC li lk ts a b clA clB) c r;unfold tk iT;rw[p1,p2,h.row,Mz,Nat.add_sub_cancel];congr 2;have hL:=nW (cC li lk ts a b clA clB) r (aY c,false);have a0:∀m∈[36,aY c],m<37:=λm hm=>by
   have:=iQ c;simp only[M7,N1,or_false]at hm;omega
  refine MA (by rw[mL,hL];simp) λi h1 h2=>?_
  have hi:i<r.length:=by simpa using h2
  rw[<-aD h1,Mp,Ml];obtain⟨k,k1,k2⟩:=h.closeL (qV (cC li lk ts a b clA clB) (aY c,false) r) [36,aY c] a0 (C9 _ _ _) (by rw[hL];simp at hn;omega) i zo;have hx:=sT (cC li lk ts a b clA clB) li lk (c::r) h.ig h.kp r 0 rfl i hi;rw[ar,show il li lk (c::r) 0=false from rfl,show 0+1+i=i+1 from by omega]at hx;rw[k2,hx,Bi]
  cases hh:il li lk (c::r) (i+1)with
  |true=>rfl
  |false=>
   have:=tQ h.rules2 _ c r h.ig h.kp hi hh;rw[this.uniq k1];rfl
end
def oz{ru:ln}{xs:List X3}(h:Sl cL 7 w ru xs)(hk:k<xs.length):(∀j u,(bu (nth xs k).1)[j]? = some u->w.cell? (((adr ru 7 k).add 0).add j)=some u)/\(∀j u,(bu (nth xs k).2.1)[j]? = some u->w.cell? (((adr ru 7 k).add 3).add j)=some u)/\w.cell? ((adr ru 7 k).add 6)=some (.bool (nth xs k).2.2):=by
 refine⟨λj u hu=>?_,λj u hu=>?_,h.cell hk (j:=6) rfl⟩
 ·match j,hu with
  |0,hu=>exact h.cell hk (j:=0) hu
  |1,hu=>exact h.cell hk (j:=1) hu
  |2,hu=>exact h.cell hk (j:=2) hu
  |j+3,hu=>simp at hu
 match j,hu with
 |0,hu=>exact h.cell hk (j:=3) hu
 |1,hu=>exact h.cell hk (j:=4) hu
 |2,hu=>exact h.cell hk (j:=5) hu
 |j+3,hu=>simp at hu
def qt{ts:List R3}(r:Nat)(h:il li lk ids i=true):bO li lk ids ts r i = -2:=by unfold bO;rw[ap h]
def xg{ts:List R3}(hk:k<ts.length)(h:il li lk ids i=false):bO li lk ids ts k i=if DH (jI li lk ids ids.length) (nth ts k) (atN li lk ids i)=true then(k:Int)else bO li lk ids ts (k+1) i:=by
 unfold bO;rw[h,am P8,am P8,Mm hk,<-aD hk,pf]
def Am(li lk ids:List Int)(ts:List R3)(i:Nat):bO li lk ids ts ts.length i=if il li lk ids i=true then -2 else -1:=by
 unfold bO;rw[List.drop_length];rfl
def AN(li lk ids:List Int)(i:Nat):Int:=if il li lk ids i=true then -2 else -1
def atI(li lk ids:List Int)(i:Nat):Int:=(atN li lk ids i:Nat)
def vx(li lk ids:List Int)(h:i<ids.length):nth (ij li lk ids ids.length) i=il li lk ids i:=sS _ _ _ h (L6 _)
def uC(li lk:List Int)(ts:List R3)(ids:List Int)(v dv:ln)(w:ix)(h:Tx w v li lk ts)(hd:PL w dv ids)(hn:ids.length<=50):
  MX Mc 34 [v,dv] w λu w'=>PL w' u (tN li lk ids ts)/\MZ w w'/\Qh w.heap.size u:=by
 obtain⟨ig,kp,ru,xs,rfl,h1,h2,h3,h4,h5⟩:=h;have n8:=h3.len_le;have hz:¬(0=1\/0=2\/0=3\/0=4):=zo;have o0:=oZ li lk ids (L6 ids.length);apply L0 func34 ntmps34 rfl rfl;refine zh ?_;apply aQ (aA w) 1 zo rfl rfl;intro xb w1 O1 e6 m' k1 j5;refine zh ?_;refine zvH (ai (us:=[ig,kp,ru]) e6.V (isAgg45 _) (sizeOf45 _) rfl) ?_;apply zc call65 (sn li lk ids ig kp ru dv w1 (h1.ext j5) (h2.ext j5) h3.one (hd.ext j5) zo);rintro hv w2 ⟨j',n5,l0⟩;have d0:=l0.free j' (λx _=>by simp) k1;have j0:=ae (S:=λ_=>False) (λh=>h) O1 n5;have j2:Mg (λq=>q=1\/q=2\/q=3\/q=4) (λ_=>0) w O1 w2:=(m'.mono (λ_ h=>zo) hz).J (j0.mono (λ_ h=>h.elim) hz);refine zh ?_;apply pL qm (enc:=encI) 36 (k1.U j0) 2 zd rfl rfl rfl zd rfl;intro k4 w3 O3 h9 e3 n3;have f9:=j2.J (e3.mono (λ_ h=>zo) hz);have o5:=hd.ext f9.ext;refine zh ?_;apply cg qm (val:=λc:Int=>nI c) 0 zk (λ_=>rfl) n3 3 zd ids.length rfl rfl rfl rfl zo zo rfl;intro w4 O4 av o7 i' e0 n2 o9;have f8:=f9.J (e0.mono (λ_ h=>zo) hz);have o4:=hd.ext f8.ext;refine zh ?_;apply cg qm (val:=λc:Int=>nI c) 0 zk (λ_=>rfl) n2 4 zd ids.length rfl rfl rfl rfl zo zo rfl;intro w5 O5 ov n' f4 d' n1 o8;have f7:=i'.U d' zd zd
 have g':=(((e6.U j0 zd (λh=>h)).U e3 zd zd).U e0 zd zd).U d' zd zd;have i1:=((j'.U d0 e3).U (d0.U e3) e0).U ((d0.U e3).U e0) d';have i3:=((d0.U e3).U e0).U d';rw[<-rk ids.length (atI li lk ids) 0]at f7;rw[<-rk ids.length (AN li lk ids) 0]at f4;refine zh ?_;apply zlp (λz:Nat×(Nat->Nat)×World×ln=>[(1,dv),(2,nP xb),(5,hv),(6,z.2.2.2),(7,av),(8,ov),(9,nI (z.1:Nat))]) (λz=>z.2.2.1) (λz=>z.1<=ids.length/\MB encI 3 1 z.2.1 z.2.2.1 2 z.2.2.2 (jI li lk ids z.1)/\MB encI 3 1 z.2.1 z.2.2.1 3 av (ik ids.length (atI li lk ids) 0 z.1)/\MB encI 3 1 z.2.1 z.2.2.1 4 ov (ik ids.length (AN li lk ids) 0 z.1)/\My z.2.1 z.2.2.1 1 xb #[ig,kp,ru] 45/\Ni z.2.1 z.2.2.1 hv/\Sl dD 1 z.2.2.1 hv (ij li lk ids ids.length)/\Mg (λq=>q=1\/q=2\/q=3\/q=4) (λ_=>0) w z.2.1 z.2.2.1/\Nf w.heap.size z.2.1 z.2.2.1) (λz=>ids.length-z.1) (0,O5,w5,k4) ⟨L1 _,(h9.U e0 zd zd).U d' zd zd,f7,f4,g',i3,i1,f8.J (d'.mono (λ_ h=>zo) hz),n1⟩;rintro⟨k,O6,w6,wv⟩ ⟨hk,a3,a9,a5,b4,a0,b6,d5,f'⟩;dsimp only at hk a3 a9 a5 b4 a0 b6 d5 f' ⊢;have o2:=hd.ext d5.ext;refine zh ?_;refine zC ?_ ?_
 ·intro a8;replace a8:k<ids.length:=dT a8;have o6:=vF ids.length (atI li lk ids) 0 hk;have l9:=vF ids.length (AN li lk ids) 0 hk;have f3:MB (λx=>[(λc:Int=>nI c) x]) 3 1 O6 w6 4 ov (ik ids.length (AN li lk ids) 0 k):=a5;have f6:MB (λx=>[(λc:Int=>nI c) x]) 3 1 O6 w6 3 av (ik ids.length (atI li lk ids) 0 k):=a9;have n9:=rO li lk ids k;refine zh ?_;apply zv (aj a5.sl.sh M0 (Mk _) rfl rfl k rfl zo);apply Mf f3 k zo (-1) (Mk _) rfl zd rfl rfl rfl rfl;intro w7 a2 a1;have e9:=b6.U a0 a1;have e1:w7.cell? (adr hv 1 k)=some (.bool (il li lk ids k)):=by have:=e9.cell (i:=k) (j:=0) zo rfl;rw[ax,vx _ _ _ a8]at this;exact this
  have l8:((ik ids.length (AN li lk ids) 0 k).set k (-1)).length=ids.length:=by rw[Mu];exact l9
  refine zh ?_;refine zvH (aj e9.sh L8 (M8 _) rfl rfl k rfl zo) ?_
  refine zC ?_ ?_
  ·intro hh;refine zh ?_;apply zv (aj a2.sl.sh M0 (Mk _) rfl rfl k rfl zo);apply Mf a2 k zo (-2) (Mk _) rfl zd rfl rfl rfl rfl;intro w8 d2 b3;have a6:=a1.J b3;have s1:=pg ids.length (AN li lk ids) 0 a8;have s2:=A7 ids.length (atI li lk ids) 0 a8 (by unfold atI atN;rw[ap hh];rfl);rw[List.set_set,show(-2:Int)=AN li lk ids k from by unfold AN;rw[ap hh],s1]at d2;have h':jI li lk ids (k+1)=jI li lk ids k:=by rw[jI,ap hh]
   have d3:=a9.U a6 zd zd;rw[s2]at d3;refine zh ?_;refine zxd (k+1,O6,w8,wv) ⟨a8,by dsimp only;rw[h'];exact a3.U a6 zd zd,d3,d2,b4.U a6 zd zd,a0.U a6,b6.U a0 a6,d5.J (a6.mono (λ_ h=>zo) hz),f'.U a6⟩
  intro hh;have b5:=a3.U a1 zd zd;have f5:MB (λx=>[(λc:Int=>nI c) x]) 3 1 O6 w7 3 av (ik ids.length (atI li lk ids) 0 k):=f6.U a1 zd zd;have s1:=pg ids.length (AN li lk ids) 0 a8;have s2:=pg ids.length (atI li lk ids) 0 a8;have ea:atN li lk ids k=(jI li lk ids k).length:=by unfold atN;rw[am (by rw[hh];decide)]
  have h':jI li lk ids (k+1)=jI li lk ids k++[((aY (nth ids k):Nat):Int)]:=by rw[jI,am (by rw[hh];decide)]
  refine zh ?_;apply zv (NX (by first|exact b5.sl) M0 rfl)
  apply zv (aj f5.sl.sh M0 (Mk _) rfl rfl k rfl zo);apply Mf f5 k zo (((jI li lk ids k).length:Nat):Int) (Mk _) rfl zd rfl rfl rfl rfl
  intro w8 d3 b3;have h7:=b5.U b3 zd zd;have d2:=a2.U b3 zd zd;have m5:=hd.ext (((d5.J (a1.mono (λ_ h=>zo) hz)).J (b3.mono (λ_ h=>zo) hz)).ext);have e2:w8.cell? (adr dv 1 k)=some (nI (nth ids k)):=by have:=m5.cell (i:=k) (j:=0) a8 rfl;rw[ax]at this;exact this
  refine zh ?_;apply zc call66 (iB (nth ids k) w8)
  rintro _ w9 ⟨rfl,rfl⟩;have g5:=(f'.U a1).U b3;apply Nl qm h7 g5 (((aY (nth ids k):Nat):Int)) (λ_=>rfl) rfl rfl rfl (by simp[L9]) zo zo zo zd rfl rfl;intro k3 w9 O9 c' a' n0;rw[<-h']at c';have b9:=d3.U a' zd zd;have b8:=d2.U a' zd zd;rw[show(((jI li lk ids k).length:Nat):Int)=atI li lk ids k from by unfold atI;rw[ea],s2]at b9;rw[show(-1:Int)=AN li lk ids k from by unfold AN;rw[am (by rw[hh];decide)],s1]at b8;refine zh ?_;refine zxd (k+1,O9,w9,k3) ⟨a8,c',b9,b8,((b4.U a1 zd zd).U b3 zd zd).U a' zd zd,((a0.U a1).U b3).U a',((b6.U a0 a1).U (a0.U a1) b3).U ((a0.U a1).U b3) a',((d5.J (a1.mono (λ_ h=>zo) hz)).J (b3.mono (λ_ h=>zo) hz)).J (a'.mono (λ_ h=>zo) hz),n0⟩
 intro m4;have m1:k=ids.length:=dF m4;rw[m1]at a3 a9 a5;rw[Dq]at a9 a5;rw[show AN li lk ids=bO li lk ids ts xs.length from funext λi=>by rw[<-h4,Am,AN]]at a5;obtain⟨ms,i7⟩:∃ms,ms=jI li lk ids ids.length:=⟨_,rfl⟩
 have m0:=rO li lk ids ids.length;rw[<-i7]at a3 m0;have c2:w6.cell? (nA xb 2)=some ru:=b4.cell 2 rfl;have g3:=h3.ext d5.ext;refine zh ?_;apply zlp (λz:Nat×Int×ix=>[(1,dv),(2,nP xb),(5,hv),(6,wv),(7,av),(8,ov),(10,nI z.2.1)]) (λz=>z.2.2) (λz=>z.1<=xs.length/\z.2.1=(z.1:Int)-1/\MB encI 3 1 O6 z.2.2 4 ov ((L2 ids.length).map (bO li lk ids ts z.1))/\Mg (λq=>q=4) O6 w6 O6 z.2.2) (λz=>z.1) (xs.length,(xs.length:Int)-1,w6) ⟨L6 _,rfl,a5,MM zd _ _⟩;rintro⟨r,ri,w7⟩ ⟨hr,l5,a2,a1⟩;dsimp only at hr l5 a2 a1 ⊢;have g6:=(d5.J (a1.mono (λ_ h=>zo) hz)).ext;refine zh ?_;refine zC ?_ ?_
 ·intro a8;replace a8:0<=ri:=of_decide_eq_true a8;obtain⟨k,rfl⟩:∃k,r=k+1:=⟨r-1,zo⟩
  have l4:ri=(k:Int):=zo;subst l4;have g0:k<xs.length:=zo;have g7:=h3.ext g6;have c7:w7.cell? (nA xb 2)=some ru:=(b4.U a1 zd zd).cell 2 rfl;have b5:=a3.U a1 zd zd;obtain⟨l1,l2,_⟩:=oz g7 g0;refine zh ?_;refine zvH (ai (us:=bu (nth xs k).1) l1 (MI _) (Mx _) rfl) ?_;apply zc Qe (iA ms wv zo (nsz (nth ts k).1) (nth ts k).1 (L6 _) (nth xs k).1 w7 ((h5 k g0).1.ext g6) b5.sl);rintro lv w8 ⟨i9,e4⟩;have j3:=f'.U a1;have k0:=ae (S:=λq=>q=4) zd O6 e4;have b3:=a1.J k0;have g8:=g7.ext e4;have c8:=e4.cell c7;obtain⟨_,m2,_⟩:=oz g8 g0;refine zh ?_;refine zvH (ai (us:=bu (nth xs k).2.1) m2 (MI _) (Mx _) rfl) ?_;apply zc Qe (iA ms wv zo (nsz (nth ts k).2.1) (nth ts k).2.1 (L6 _) (nth xs k).2.1 w8 ((h5 k g0).2.1.ext (g6.J e4)) (b5.sl.ext e4));rintro rv w9 ⟨i4,j4⟩;have i8:=i9.ext j4;have g5:=j3.U k0;have m8:=ae (S:=λq=>q=4) zd O6 j4;have a':=b3.J m8;obtain⟨e5,j9,n7,j8,k',k9⟩:=i8;obtain⟨g9,j7,n6,j6,k7,k6⟩:=i4;have k8:Ni O6 w9 lv:=k'.free j9 (λx _=>by simp) j3;have lf:∀i,i<ms.length+1->Ni O6 w9 (nth e5 i):=λi hi=>(k9 i hi).free (j8 i hi) (λx _=>by simp) j3
  have k5:Ni O6 w9 rv:=k7.free j7 (λx _=>by simp) g5;have rf:∀i,i<ms.length+1->Ni O6 w9 (nth g9 i):=λi hi=>(k6 i hi).free (j6 i hi) (λx _=>by simp) g5
  have c':=a3.U a' zd zd;have b9:=a9.U a' zd zd;have i0:=b6.U a0 a';have i2:=a0.U a';have b8:MB encI 3 1 O6 w9 4 ov ((L2 ids.length).map (bO li lk ids ts (k+1))):=(a2.U (ae (S:=λ_=>False) (λh=>h) O6 e4) zd (λh=>h)).U (ae (S:=λ_=>False) (λh=>h) O6 j4) zd (λh=>h);rw[<-CI ids.length (bO li lk ids ts k) (bO li lk ids ts (k+1))]at b8;refine zh ?_;apply zlp (λy:Nat×ix=>[(1,dv),(2,nP xb),(5,hv),(6,wv),(7,av),(8,ov),(10,nI (k:Int)),(11,lv),(12,rv),(13,nI (y.1:Nat))]) (λy=>y.2) (λy=>y.1<=ids.length/\MB encI 3 1 O6 y.2 4 ov (xa ids.length (bO li lk ids ts k) (bO li lk ids ts (k+1)) y.1)/\Mg (λq=>q=4) O6 w9 O6 y.2) (λy=>ids.length-y.1) (0,w9) ⟨L1 _,b8,MM zd _ _⟩;rintro⟨i,wa⟩ ⟨hi,a7,d9⟩;dsimp only at hi a7 d9 ⊢;have o1:=hd.ext ((d5.J ((a'.J d9).mono (λ_ h=>zo) hz)).ext);refine zh ?_;refine zC ?_ ?_
  ·intro d4;replace d4:i<ids.length:=dT d4;have e8:=i0.U i2 d9;have e1:wa.cell? (adr hv 1 i)=some (.bool (il li lk ids i)):=by have:=e8.cell (i:=i) (j:=0) zo rfl;rw[ax,vx _ _ _ d4]at this;exact this
   refine zh ?_;refine zvH (aj e8.sh L8 (M8 _) rfl rfl i rfl zo) ?_
   refine zC ?_ ?_
   ·intro hh;have l3:=uT ids.length (bO li lk ids ts k) (bO li lk ids ts (k+1)) (j:=i) (by rw[qt _ hh,qt _ hh]);rw[l3]at a7;refine zh ?_;refine zxd (i+1,wa) ⟨d4,a7,d9⟩
   intro hh;obtain⟨a,ha⟩:∃a,a=atN li lk ids i:=⟨_,rfl⟩
   have m7:a<=ms.length:=by rw[ha,i7];exact Kh _ _ _ zo
   have d8:=xg (li:=li) (lk:=lk) (ids:=ids) (ts:=ts) (i:=i) (k:=k) zo hh;rw[<-i7,<-ha]at d8;have k2:∀W,Mg (λq=>q=4) O6 w9 O6 W->W.cell? (adr av 1 i)=some (nI (a:Int)):=λW hu=>by
    have:=(b9.U hu zd zd).sl.cell (i:=i) (j:=0) (by simpa using d4) rfl;rw[ax,zq _ d4,atI,<-ha]at this;exact this
   have c9:∀W,Mg (λq=>q=4) O6 w9 O6 W->Shape av ids.length:=λW hu=>by
    have:=(b9.U hu zd zd).sl.sh;simpa using this
   refine zh ?_;apply zlp (λx:Nat×Bool×ix=>[(1,dv),(2,nP xb),(5,hv),(6,wv),(7,av),(8,ov),(10,nI (k:Int)),(11,lv),(12,rv),(13,nI (i:Nat)),(14,.bool x.2.1),(15,.bool false),(16,nI (x.1:Nat))]) (λx=>x.2.2) (λx=>x.1<=a+1/\x.2.1=lS (bU ms (nth ts k).1) a x.1/\MB encI 3 1 O6 x.2.2 4 ov (xa ids.length (bO li lk ids ts k) (bO li lk ids ts (k+1)) i)/\Mg (λq=>q=4) O6 w9 O6 x.2.2) (λx=>a+1-x.1) (0,false,wa) ⟨L1 _,rfl,a7,d9⟩
   rintro⟨q,b0,wb⟩ ⟨hq,g4,d6,c6⟩;dsimp only at hq g4 d6 c6 ⊢;have ca:=k2 wb c6;refine zh ?_;refine zvH (aj (c9 wb c6) M0 (Mk _) rfl rfl i rfl zo) ?_;refine zC ?_ ?_
   ·intro d1;replace d1:q<=a:=dT d1;have la1b:=j9.U k8 c6;have la3b:=(j8 q zo).U (lf q zo) c6;have b1:wb.cell? (adr lv 1 q)=some (nth e5 q):=by have:=la1b.cell (i:=q) (j:=0) zo rfl;rw[ax]at this;exact this
    have b2:wb.cell? (adr (nth e5 q) 1 a)=some (.bool (bU ms (nth ts k).1 q a)):=by have:=la3b.cell (i:=a) (j:=0) (by simp;omega) rfl;rw[ax,gH _ zo]at this;exact this
    have hla3l:((L2 (ms.length+1)).map (bU ms (nth ts k).1 q)).length=ms.length+1:=by simp
    have b7:=d6.U (ae (S:=λ_=>False) (λh=>h) O6 (LY wb).drew) zd (λh=>h);refine zh ?_;apply aO (λW=>W.cell? (adr av 1 i)=some (nI (a:Int))/\W.cell? (adr lv 1 q)=some (nth e5 q)/\W.cell? (adr (nth e5 q) 1 a)=some (.bool (bU ms (nth ts k).1 q a))) 14 rfl zk;refine zin ⟨ca,b1,b2⟩ λzS=>?_
    apply zrm 0 rfl zS rfl;apply zrm 1 rfl zS rfl
    cases b0 with
    |true=>
     apply bJ (d:=100) rfl (b':=true) rfl;refine zin ⟨ca,b1,b2⟩ λzS=>?_
     apply zte 2 rfl rfl zS;apply zte 3 rfl rfl zS
     apply zte 4 rfl rfl zS;apply zte 5 rfl rfl zS
     apply zte 6 rfl rfl zS;apply zte 7 rfl rfl zS
     apply zte 8 rfl rfl zS;apply zte 9 rfl rfl zS
     apply zte 10 rfl rfl zS;apply zte 11 rfl rfl zS
     apply zr 12 rfl zS (λ_=>aT rfl rfl);apply zra 13 rfl zS rfl
     apply Md zk;refine zh ?_
     refine zxd (q+1,true,wb.drew) ⟨by dsimp only;omega,by dsimp only;rw[lS,<-g4];rfl,b7,c6.drew⟩
    |false=>
     apply bJ (d:=100) rfl (b':=false) rfl;refine zin ⟨ca,b1,b2⟩ λzS=>?_
     apply zro 2 rfl zS (λ_=>M1 rfl);apply zro 3 rfl zS (λ_=>M1 rfl)
     apply zro 4 rfl zS (λ_=>aj la1b.sh Me (Mr _) rfl rfl q rfl zo);apply zto 5 rfl zS (λw1 e7=>RV.ld e7.2.1 rfl)
     apply zro 6 rfl zS (λ_=>M1 rfl);apply zro 7 rfl zS (λ_=>M1 rfl)
     apply zro 8 rfl zS (λ_=>aj (c9 wb c6) M0 (Mk _) rfl rfl i rfl zo);apply zto 9 rfl zS (λw1 e7=>RV.ld e7.1 rfl)
     apply zro 10 rfl zS (λ_=>aj la3b.sh L8 (M8 _) rfl rfl a rfl zo);apply zto 11 rfl zS (λw1 e7=>RV.ld e7.2.2 rfl)
     apply zr 12 rfl zS (λ_=>aV rfl rfl);apply zra 13 rfl zS rfl
     apply Md zk;refine zh ?_
     refine zxd (q+1,bU ms (nth ts k).1 q a,wb.drew) ⟨by dsimp only;omega,by dsimp only;rw[lS,<-g4];rfl,b7,c6.drew⟩
   intro d1;have i5:q=a+1:=dF d1;subst i5;refine zh ?_;refine zvH (aj (c9 wb c6) M0 (Mk _) rfl rfl i rfl zo) ?_;apply zlp (λx:Nat×Bool×ix=>[(1,dv),(2,nP xb),(5,hv),(6,wv),(7,av),(8,ov),(10,nI (k:Int)),(11,lv),(12,rv),(13,nI (i:Nat)),(14,.bool b0),(15,.bool x.2.1),(17,nI ((a+x.1:Nat):Int))]) (λx=>x.2.2) (λx=>x.1<=ms.length+1-a/\x.2.1=gT (bU ms (nth ts k).2.1) a x.1/\MB encI 3 1 O6 x.2.2 4 ov (xa ids.length (bO li lk ids ts k) (bO li lk ids ts (k+1)) i)/\Mg (λq=>q=4) O6 w9 O6 x.2.2) (λx=>ms.length+1-a-x.1) (0,false,wb) ⟨L1 _,rfl,d6,c6⟩;rintro⟨q,b1,wc⟩ ⟨l7,g2,a4,c5⟩;dsimp only at l7 g2 a4 c5 ⊢;have cc:=k2 wc c5;have h6:=c'.U c5 zd zd;refine zh ?_;refine zvH (NX (by first|exact h6.sl) M0 rfl) ?_;refine zC ?_ ?_
   ·intro d1;replace d1:a+q<=ms.length:=dT d1;have ra1c:=j7.U k5 c5;have ra3c:=(j6 a zo).U (rf a zo) c5;have e1:wc.cell? (adr rv 1 a)=some (nth g9 a):=by have:=ra1c.cell (i:=a) (j:=0) zo rfl;rw[ax]at this;exact this
    have e2:wc.cell? (adr (nth g9 a) 1 (a+q))=some (.bool (bU ms (nth ts k).2.1 a (a+q))):=by have:=ra3c.cell (i:=a+q) (j:=0) (by simp;omega) rfl;rw[ax,gH _ zo]at this;exact this
    have hra3l:((L2 (ms.length+1)).map (bU ms (nth ts k).2.1 a)).length=ms.length+1:=by simp
    refine zh ?_
    cases b1 with
    |true=>
     apply ay (d:=123) rfl (b':=true) rfl;refine zh ?_
     refine zxd (q+1,true,wc) ⟨by dsimp only;omega,by dsimp only;rw[gT,<-g2];rfl,a4,c5⟩
    |false=>
     apply ay (d:=123) rfl (b':=false) rfl;refine zh ?_
     refine zvH (aj (c9 wc c5) M0 (Mk _) rfl rfl i rfl zo) ?_;refine zvH (aj ra3c.sh L8 (M8 _) rfl rfl (a+q) rfl zo) ?_
     refine zxd (q+1,bU ms (nth ts k).2.1 a (a+q),wc) ⟨by dsimp only;omega,by dsimp only;rw[gT,<-g2];rfl,a4,c5⟩
   intro d1;have i5:q=ms.length+1-a:=dF d1;subst i5;have m6:DH ms (nth ts k) a=(b0&&b1):=by unfold DH;rw[g4,g2]
   rw[m6]at d8;have l':=FU ids.length (bO li lk ids ts k) (bO li lk ids ts (k+1)) i;have e':MB (λx=>[(λc:Int=>nI c) x]) 3 1 O6 wc 4 ov (xa ids.length (bO li lk ids ts k) (bO li lk ids ts (k+1)) i):=a4;refine zh ?_;refine aU (λw1=>_=w1) b1 1 rfl rfl rfl rfl rfl rfl ?_ ?_
   ·intro g1;refine zh ?_;refine nE 136 2 rfl g1
   rintro _ rfl;refine zh ?_;refine zC ?_ ?_
   ·intro i6;rw[i6,ap rfl]at d8;refine zh ?_;apply zv (aj a4.sl.sh M0 (Mk _) rfl rfl i rfl zo);apply Mf e' i zo (k:Int) (Mk _) rfl zd rfl rfl rfl rfl;intro wd b7 m9;rw[<-d8,FT]at b7;refine zh ?_;refine zxd (i+1,wd) ⟨d4,b7,c5.J m9⟩
   intro i6;rw[i6,am zd]at d8;rw[uT _ _ _ d8]at a4;refine zh ?_;refine zxd (i+1,wc) ⟨d4,a4,c5⟩
  intro d7;have m3:i=ids.length:=dF d7;subst m3;rw[FV]at a7;refine zh ?_;refine zxd (k,(k:Int)-1,wa) ⟨by dsimp only;omega,rfl,a7,a'.J d9⟩
 intro d7;have l6:r=0:=dF d7;subst l6;refine zh ?_;refine ah rfl rfl ⟨a2.sl,g6,a2.newV zd (f'.U a1)⟩
def tO{ts:List R3}(h:0<=bO li lk ids ts 0 i):(bO li lk ids ts 0 i).toNat<ts.length:=by
 unfold bO at h ⊢
 split at h
 ·omega
 rename_i hh;rw[am hh];rw[Nz]at h ⊢
 rcases gQ (jI li lk ids ids.length) (atN li lk ids i) ts 0 with⟨h1,_⟩|⟨j,h1,h2,_⟩
 ·rw[h1]at h;omega
 rw[h2];omega
def so(li lk:List Int)(ts:List R3)(ids:List Int)(v dv:ln)(w:ix)(h:Tx w v li lk ts)(hd:PL w dv ids)(hn:ids.length<=50):
  MX Mc 13 [v,dv] w fun u w'=>Sl dD 1 w' u (iT li lk ids ts)/\MZ w w'/\Qh w.heap.size u:=by
 obtain⟨ig,kp,ru,xs,rfl,h1,h2,h3,h4,h5⟩:=h;have hz:¬(0=1\/0=2):=zo;have f5:(tN li lk ids ts).length=ids.length:=by simp[tN]
 refine L0 func13 ntmps13 rfl rfl ?_;refine zh ?_
 refine aQ (aA w) 1 zo rfl rfl ?_;intro xb w1 O1 b6 e6 d7 c8;refine zh ?_
 refine zvH (ai (us:=[ig,kp,ru]) b6.V (isAgg45 _) (sizeOf45 _) rfl) ?_;refine zc call34 (uC li lk ts ids (D4 ig kp ru) dv w1 ⟨⟨ig,kp,ru,xs,rfl,h1.ext c8,h2.ext c8,h3.ext c8,h4,fun i hi=>(h5 i hi).ext c8⟩⟩ (hd.ext c8) hn) ?_
 rintro wv w2 ⟨b7,e',d'⟩;have b8:=d'.free b7 (fun x _=>by simp) d7;have d3:=ae (S:=fun _=>False) (fun h=>h) O1 e';have d5:Mg (fun q=>q=1\/q=2) (fun _=>0) w O1 w2:=(e6.mono (fun _ h=>zo) hz).J (d3.mono (fun _ h=>h.elim) hz);refine zh ?_;refine pL xe (enc:=dD) true (d7.U d3) 2 zd rfl rfl rfl zd rfl ?_;intro d8 w3 O3 d0 c9 e8;refine zh ?_;refine zlp (fun z:Nat×(Nat->Nat)×World×ln=>[(1,dv),(2,nP xb),(5,wv),(6,z.2.2.2),(7,nI (z.1:Nat))]) (fun z=>z.2.2.1) (fun z=>1<=z.1/\z.1<=max 1 ids.length/\MB dD 4 1 z.2.1 z.2.2.1 2 z.2.2.2 (true::(L2 (z.1-1)).map (fun i=>ei li lk ids ts (i+1)))/\My z.2.1 z.2.2.1 1 xb #[ig,kp,ru] 45/\Ni z.2.1 z.2.2.1 wv/\PL z.2.2.1 wv (tN li lk ids ts)/\Mg (fun q=>q=1\/q=2) (fun _=>0) w z.2.1 z.2.2.1/\Nf w.heap.size z.2.1 z.2.2.1) (fun z=>ids.length-z.1) (1,O3,w3,d8) (⟨L6 _,Nat.le_max_left _ _,d0,(b6.U d3 zd (fun h=>h)).U c9 zd zd,b8.U c9,b7.U b8 c9,d5.J (c9.mono (fun _ h=>zo) hz),e8⟩) ?_;rintro⟨k,O4,w4,f4⟩ ⟨e3,hk,a5,a6,a3,a2,a',b4⟩;dsimp only at e3 hk a5 a6 a3 a2 a' b4 ⊢;have f6:=hd.ext a'.ext;refine zh ?_;refine zC ?_ ?_
 ·intro d1;replace d1:k<ids.length:=dT d1;obtain⟨c,hc⟩:∃c,c=bO li lk ids ts 0 k:=⟨_,rfl⟩
  have e1:nth (tN li lk ids ts) k=c:=by rw[hc];exact zq _ d1
  have c6:ei li lk ids ts k=(c == -1||(decide (0<=c)&&(nth ts c.toNat).2.2)):=by unfold ei;rw[<-hc]
  have b3:=ae (S:=fun _=>False) (fun h=>h) O4 (LY w4).drew;have hU4d:=ae (S:=fun q=>q=2) zd O4 (LY w4).drew;have kc:∀W,(∃O',Mg (fun q=>q=2) O4 w4 O' W)->W.cell? (adr wv 1 k)=some (nI c):=fun W ⟨O',hu⟩=>by
   have:=(a2.U a3 hu).cell (i:=k) (j:=0) zo rfl;rw[ax,e1]at this;exact this
  have kx:∀W,(∃O',Mg (fun q=>q=2) O4 w4 O' W)->W.cell? (nA xb 2)=some ru:=fun W ⟨O',hu⟩=>(a6.U hu zd zd).cell 2 rfl
  have kr:0<=c->∀W,(∃O',Mg (fun q=>q=2) O4 w4 O' W)->W.cell? ((adr ru 7 c.toNat).add 6)=some (.bool (nth ts c.toNat).2.2):=fun h0 W ⟨O',hu⟩=>by
   have d2:c.toNat<xs.length:=by rw[hc]at h0 ⊢;rw[<-h4];exact tO h0
   have:=(oz (h3.ext (a'.J (hu.mono (fun _ h=>.inr h) hz)).ext) d2).2.2
   rwa[(h5 _ d2).2.2]at this
  have e0:(true::(L2 (k-1)).map (fun i=>ei li lk ids ts (i+1))).length=k:=by simp;omega
  have b2:(true::(L2 (k-1)).map (fun i=>ei li lk ids ts (i+1)))++[ei li lk ids ts k]=true::(L2 (k+1-1)).map (fun i=>ei li lk ids ts (i+1)):=by
   obtain⟨j,rfl⟩:∃j,k=j+1:=⟨k-1,zo⟩
   rw[show j+1+1-1=j+1 from rfl,show j+1-1=j from rfl,MR,MC];rfl
  refine zh ?_;refine aO (fun W=>∃O',Mg (fun q=>q=2) O4 w4 O' W) 27 rfl zk ?_
  refine zin ⟨_,hU4d⟩ fun zS=>?_
  refine zrm 0 rfl zS rfl ?_;refine zrm 1 rfl zS rfl ?_
  refine zrm 2 rfl zS rfl ?_;refine zr 3 rfl zS (fun _=>aj a2.sh M0 (Mk _) rfl rfl k rfl zo) ?_
  refine zt 4 rfl zS (fun w1 a9=>RV.ld (kc w1 a9) rfl) ?_;refine zr 5 rfl zS (fun _=>Pf rfl rfl) ?_
  refine zrm 6 rfl zS rfl ?_
  by_cases c1:c = -1
  ·refine bJ (d:=24) rfl (b':=true) ((by rw[c1];rfl)) ?_;refine zin ⟨_,hU4d⟩ fun zS=>?_
   refine zte 7 rfl rfl zS ?_;refine zte 8 rfl rfl zS ?_
   refine zte 9 rfl rfl zS ?_;refine zte 10 rfl rfl zS ?_
   refine zte 11 rfl rfl zS ?_;refine zte 12 rfl rfl zS ?_
   refine ztu 13 rfl zS ?_;refine ztu 14 rfl zS ?_
   refine ztu 15 rfl zS ?_;refine ztu 16 rfl zS ?_
   refine ztu 17 rfl zS ?_;refine ztu 18 rfl zS ?_
   refine ztu 19 rfl zS ?_;refine ztu 20 rfl zS ?_
   refine ztu 21 rfl zS ?_;refine zte 22 rfl rfl zS ?_
   refine zr 23 rfl zS (fun _=>aT rfl rfl) ?_;refine M5 24 zk rfl ?_
   refine cK xe (enc:=dD) (ei li lk ids ts k) rfl (congrArg (fun b=>[Mq b]) (show true=ei li lk ids ts k from by rw[c6,c1];rfl)) rfl zd rfl ?_;intro sv w5 b9 b1;have b0:=ae (S:=fun q=>q=2) zd O4 b1;have a1:=hU4d.J b0;refine zh ?_
   refine af (⟨_,a1⟩) ?_;have a7:=(a5.U b3 zd (fun h=>h)).U (ae (S:=fun _=>False) (fun h=>h) O4 b1) zd (fun h=>h);refine M5 25 zk rfl ?_
   refine aF xe a7 ((b4.U b3).U b0) b9 (by simp) rfl rfl (by simp) (by simp[L9]) (by rw[Mb];omega) (by rw[Mb];omega) zd rfl ?_;intro b5 w6 O6 a4 a8 c7;refine zh ?_
   refine af (⟨_,a1.J a8⟩) ?_;rw[b2]at a4;have a0:=a1.J a8;refine zra 26 rfl (⟨_,a1.J a8⟩) rfl ?_
   refine Md zk ?_;refine zh ?_
   refine zxd (k+1,O6,w6,b5) (⟨by dsimp only;omega,by dsimp only;omega,a4,a6.U (a0.mono (S':=fun q=>q=2) (fun _ h=>h) zd) zd zd,a3.U a0,a2.U a3 a0,a'.J (a0.mono (fun _ h=>.inr h) hz),c7⟩)
  refine bJ (d:=24) rfl (b':=false) ((by rw[beq_eq_false_iff_ne];exact c1)) ?_;refine zin ⟨_,hU4d⟩ fun zS=>?_
  refine zro 7 rfl zS (fun _=>M1 rfl) ?_;refine zro 8 rfl zS (fun _=>M1 rfl) ?_
  refine zro 9 rfl zS (fun _=>aj a2.sh M0 (Mk _) rfl rfl k rfl zo) ?_;refine zto 10 rfl zS (fun w1 a9=>RV.ld (kc w1 a9) rfl) ?_
  refine zro 11 rfl zS (fun _=>PS rfl rfl) ?_;refine zro 12 rfl zS (fun _=>M1 rfl) ?_
  by_cases c2:0<=c
  ·have d2:c.toNat<xs.length:=by have:=c2;rw[hc]at this ⊢;rw[<-h4];exact tO this
   refine bJ (d:=30) rfl (b':=true) ((decide_eq_true c2)) ?_;refine zin ⟨_,hU4d⟩ fun zS=>?_
   refine zro 13 rfl zS (fun _=>RV.fa rfl) ?_;refine zto 14 rfl zS (fun w1 a9=>RV.ld (kx w1 a9) rfl) ?_
   refine zro 15 rfl zS (fun _=>M1 rfl) ?_;refine zro 16 rfl zS (fun _=>M1 rfl) ?_
   refine zro 17 rfl zS (fun _=>aj a2.sh M0 (Mk _) rfl rfl k rfl zo) ?_;refine zto 18 rfl zS (fun w1 a9=>RV.ld (kc w1 a9) rfl) ?_
   refine zro 19 rfl zS (fun _=>aj (h3.ext a'.ext).sh underlying43 (sizeOf98 _) rfl rfl c.toNat zo zo) ?_;refine zro 20 rfl zS (fun _=>RV.fa rfl) ?_
   refine zto 21 rfl zS (fun w1 a9=>RV.ld ((kr c2) w1 a9) rfl) ?_;refine zro 22 rfl zS (fun _=>aT rfl rfl) ?_
   refine zr 23 rfl zS (fun _=>aV rfl rfl) ?_;refine M5 24 zk rfl ?_
   refine cK xe (enc:=dD) (ei li lk ids ts k) rfl (congrArg (fun b=>[Mq b]) (show(nth ts c.toNat).2.2=ei li lk ids ts k from by rw[c6,show(c == -1)=false from(by rw[beq_eq_false_iff_ne];exact c1),decide_eq_true c2];rfl)) rfl zd rfl ?_;intro sv w5 b9 b1;have b0:=ae (S:=fun q=>q=2) zd O4 b1;have a1:=hU4d.J b0;refine zh ?_
   refine af (⟨_,a1⟩) ?_;have a7:=(a5.U b3 zd (fun h=>h)).U (ae (S:=fun _=>False) (fun h=>h) O4 b1) zd (fun h=>h);refine M5 25 zk rfl ?_
   refine aF xe a7 ((b4.U b3).U b0) b9 (by simp) rfl rfl (by simp) (by simp[L9]) (by rw[Mb];omega) (by rw[Mb];omega) zd rfl ?_;intro b5 w6 O6 a4 a8 c7;refine zh ?_
   refine af (⟨_,a1.J a8⟩) ?_;rw[b2]at a4;have a0:=a1.J a8;refine zra 26 rfl (⟨_,a1.J a8⟩) rfl ?_
   refine Md zk ?_;refine zh ?_
   refine zxd (k+1,O6,w6,b5) (⟨by dsimp only;omega,by dsimp only;omega,a4,a6.U (a0.mono (S':=fun q=>q=2) (fun _ h=>h) zd) zd zd,a3.U a0,a2.U a3 a0,a'.J (a0.mono (fun _ h=>.inr h) hz),c7⟩)
  refine bJ (d:=30) rfl (b':=false) ((decide_eq_false c2)) ?_;refine zin ⟨_,hU4d⟩ fun zS=>?_
  refine zte 13 rfl rfl zS ?_;refine zte 14 rfl rfl zS ?_
  refine zte 15 rfl rfl zS ?_;refine zte 16 rfl rfl zS ?_
  refine zte 17 rfl rfl zS ?_;refine zte 18 rfl rfl zS ?_
  refine zte 19 rfl rfl zS ?_;refine zte 20 rfl rfl zS ?_
  refine zte 21 rfl rfl zS ?_;refine zro 22 rfl zS (fun _=>aV rfl rfl) ?_
  refine zr 23 rfl zS (fun _=>aV rfl rfl) ?_;refine M5 24 zk rfl ?_
  refine cK xe (enc:=dD) (ei li lk ids ts k) rfl (congrArg (fun b=>[Mq b]) (show false=ei li lk ids ts k from by rw[c6,show(c == -1)=false from(by rw[beq_eq_false_iff_ne];exact c1),decide_eq_false c2];rfl)) rfl zd rfl ?_;intro sv w5 b9 b1;have b0:=ae (S:=fun q=>q=2) zd O4 b1;have a1:=hU4d.J b0;refine zh ?_
  refine af (⟨_,a1⟩) ?_;have a7:=(a5.U b3 zd (fun h=>h)).U (ae (S:=fun _=>False) (fun h=>h) O4 b1) zd (fun h=>h);refine M5 25 zk rfl ?_
  refine aF xe a7 ((b4.U b3).U b0) b9 (by simp) rfl rfl (by simp) (by simp[L9]) (by rw[Mb];omega) (by rw[Mb];omega) zd rfl ?_;intro b5 w6 O6 a4 a8 c7;refine zh ?_
  refine af (⟨_,a1.J a8⟩) ?_;rw[b2]at a4;have a0:=a1.J a8;refine zra 26 rfl (⟨_,a1.J a8⟩) rfl ?_
  refine Md zk ?_;refine zh ?_
  refine zxd (k+1,O6,w6,b5) (⟨by dsimp only;omega,by dsimp only;omega,a4,a6.U (a0.mono (S':=fun q=>q=2) (fun _ h=>h) zd) zd zd,a3.U a0,a2.U a3 a0,a'.J (a0.mono (fun _ h=>.inr h) hz),c7⟩)
 intro e4;have e2:k-1=ids.length-1:=dF e4;rw[e2]at a5;have c6:iT li lk ids ts=(true::(L2 (ids.length-1)).map (fun i=>ei li lk ids ts (i+1)))++if 0<ids.length then [true]else []:=rfl
 rw[c6];have e0:(true::(L2 (ids.length-1)).map (fun i=>ei li lk ids ts (i+1))).length=ids.length-1+1:=by simp
 generalize true::(L2 (ids.length-1)).map (fun i=>ei li lk ids ts (i+1))=L at *;refine zh ?_
 by_cases d6:0<ids.length
 ·rw[ap d6];refine zTH rfl ((decide_eq_true zo)) ?_;refine Nl xe a5 b4 (true) (fun _=>rfl) rfl rfl rfl (by simp[L9]) zo zo zo zd rfl rfl ?_;intro f3 w7 O7 c5 e5 e7;refine zh ?_;refine ah rfl rfl (⟨c5.sl,(a'.J (e5.mono (fun _ h=>.inr h) hz)).ext,c5.newV zd e7⟩)
 rw[am d6];refine zFH rfl ((decide_eq_false zo)) ?_;refine ah rfl rfl (⟨by rw[MS];exact a5.sl,a'.ext,a5.newV zd b4⟩)
section
abbrev mv(m:M3):ln:=.agg (eU m).toArray
def lB(hF:∀(args:Array ln) (w:ix),(callFunc F args).run Mc w=.ok (.enter F args) w)(cs:Array ln)(l:List M3)(sv:ln)(q:Nat->Bool)(w:ix)(h:Sl eU 4 w sv l) 
  (hq:∀i,i<l.length->∀w',MZ w w'->MX Mc F ([mv (nth l i)]++cs.toList) w' λv w''=>v=.bool (q i)/\MZ w' w'') :
  MX Mc 196 [sv,.func (.func F) #[] cs] w λv w'=>v=nI (eu q l.length)/\MZ w w':=by
 have hl:=h.len_le;apply L0 func196 ntmps196 rfl rfl;refine zh ?_;apply zlp (λx:Nat×ix=>[(0,sv),(1,.func (.func F) #[] cs),(7,nI l.length),(8,nI x.1)]) (λx=>x.2) (λx=>x.1<=l.length/\MZ w x.2/\∀i,i<x.1->q i=false) (λx=>l.length-x.1) (0,w) ⟨L1 _,LY _,λi hi=>absurd hi (L5 i)⟩;rintro⟨k,w1⟩ ⟨hk,hE,a1⟩;dsimp only at hk hE a1 ⊢;have h1:=h.ext hE;refine zh ?_;refine zC ?_ ?_
 ·intro a0;replace a0:k<l.length:=dT a0;refine zh ?_;apply zv (ai (us:=eU (nth l k)) (λj u hu=>h1.cell a0 hu) (isAgg197 _) (sizeOf197 _) rfl);apply ej rfl hF rfl (hq k a0 w1 hE) rfl;rintro v w2 ⟨rfl,a3⟩;refine zh ?_;refine zC ?_ ?_
  ·intro hy;refine zh ?_;refine ah rfl rfl ⟨by rw[cZ a0 hy a1],hE.J a3⟩
  intro hy;refine zh ?_;refine zxd (k+1,w2) ⟨a0,hE.J a3,λi hi=>(L4.1 hi).elim (a1 i) (λe=>by rw[e];exact hy)⟩
 intro a2;replace a2:l.length<=k:=dF a2;refine zh ?_;refine ah rfl rfl ⟨by rw[cX λi hi=>a1 i zo],hE⟩
def iP(hF:∀(args:Array ln) (w:ix),(callFunc F args).run Mc w=.ok (.enter F args) w)(cs:Array ln)(l:List M3)(sv:ln)(q:Nat->Bool)(w:ix)(h:Sl eU 4 w sv l) 
  (hq:∀i,i<l.length->∀w',MZ w w'->MX Mc F ([mv (nth l i)]++cs.toList) w' λv w''=>v=.bool (q i)/\MZ w' w'') :
  MX Mc 150 [sv,.func (.func F) #[] cs] w λv w'=>v=.bool (jy q l.length)/\MZ w w':=by
 apply L0 func150 ntmps150 rfl rfl;refine zh ?_
 apply zc call196 (lB hF cs l sv q w h hq);rintro v w1 ⟨rfl,hE⟩;refine zh ?_
 refine ah rfl rfl ⟨by rw[firstN_any],hE⟩
def Aq(m:M3)(s:List UInt8)(sb:Nat)(w:ix)(h:w.cell? ⟨sb,0,none⟩=some (.string (bs s))):MX Mc 151 [mv m,nP sb] w λv w'=>v=.bool (m.1==s)/\MZ w w':=by
 apply L0 func151 ntmps151 rfl rfl;refine zh ?_
 apply aQ (aA w) 1 zo rfl rfl;intro xb w1 O1 a1 a2 a3 a0;refine zh ?_
 apply zv (RV.ld (a1.cell 0 rfl) rfl);apply zv (RV.ld (a0.cell h) rfl)
 refine zvH (bP rfl rfl) ?_;refine ah rfl rfl ⟨rfl,a0⟩
def po(l:List (List UInt8))(s:List UInt8)(sv:ln)(w:ix)(h:Sl encS 1 w sv l):MX Mc 149 [sv,.string (bs s)] w λv w'=>v=.bool (l.contains s)/\w'=w:=by
 apply L0 func149 ntmps149 rfl rfl;refine zh ?_
 apply zc call43 (mX l s sv w h);rintro v w9 ⟨rfl,a0⟩;rw[a0];clear a0 w9;refine zh ?_
 refine ah rfl rfl ⟨congrArg Mq ?_,rfl⟩;unfold qU
 cases hf:l.findIdx? (· == s)with
 |none=>
  have h1:=MY.1 hf;rw[decide_eq_false zd]
  symm
  rw[Bool.eq_false_iff];intro hc;have:=h1 s (NT.1 hc);simp at this
 |some k=>
  obtain⟨hk,h1,_⟩:=MG.1 hf;show decide ((0:Int)<=((k:Nat):Int))=_;rw[decide_eq_true zo]
  symm
  rw[NT,<-eq_of_beq h1];exact Nn hk
def wordsL:List (List UInt8):=[[108,101,116],[105,103,110,111,114,101],[107,101,101,112],[97,110,121]]
def fx(kn:Kn)(s:List UInt8):Int:=if((my s).isSome||wordsL.contains s)=true then 5 else if kn.any (λm=>m.1==s)=true then 11 else 0
variable{kn:Kn}
def BQ(O:Nat->Nat)(w:ix)(j jm rb:Nat)(s:LS)(q:List UInt8)(hk:Mac O w jm s.mc kn)(h:Pd O w j rb s):
  MX Mc 110 [nP rb,.string (bs q)] w λv w'=>v=nI (fx kn q)/\MZ w w':=by
 obtain⟨ms,a2,b1,b2⟩:=hk;apply L0 func110 ntmps110 rfl rfl;refine zg ?_;apply aQ (aA w) 1 zo rfl rfl;intro sb w1 O1 a9 b4 b5 b3;have a3:=a9.cell 0 rfl;refine zg ?_;apply zv (RV.ld a3 rfl);apply zc PZ (js q w1);rintro v w2 ⟨rfl,a6⟩;have a1:=b3.J a6;refine zg ?_
 cases hn:(my q).isSome with
 |true=>
  have hM:fx kn q=5:=by unfold fx;rw[hn];rfl
  rw[hM];apply ay (d:=14) rfl (b':=true) rfl;refine zg ?_;apply zTG rfl rfl;refine ah rfl rfl ⟨rfl,a1⟩
 |false=>
  apply ay (d:=14) rfl (b':=false) rfl;refine zg ?_
  apply cE P2 (PY _) (Qd _) encS wordsL rfl rfl rfl rfl zk zd rfl;intro sv w3 a' a5;have a0:=a1.J a5;refine zg ?_
  refine zvG (RV.ld ((a6.J a5).cell a3) rfl) ?_;apply zc call149 (po wordsL q sv w3 a')
  rintro v w9 ⟨rfl,a7⟩;rw[a7];clear a7 w9;refine zg ?_
  cases hw:wordsL.contains q with
  |true=>
   have hM:fx kn q=5:=by unfold fx;rw[hn,hw];rfl
   rw[hM];apply zTG rfl rfl;refine ah rfl rfl ⟨rfl,a0⟩
  |false=>
   apply aH rfl rfl;refine zg ?_
   apply zv (RV.ld (a0.cell h.q9) rfl);apply zv (eo rfl rfl)
   apply zc call150 (iP call151 #[nP sb] ms s.mc (λi=>(nth ms i).1==q) w3 (a2.sl.ext a0) (λi hi w' hE=>Aq (nth ms i) q sb w' (hE.cell ((a6.J a5).cell a3))));rintro v w4 ⟨rfl,a8⟩;have a4:jy (λi=>(nth ms i).1==q) ms.length=kn.any (λm=>m.1==q):=by
    rw[<-b1,<-iX (l:=kn) (p:=λm=>m.1==q)];exact Bp λi hi=>by rw[(b2 i zo).1]
   rw[a4];refine zg ?_
   cases ha:kn.any (λm=>m.1==q)with
   |true=>
    have hM:fx kn q=11:=by unfold fx;rw[hn,hw,ha];rfl
    rw[hM];apply zTG rfl rfl;refine ah rfl rfl ⟨rfl,a0.J a8⟩
   |false=>
    have hM:fx kn q=0:=by unfold fx;rw[hn,hw,ha];rfl
    rw[hM];apply zFG rfl rfl;refine ah rfl rfl ⟨rfl,a0.J a8⟩
end
section
variable{kn:Kn}
def J0:cI Mc 197 #[(0,1),(1,3)]:=⟨_,underlying197,λw=>by kernel_rfl⟩
inductive ML where
 |ok (m:List UInt8×Nd)
 |bad (p:Nat) (e:Int)
def K2(nm r2:List UInt8):XR->ML
 |.ok t=>.ok (nm,t)
 |.bad p e=>.bad (r2.length-1-p) e
def tG(kn:Kn)(r:List UInt8):ML:=
 if(az r).takeWhile ak=[]then .bad (az r).length 4
 else if fx kn ((az r).takeWhile ak)≠0 then .bad (az r).length (fx kn ((az r).takeWhile ak))
 else if(az ((az r).dropWhile ak)).headD 0=61 then K2 ((az r).takeWhile ak) (az ((az r).dropWhile ak)) (fQ kn (az ((az r).dropWhile ak)).tail)
 else .bad (az ((az r).dropWhile ak)).length 4
def Ln(O:Nat->Nat)(w:ix)(jm:Nat)(m:Nat)(v:ln)(bad e:Int)(kn:Kn):ML->Prop
 |.ok x=>e=0/\Mac O w jm v (kn++[x])
 |.bad p e'=>e=e'/\e'≠0/\bad=(m:Int)-(p:Int)
def atX:XR->Int
 |.ok _=>0
 |.bad p _=>(p:Int)
def K8:XR->Int
 |.ok _=>0
 |.bad _ e=>e
def PostX.shape{M:XR}(h:PostX O w v M):∃x:N3,v=.tuple #[nv x,nI (atX M),nI (K8 M)]/\x.2.2.oneCell'=true/\∀t,M=.ok t->Nt O w t x:=by
 cases M with
 |ok t=>obtain⟨x,rfl,hn⟩:=h;exact⟨x,rfl,hn.one,λt e=>by cases e;exact hn⟩
 |bad p e=>obtain⟨rfl,_⟩:=h;exact⟨(0,0,nS),rfl,rfl,λt e=>by cases e⟩
def lI{m:M3}(h:m.2.2.2.oneCell'=true):∀c∈eU m,c.oneCell'=true:=λc hc=>by
 simp only[eU,M7,N1,or_false]at hc
 rcases hc with rfl|rfl|rfl|rfl
 ·rfl
 ·rfl
 ·rfl
 exact h
def Ak{ms:List M3}{nm:List UInt8}{x:N3}{t:Nd}(hr:MB eU 197 4 O w i v (ms++[(nm,x)]))(hl:kn.length=ms.length)(hk:∀q,q<ms.length->(nth kn q).1=(nth ms q).1/\Nt O w (nth kn q).2 (nth ms q).2)(hn:Nt O w t x):Mac O w i v (kn++[(nm,t)]):=by
 refine⟨_,hr,by simp[hl],λq hq=>?_⟩;simp only[LX,Mb]at hq
 by_cases e:q<ms.length
 ·rw[aD (by simp;omega),aD (by simp;omega),NK zo,NK e,<-aD zo,<-aD e];exact hk q e
 obtain rfl:q=ms.length:=zo;rw[aD (by simp;omega),aD (by simp),ND zo,ND zo];simp[hl];exact hn
def CP(B:Nat)(O:Nat->Nat)(w:ix)(j jm rb:Nat)(s:LS)(m:Nat)(r:List UInt8)(hR:Nf B O w)(hj:j≠0)(a7:jm≠0)(d7:j≠jm)(hm:m<=s.l.length)(hl:s.l.length<=100000)(g2:s.to=(m:Int))(he:s.e=0) 
  (hr:r <:+ s.l.take m) (hp:s.pos=(m:Int)-(r.length:Int)) (m7:kn.length<=100000) (h7:Mac O w jm s.mc kn) (h:Pd O w j rb s) :
  MX Mc 78 [nP rb] w λ_ w'=>∃O' v pos bad e,Mg (λk=>k=j\/k=jm) O w O' w'/\Nf B O' w'/\Pd O' w' j rb {s with pos:=pos,bad:=bad,e:=e,mc:=v}/\Ln O' w' jm m v bad e kn (tG kn r):=by
 obtain⟨T0,i',f'⟩:=hR.bound;obtain⟨T,m8,f6,hT⟩:∃T,0<T/\jm<T/\∀b,O b<T:=⟨T0+jm+1,zo,zo,λb=>by have:=f' b;omega⟩
 clear i' f' T0;have g5:j<T:=by rw[<-h.tag];exact hT rb
 have e':¬(λq:Nat=>q=j\/q=jm) 0:=λe=>by rcases e with e|e;exact hj e.symm;exact a7 e.symm
 have a6:¬(λq:Nat=>q=j\/q=jm\/T<=q) 0:=λe=>by rcases e with e|e|e;exact hj e.symm;exact a7 e.symm;omega
 have g3:∀ {O':Nat->Nat} {w':ix},Mg (λq=>q=j\/q=jm\/T<=q) O w O' w'->Mg (λq=>q=j\/q=jm) O w O w':=λhU=>hU.fgt (S':=λq=>q=j\/q=jm) (λb hb=>by rcases hb with hb|hb|hb;exact Nq hb;exact Np hb;have:=hT b;omega) e'
 have j5:(s.l.take m).length=m:=by simp;omega
 apply L0 func78 ntmps78 rfl rfl;refine zh ?_
 apply zc Pa (eB O w j rb s m r hj hm hl g2 hr hp h);rintro v w1 ⟨rfl,k5,i9⟩;have j7:=(bC r).J hr;refine zh ?_
 refine zvH (RV.ld k5.q1 rfl) ?_;apply zc Pq (iy O w1 j rb ({s with pos:=(m:Int)-((az r).length:Int)}:LS) m (az r) hj hm hl g2 j7 rfl k5)
 rintro v w2 ⟨rfl,i3,i8⟩;have j6:=(L3 ak).J j7;have j':=(h7.U i9 a7 (λe=>d7 e.symm)).U i8 a7 (λe=>d7 e.symm);have k':=(hR.U i9).U i8;have f8:=(i9.J i8).mono (S':=λq=>q=j\/q=jm\/T<=q) (λ_ h=>.inl h) a6;refine zh ?_;refine zvH (bP rfl rfl) ?_
 by_cases f4:(az r).takeWhile ak=[]
 ·have hM:tG kn r=.bad (az r).length 4:=by unfold tG;rw[ap f4]
  rw[hM];refine zTH rfl ((by rw[f4];rfl)) ?_;apply zc MO (bX O w2 j rb ({s with pos:=(m:Int)-(((az r).dropWhile ak).length:Int)}:LS) ((m:Int)-((az r).length:Int)) 4 hj he i3);rintro u w3 ⟨g7,k8⟩;refine zh ?_;exact cM rfl ⟨O,s.mc,_,_,_,g3 (f8.J (k8.mono (λ_ h=>.inl h) a6)),k'.U k8,g7,rfl,zd,rfl⟩
 refine zFH rfl ((by simpa using f4)) ?_;apply zc call110 (BQ O w2 j jm rb ({s with pos:=(m:Int)-(((az r).dropWhile ak).length:Int)}:LS) ((az r).takeWhile ak) j' i3)
 rintro v w3 ⟨rfl,m6⟩;have g8:Mg (λ_=>False) O w2 O w3:=ae (λh=>h) O m6;have g7:=i3.U g8 hj (λh=>h);have k9:=k'.U g8;have f7:=f8.J (g8.mono (λ_ h=>h.elim) a6);refine zh ?_
 by_cases f3:fx kn ((az r).takeWhile ak)=0
 ·apply aH rfl ((by rw[f3];rfl));have j4:tG kn r=if(az ((az r).dropWhile ak)).headD 0=61 then K2 ((az r).takeWhile ak) (az ((az r).dropWhile ak)) (fQ kn (az ((az r).dropWhile ak)).tail)else .bad (az ((az r).dropWhile ak)).length 4:=by unfold tG;rw[am f4,am (by rw[f3];simp)]
  generalize (az r).takeWhile ak=nm at *;generalize (az r).dropWhile ak=q at *;have h0:=(bC q).J j6;have g6:=g7.drew;refine zh ?_;apply aO (λV=>V.cell? ⟨rb,0,none⟩=some (.string (bs s.l))) 19 rfl zk;apply zrm 0 rfl g6.q0 rfl;apply zr 1 rfl g6.q0 (λ_=>aq rfl);apply zrf 2 rfl g6.q0 rfl;apply M5 3 zk rfl;apply zc Pa (eB O w3.drew j rb ({s with pos:=(m:Int)-(q.length:Int)}:LS) m q hj hm hl g2 j6 rfl g6);rintro v w5 ⟨rfl,d1,i7⟩;have j3:=k9.drew.U i7;have e4:=f7.drew.J (i7.mono (λ_ h=>.inl h) a6);generalize az q=r2 at *;have hr2l:=h0.length_le;rw[j5]at hr2l;have i2:My O w5 j rb ({s with pos:=(m:Int)-(r2.length:Int)}:LS).cells 114:=d1;clear d1;have d1:=i2;refine zh ?_;refine zaf d1.q0 λzS=>?_
  apply zr 4 rfl zS (λ_=>RV.not rfl);apply zrm 5 rfl zS rfl
  by_cases j8:r2.length=0
  ·have h1:r2=[]:=M6 j8;have hM:tG kn r=.bad r2.length 4:=by rw[j4,am (by rw[h1];decide)]
   rw[hM];apply bJ (d:=44) rfl (b':=true) ((by rw[decide_eq_false zo];rfl));have c8:=d1.drew;refine zin d1.q0 λzS=>?_
   apply zte 6 rfl rfl zS;apply zte 7 rfl rfl zS
   apply zte 8 rfl rfl zS;apply zte 9 rfl rfl zS
   apply zte 10 rfl rfl zS;apply zte 11 rfl rfl zS
   apply zte 12 rfl rfl zS;apply zte 13 rfl rfl zS
   apply zte 14 rfl rfl zS;apply zte 15 rfl rfl zS
   apply zte 16 rfl rfl zS;apply zte 17 rfl rfl zS
   apply zr 18 rfl zS (λ_=>aT rfl rfl);apply Md zk
   refine zh ?_;refine zTH rfl rfl ?_
   apply MQ 8 rfl rfl zk zk;apply zw (M1 rfl)
   apply zw (aq rfl);apply zw (RV.fa rfl)
   apply zw (M1 rfl);apply zw (aq rfl)
   apply zw (RV.fa rfl);apply zw (RV.fa rfl)
   apply zw (RV.ld c8.q1 rfl);apply Nh
   apply zc MO (bX O w5.drew j rb ({s with pos:=(m:Int)-(r2.length:Int)}:LS) ((m:Int)-(r2.length:Int)) 4 hj he c8);rintro u w6 ⟨b5,d6⟩;refine zh ?_
   exact cM rfl ⟨O,s.mc,_,_,_,g3 ((e4.drew).J (d6.mono (λ_ h=>.inl h) a6)),j3.drew.U d6,b5,rfl,zd,rfl⟩
  have h1:r2≠[]:=λe=>j8 (by rw[e];rfl)
  have k0:=nL (zN h0 h1);rw[j5]at k0;apply bJ (d:=44) rfl (b':=false) ((by rw[decide_eq_true zo];rfl));refine zin d1.q0 λzS=>?_
  apply zro 6 rfl zS (λ_=>M1 rfl);apply zro 7 rfl zS (λ_=>aq rfl)
  apply zro 8 rfl zS (λ_=>RV.fa rfl);apply zro 9 rfl zS (λ_=>RV.fa rfl)
  apply zto 10 rfl zS (λw1 c6=>RV.ld c6 rfl);apply zro 11 rfl zS (λ_=>M1 rfl)
  apply zro 12 rfl zS (λ_=>aq rfl);apply zro 13 rfl zS (λ_=>RV.fa rfl)
  apply zro 14 rfl zS (λ_=>RV.fa rfl);apply M5 15 zk rfl
  apply bt rfl;refine zvH (RV.ld d1.q1 rfl) ?_
  refine zaf d1.q0 λzS=>?_
  apply zro 16 rfl zS (λ_=>bF (c:=r2.headD 0) LZ rfl rfl (m-r2.length) (by dsimp only;omega) k0);apply zro 17 rfl zS (λ_=>RV.neq rfl rfl)
  apply zr 18 rfl zS (λ_=>aV rfl rfl);apply Md zk
  refine zh ?_
  by_cases hc:r2.headD 0=61
  ·have l3:tG kn r=K2 nm r2 (fQ kn r2.tail):=by rw[j4,ap hc]
   obtain⟨k1,k2⟩:=cO (r:=r2) (by rw[hc];decide);apply aH rfl ((by rw[hc];rfl));have c8:=d1.drew;have h6:=(((j'.U g8 a7 (λh=>h)).U (ae (S:=λ_=>False) (λh=>h) O (LY w3).drew) a7 (λh=>h)).U i7 a7 (λe=>d7 e.symm)).U (ae (S:=λ_=>False) (λh=>h) O (LY w5).drew) a7 (λh=>h);have g0:=j3.drew;have k6:=e4.drew;have g':(s.l.take m).drop (m-r2.tail.length)=r2.tail:=by have:=GN (k1.J h0);rwa[j5]at this
   have k3:=zR (kn:=kn) r2.tail;generalize l2:fQ kn r2.tail=M at *;refine zh ?_;refine ia (λz:(Nat->Nat)×World×Nat×N3=>[(0,nP rb),(3,.string (bs nm)),(5,.pointer (some ⟨z.2.2.1,0,none⟩)),(6,nI (atX M)),(7,nI (K8 M))]) (λz:(Nat->Nat)×World×Nat×N3=>z.2.1) (λz:(Nat->Nat)×World×Nat×N3=>My z.1 z.2.1 T z.2.2.1 #[nI z.2.2.2.1,nI z.2.2.2.2.1,z.2.2.2.2.2] 120/\Pd z.1 z.2.1 j rb {s with pos:=(m:Int)-(r2.length:Int)}/\Mac z.1 z.2.1 jm s.mc kn/\Mg (λq=>q=j\/q=jm\/T<=q) O w z.1 z.2.1/\Nf B z.1 z.2.1/\z.2.2.2.2.2.oneCell'=true/\∀t,M=.ok t->Nt z.1 z.2.1 t z.2.2.2) ?_ ?_
   ·intro Qm hN;apply aO (λV=>V.cell? ⟨rb,0,none⟩=some (.string (bs s.l))/\V.cell? ⟨rb,1,none⟩=some (nI ((m:Int)-(r2.length:Int)))/\V.cell? ⟨rb,2,none⟩=some (nI s.to)/\V.cell? ⟨rb,9,none⟩=some s.mc) 30 rfl zk;refine zin ⟨c8.q0,c8.q1,c8.q2,c8.q9⟩ λzS=>?_
    apply zrm 0 rfl zS rfl;apply zr 1 rfl zS (λ_=>aq rfl)
    apply zrf 2 rfl zS rfl;apply zrf 3 rfl zS rfl
    apply zt 4 rfl zS (λw1 c6=>RV.ld c6.1 rfl);apply zrm 5 rfl zS rfl
    apply zr 6 rfl zS (λ_=>aq rfl);apply zrf 7 rfl zS rfl
    apply zrf 8 rfl zS rfl;apply zt 9 rfl zS (λw1 c6=>RV.ld c6.2.1 rfl)
    apply zr 10 rfl zS (λ_=>Nk rfl rfl (N6 zo));apply zrm 11 rfl zS rfl
    apply zr 12 rfl zS (λ_=>aq rfl);apply zrf 13 rfl zS rfl
    apply zrf 14 rfl zS rfl;apply zt 15 rfl zS (λw1 c6=>RV.ld c6.2.2.1 rfl)
    apply zr 16 rfl zS (λ_=>cm LZ rfl rfl rfl (m-r2.tail.length) m zo g2 zo hm);apply zrm 17 rfl zS rfl
    apply zr 18 rfl zS (λ_=>aq rfl);apply zrf 19 rfl zS rfl
    apply zt 20 rfl zS (λw1 c6=>RV.ld c6.2.2.2 rfl);rw[g'];refine bK 21 26 zk rfl rfl ?_ ?_
    ·apply zc call111 (mm s.mc r2.tail B O (forget jm O) w5.drew g0 g0.forget (h6.known a7 g0));rintro v w6 ⟨l5,l1⟩;rw[l2]at l1;obtain⟨x,rfl,c9,e8⟩:=l1.shape;have d8:Mg (λ_=>False) O w5.drew O w6:=ae (λh=>h) O l5;have b5:=c8.U d8 hj (λh=>h);have g4:=h6.U d8 a7 (λh=>h);have e9:=g0.U d8;have d6:=k6.J (d8.mono (λ_ h=>h.elim) a6);refine zh ?_
     refine zaf ⟨b5.q0,b5.q1,b5.q2,b5.q9⟩ λzS=>?_
     apply zrm 22 rfl zS rfl;apply zr 23 rfl zS (λ_=>MF rfl rfl)
     apply zr 24 rfl zS (λ_=>MF rfl rfl);apply zr 25 rfl zS (λ_=>MF rfl rfl)
     apply M5 26 zk rfl;apply aw e9 T zo (PW _) rfl
     intro nb w7 O7 e0 d3 j2 l4;have d0:=b5.U d3 hj zo;have h':=g4.U d3 a7 zo;have i6:=d6.J (d3.mono (λ_ h=>.inr (.inr (Ms h.symm))) a6);refine zh ?_;apply af ⟨d0.q0,d0.q1,d0.q2,d0.q9⟩;apply M5 27 zk rfl;apply zsb (us:=#[nI x.1,nI x.2.1,x.2.2]) e0 (P6 _) (cj c9);have h2:=N0 (us:=#[nI x.1,nI x.2.1,x.2.2]) e0;have d2:Mg (λq=>q=T) O7 w7 O7 (MU w7 nb #[nI x.1,nI x.2.1,x.2.2]):=Ma zo (PT e0) rfl;have c':=Mh d0 d2 hj zo;refine zh ?_;refine zaf ⟨c'.q0,c'.q1,c'.q2,c'.q9⟩ λzS=>?_
     apply zra 28 rfl zS rfl;apply zra 29 rfl zS rfl
     apply Md zk;exact dA (hN ((O7,MU w7 nb #[nI x.1,nI x.2.1,x.2.2],nb,x)) ⟨h2,c',Qc h' d2 a7 zo,PQ i6 (d2.mono (λ_ h=>.inr (.inr (Ms h.symm))) a6),Q9 j2 d2,c9,λt e=>Nt.U ((λt e=>(e8 t e).U d3) t e) d2⟩) ⟨rfl,rfl,rfl,rfl,rfl,trivial⟩ rfl
    apply aw g0 T zo (PW _) rfl;intro nb w6 O6 l8 d8 e9 l5;have b5:=c8.U d8 hj zo;have g4:=h6.U d8 a7 zo;have d6:=k6.J (d8.mono (λ_ h=>.inr (.inr (Ms h.symm))) a6);refine zh ?_
    apply af ⟨b5.q0,b5.q1,b5.q2,b5.q9⟩;apply M5 21 zk rfl
    apply zc call111 (mm s.mc r2.tail B O6 (forget jm O6) w6 e9 e9.forget (g4.known a7 e9));rintro v w7 ⟨l4,l0⟩;rw[l2]at l0;obtain⟨x,rfl,c9,e8⟩:=l0.shape;have d3:Mg (λ_=>False) O6 w6 O6 w7:=ae (λh=>h) O6 l4;have e0:=l8.U d3 zo (λh=>h);have d0:=b5.U d3 hj (λh=>h);have h':=g4.U d3 a7 (λh=>h);have j2:=e9.U d3;have i6:=d6.J (d3.mono (λ_ h=>h.elim) a6);refine zh ?_
    refine zaf ⟨d0.q0,d0.q1,d0.q2,d0.q9⟩ λzS=>?_
    apply zrm 22 rfl zS rfl;apply zr 23 rfl zS (λ_=>MF rfl rfl)
    apply zr 24 rfl zS (λ_=>MF rfl rfl);apply zr 25 rfl zS (λ_=>MF rfl rfl)
    apply M5 27 zk rfl;apply zsb (us:=#[nI x.1,nI x.2.1,x.2.2]) e0 (P6 _) (cj c9)
    have h2:=N0 (us:=#[nI x.1,nI x.2.1,x.2.2]) e0;have d2:Mg (λq=>q=T) O6 w7 O6 (MU w7 nb #[nI x.1,nI x.2.1,x.2.2]):=Ma zo (PT e0) rfl;have c':=Mh d0 d2 hj zo;refine zh ?_;refine zaf ⟨c'.q0,c'.q1,c'.q2,c'.q9⟩ λzS=>?_
    apply zra 28 rfl zS rfl;apply zra 29 rfl zS rfl
    apply Md zk;exact dA (hN ((O6,MU w7 nb #[nI x.1,nI x.2.1,x.2.2],nb,x)) ⟨h2,c',Qc h' d2 a7 zo,PQ i6 (d2.mono (λ_ h=>.inr (.inr (Ms h.symm))) a6),Q9 j2 d2,c9,λt e=>Nt.U (e8 t e) d2⟩) ⟨rfl,rfl,rfl,rfl,rfl,trivial⟩ rfl
   rintro⟨O8,w8,nb,x⟩ ⟨h4,i1,h8,i5,j1,c9,e8⟩;dsimp only at h4 i1 h8 i5 j1 c9 e8 ⊢;refine zh ?_
   cases M with
   |ok t=>
    rw[l3];apply aH rfl rfl;have j9:=e8 t rfl;obtain⟨ms,d9,e1,f5⟩:=h8;have b1:=PJ d9;have g1:=Q4 j1;have e2:=Nc i1;have d4:=Nc h4;have f9:=Q3 i5;refine zh ?_;apply aO (λV=>∀(q:Nat) (u:ln),(bu x)[q]? = some u->V.cell? (nA nb q)=some u) 13 rfl zk;refine zin d4.V λzS=>?_
    apply zrm 0 rfl zS rfl;apply zrm 1 rfl zS rfl
    apply zr 2 rfl zS (λ_=>aq rfl);apply zrf 3 rfl zS rfl
    apply zrm 5 rfl zS rfl;apply zt 6 rfl zS (λw1 c6=>ai (us:=bu x) c6 (isAgg120 _) (P6 _) rfl)
    apply zr 7 rfl zS (λ_=>Nm (vs:=[(0,.string (bs nm)),(1,nv x)]) (cells:=(eU (nm,x)).toArray) J0 (PV _) rfl zk);refine bK 4 8 zk rfl rfl ?_ ?_
    ·refine zvH (RV.ld e2.q9 rfl) ?_;apply af d4.V
     apply M5 8 zk rfl;apply bq elM (enc:=eU) (nm,x) rfl rfl rfl zd rfl
     intro w9 h9 e7;have a5:Mg (λ_=>False) O8 (Nv w8) O8 w9:=ae (λh=>h) O8 e7;have d5:=e2.U a5 hj (λh=>h);have c7:=d4.U a5 zo (λh=>h);have a8:=b1.U a5 a7 (λh=>h);have e6:=g1.U a5;have e5:=f9.J (a5.mono (λ_ h=>h.elim) a6);refine zh ?_;apply af c7.V;have a':∀u∈[((nm,x):M3)],∀c∈eU u,c.oneCell'=true:=λu hu=>by
      rw[Mi.1 hu];exact lI c9
     apply M5 9 zk rfl;apply aF elM a8 e6 h9 (by simp) rfl rfl (λ_ _=>rfl) a' (by simp;omega) (by simp;omega) zo rfl
     intro a0 b2 O10 a1 a3 c5;have a4:=Mh d5 a3 hj zo;have b0:=Mh c7 a3 zo zo;have b4:=a1.one;have b8:=e5.J (a3.mono (λ_ h=>.inr (.inl h)) a6);refine zh ?_;refine zaf b0.V λzS=>?_
     apply zr 10 rfl zS (λ_=>aq rfl);apply zrf 11 rfl zS rfl
     apply M5 12 zk rfl;apply ao (j:=9) a4 rfl (P7 _) b4 rfl rfl rfl
     have a2:Mg (λq=>q=j) O10 b2 O10 (Mt b2 ⟨rb,9,none⟩ a0):=Mj (λe=>hj e.symm) a4.tag rfl;have b6:My O10 (Mt b2 ⟨rb,9,none⟩ a0) j rb ({({s with pos:=(m:Int)-(r2.length:Int)}:LS)with mc:=a0}:LS).cells 114:=a4.set 9 a0;have b3:=b0.U a2 zo zo;have a9:=a1.U a2 a7 (λe=>d7 e.symm);have b7:=b8.J (a2.mono (λ_ h=>.inl h) a6);have b9:=c5.U a2;refine zh ?_;apply af b3.V;apply Md zk;have e3:=P3 b7 hT (S':=λq=>q=j\/q=jm) (λb hb=>by rcases hb with hb|hb|hb;exact Nq hb;exact Np hb;have:=hT b;omega) e';exact aK rfl ⟨lowT O10 T,a0,_,_,_,e3,b9.lowT T,b6.lowT g5,he,Ak (a9.lowT f6) e1 (λq hq=>⟨(f5 q hq).1,(((((f5 q hq).2.drew).U a5).U a3).U a2).weak (λb hb=>lr hb)⟩) (((((j9.drew).U a5).U a3).U a2).weak (λb hb=>lr hb))⟩
    apply bq elM (enc:=eU) (nm,x) rfl rfl rfl zd rfl;intro w9 h9 e7;have a5:Mg (λ_=>False) O8 (Nv w8) O8 w9:=ae (λh=>h) O8 e7;have d5:=e2.U a5 hj (λh=>h);have c7:=d4.U a5 zo (λh=>h);have a8:=b1.U a5 a7 (λh=>h);have e6:=g1.U a5;have e5:=f9.J (a5.mono (λ_ h=>h.elim) a6);refine zh ?_
    apply af c7.V;apply M5 4 zk rfl
    refine zvH (RV.ld d5.q9 rfl) ?_;apply af c7.V
    have a':∀u∈[((nm,x):M3)],∀c∈eU u,c.oneCell'=true:=λu hu=>by
     rw[Mi.1 hu];exact lI c9
    apply M5 9 zk rfl;apply aF elM a8 e6 h9 (by simp) rfl rfl (λ_ _=>rfl) a' (by simp;omega) (by simp;omega) zo rfl
    intro a0 b2 O10 a1 a3 c5;have a4:=Mh d5 a3 hj zo;have b0:=Mh c7 a3 zo zo;have b4:=a1.one;have b8:=e5.J (a3.mono (λ_ h=>.inr (.inl h)) a6);refine zh ?_;refine zaf b0.V λzS=>?_
    apply zr 10 rfl zS (λ_=>aq rfl);apply zrf 11 rfl zS rfl
    apply M5 12 zk rfl;apply ao (j:=9) a4 rfl (P7 _) b4 rfl rfl rfl
    have a2:Mg (λq=>q=j) O10 b2 O10 (Mt b2 ⟨rb,9,none⟩ a0):=Mj (λe=>hj e.symm) a4.tag rfl;have b6:My O10 (Mt b2 ⟨rb,9,none⟩ a0) j rb ({({s with pos:=(m:Int)-(r2.length:Int)}:LS)with mc:=a0}:LS).cells 114:=a4.set 9 a0;have b3:=b0.U a2 zo zo;have a9:=a1.U a2 a7 (λe=>d7 e.symm);have b7:=b8.J (a2.mono (λ_ h=>.inl h) a6);have b9:=c5.U a2;refine zh ?_;apply af b3.V;apply Md zk;have e3:=P3 b7 hT (S':=λq=>q=j\/q=jm) (λb hb=>by rcases hb with hb|hb|hb;exact Nq hb;exact Np hb;have:=hT b;omega) e';exact aK rfl ⟨lowT O10 T,a0,_,_,_,e3,b9.lowT T,b6.lowT g5,he,Ak (a9.lowT f6) e1 (λq hq=>⟨(f5 q hq).1,(((((f5 q hq).2.drew).U a5).U a3).U a2).weak (λb hb=>lr hb)⟩) (((((j9.drew).U a5).U a3).U a2).weak (λb hb=>lr hb))⟩
   |bad p e=>
    have d':=(k3 p e rfl).1;have l7:=(k3 p e rfl).2;rw[l3];apply aM rfl ((by simpa[K8]using d'));have hb8d:=i1.drew;apply MQ 12 rfl rfl zk zk;refine zh ?_;apply zw (RV.ld hb8d.q1 rfl);refine zwH (Nk rfl rfl (N6 (by dsimp only;omega))) ?_;refine zwH (Nk rfl rfl (N6 (by dsimp only[atX];omega))) ?_;apply Nh;apply zc MO (bX O8 w8.drew j rb ({s with pos:=(m:Int)-(r2.length:Int)}:LS) (((m:Int)-(r2.length:Int))+1+(p:Int)) e hj he hb8d);rintro u wf ⟨k4,g9⟩;have i0:My O8 wf j rb ({s with pos:=(m:Int)-(r2.length:Int),bad:=((m:Int)-(r2.length:Int))+1+(p:Int),e:=e}:LS).cells 114:=k4;clear k4;obtain⟨ms,d9,e1,f5⟩:=((h8.U (ae (S:=λ_=>False) (λh=>h) O8 (LY w8).drew) a7 (λh=>h)).U g9 a7 (λe=>d7 e.symm));have b1:=PJ d9;have g1:=Q4 (j1.drew.U g9);have e2:=Nc i0;have d4:=Nc (h4.drew.U g9 zo zo);have f9:=Q3 ((i5.drew).J (g9.mono (S':=λq=>q=j\/q=jm\/T<=q) (λ_ h=>.inl h) a6));refine zh ?_;apply aO (λV=>∀(q:Nat) (u:ln),(bu x)[q]? = some u->V.cell? (nA nb q)=some u) 13 rfl zk;refine zin d4.V λzS=>?_
    apply zrm 0 rfl zS rfl;apply zrm 1 rfl zS rfl
    apply zr 2 rfl zS (λ_=>aq rfl);apply zrf 3 rfl zS rfl
    apply zrm 5 rfl zS rfl;apply zt 6 rfl zS (λw1 c6=>ai (us:=bu x) c6 (isAgg120 _) (P6 _) rfl)
    apply zr 7 rfl zS (λ_=>Nm (vs:=[(0,.string (bs nm)),(1,nv x)]) (cells:=(eU (nm,x)).toArray) J0 (PV _) rfl zk);refine bK 4 8 zk rfl rfl ?_ ?_
    ·refine zvH (RV.ld e2.q9 rfl) ?_;apply af d4.V
     apply M5 8 zk rfl;apply bq elM (enc:=eU) (nm,x) rfl rfl rfl zd rfl
     intro w9 h9 e7;have a5:Mg (λ_=>False) O8 (Nv wf) O8 w9:=ae (λh=>h) O8 e7;have d5:=e2.U a5 hj (λh=>h);have c7:=d4.U a5 zo (λh=>h);have a8:=b1.U a5 a7 (λh=>h);have e6:=g1.U a5;have e5:=f9.J (a5.mono (λ_ h=>h.elim) a6);refine zh ?_;apply af c7.V;have a':∀u∈[((nm,x):M3)],∀c∈eU u,c.oneCell'=true:=λu hu=>by
      rw[Mi.1 hu];exact lI c9
     apply M5 9 zk rfl;apply aF elM a8 e6 h9 (by simp) rfl rfl (λ_ _=>rfl) a' (by simp;omega) (by simp;omega) zo rfl
     intro a0 b2 O10 a1 a3 c5;have a4:=Mh d5 a3 hj zo;have b0:=Mh c7 a3 zo zo;have b4:=a1.one;have b8:=e5.J (a3.mono (λ_ h=>.inr (.inl h)) a6);refine zh ?_;refine zaf b0.V λzS=>?_
     apply zr 10 rfl zS (λ_=>aq rfl);apply zrf 11 rfl zS rfl
     apply M5 12 zk rfl;apply ao (j:=9) a4 rfl (P7 _) b4 rfl rfl rfl
     have a2:Mg (λq=>q=j) O10 b2 O10 (Mt b2 ⟨rb,9,none⟩ a0):=Mj (λe=>hj e.symm) a4.tag rfl;have b6:My O10 (Mt b2 ⟨rb,9,none⟩ a0) j rb ({({s with pos:=(m:Int)-(r2.length:Int),bad:=((m:Int)-(r2.length:Int))+1+(p:Int),e:=e}:LS)with mc:=a0}:LS).cells 114:=a4.set 9 a0;have b3:=b0.U a2 zo zo;have a9:=a1.U a2 a7 (λe=>d7 e.symm);have b7:=b8.J (a2.mono (λ_ h=>.inl h) a6);have b9:=c5.U a2;refine zh ?_;apply af b3.V;apply Md zk;have e3:=P3 b7 hT (S':=λq=>q=j\/q=jm) (λb hb=>by rcases hb with hb|hb|hb;exact Nq hb;exact Np hb;have:=hT b;omega) e';exact aK rfl ⟨lowT O10 T,a0,_,_,_,e3,b9.lowT T,b6.lowT g5,rfl,d',by dsimp only;omega⟩
    apply bq elM (enc:=eU) (nm,x) rfl rfl rfl zd rfl;intro w9 h9 e7;have a5:Mg (λ_=>False) O8 (Nv wf) O8 w9:=ae (λh=>h) O8 e7;have d5:=e2.U a5 hj (λh=>h);have c7:=d4.U a5 zo (λh=>h);have a8:=b1.U a5 a7 (λh=>h);have e6:=g1.U a5;have e5:=f9.J (a5.mono (λ_ h=>h.elim) a6);refine zh ?_
    apply af c7.V;apply M5 4 zk rfl
    refine zvH (RV.ld d5.q9 rfl) ?_;apply af c7.V
    have a':∀u∈[((nm,x):M3)],∀c∈eU u,c.oneCell'=true:=λu hu=>by
     rw[Mi.1 hu];exact lI c9
    apply M5 9 zk rfl;apply aF elM a8 e6 h9 (by simp) rfl rfl (λ_ _=>rfl) a' (by simp;omega) (by simp;omega) zo rfl
    intro a0 b2 O10 a1 a3 c5;have a4:=Mh d5 a3 hj zo;have b0:=Mh c7 a3 zo zo;have b4:=a1.one;have b8:=e5.J (a3.mono (λ_ h=>.inr (.inl h)) a6);refine zh ?_;refine zaf b0.V λzS=>?_
    apply zr 10 rfl zS (λ_=>aq rfl);apply zrf 11 rfl zS rfl
    apply M5 12 zk rfl;apply ao (j:=9) a4 rfl (P7 _) b4 rfl rfl rfl
    have a2:Mg (λq=>q=j) O10 b2 O10 (Mt b2 ⟨rb,9,none⟩ a0):=Mj (λe=>hj e.symm) a4.tag rfl;have b6:My O10 (Mt b2 ⟨rb,9,none⟩ a0) j rb ({({s with pos:=(m:Int)-(r2.length:Int),bad:=((m:Int)-(r2.length:Int))+1+(p:Int),e:=e}:LS)with mc:=a0}:LS).cells 114:=a4.set 9 a0;have b3:=b0.U a2 zo zo;have a9:=a1.U a2 a7 (λe=>d7 e.symm);have b7:=b8.J (a2.mono (λ_ h=>.inl h) a6);have b9:=c5.U a2;refine zh ?_;apply af b3.V;apply Md zk;have e3:=P3 b7 hT (S':=λq=>q=j\/q=jm) (λb hb=>by rcases hb with hb|hb|hb;exact Nq hb;exact Np hb;have:=hT b;omega) e';exact aK rfl ⟨lowT O10 T,a0,_,_,_,e3,b9.lowT T,b6.lowT g5,rfl,d',by dsimp only;omega⟩
  have hM:tG kn r=.bad r2.length 4:=by rw[j4,am hc]
  rw[hM];apply aM rfl ((ti _ 61 zd hc));have c8:=d1.drew;refine zh ?_;apply MQ 8 rfl rfl zk zk;refine zh ?_;apply zw (RV.ld c8.q1 rfl);apply Nh;apply zc MO (bX O w5.drew j rb ({s with pos:=(m:Int)-(r2.length:Int)}:LS) ((m:Int)-(r2.length:Int)) 4 hj he c8);rintro u w6 ⟨b5,d6⟩;refine zh ?_;exact cM rfl ⟨O,s.mc,_,_,_,g3 ((e4.drew).J (d6.mono (λ_ h=>.inl h) a6)),j3.drew.U d6,b5,rfl,zd,rfl⟩
 have hM:tG kn r=.bad (az r).length (fx kn ((az r).takeWhile ak)):=by unfold tG;rw[am f4,ap f3]
 rw[hM];refine zTH rfl ((by simpa using f3)) ?_;apply zc MO (bX O w3 j rb ({s with pos:=(m:Int)-(((az r).dropWhile ak).length:Int)}:LS) ((m:Int)-((az r).length:Int)) (fx kn ((az r).takeWhile ak)) hj he g7);rintro u w4 ⟨m2,k7⟩;refine zh ?_;exact cM rfl ⟨O,s.mc,_,_,_,g3 (f7.J (k7.mono (λ_ h=>.inl h) a6)),k9.U k7,m2,rfl,f3,rfl⟩
end
def By:Elem Mc 22 3 1 8:=⟨M0,by kernel_rfl,zd⟩
inductive LM where
 |ok (l:List Int)
 |bad (p:Nat) (e:Int)
def fV:Nat->List Int->List UInt8->LM
 |0,acc,_=>.ok acc
 |n+1,acc,r=>
  if(az r).length=0 then .ok acc
  else if(az r).takeWhile ak=[]then .bad (az r).length 4
  else match my ((az r).takeWhile ak)with
   |none=>.bad (az r).length 5
   |some c=>fV n (acc++[(c:Int)]) ((az r).dropWhile ak)
def K1:LM->LM
 |.bad p e=>.bad p e
 |.ok []=>.bad 0 4
 |.ok (a::l)=>.ok (P5 (ir (a::l)))
def dC(r:List UInt8):LM:=K1 (fV (r.length+1) [] r)
def tM{x:List UInt8}(h:x.takeWhile ak≠[]):(x.dropWhile ak).length<x.length:=by
 have:=congrArg ME (List.takeWhile_append_dropWhile (p:=ak) (l:=x));rw[LX]at this;have:=P4.2 h;omega
def Kw(m:Nat)(w':ix)(O':Nat->Nat)(ji:Nat)(lv:ln)(bad e:Int):LM->Prop
 |.ok l=>e=0/\MB encI 3 1 O' w' ji lv l
 |.bad p e'=>e=e'/\e'≠0/\bad=(m:Int)-(p:Int)
def qL(O:Nat->Nat)(w:ix)(j rb:Nat)(s:LS)(hj:j≠0)(he:s.e=0)(a0:s.i=true)(h:Pd O w j rb s):
  MX Mc 79 [nP rb,.pointer (some ⟨rb,6,none⟩),.pointer (some ⟨rb,10,none⟩)] w fun _ w'=>Pd O w' j rb {s with bad:=s.bg,e:=11}/\Mg (fun k=>k=j) O w O w':=by
 have q0:=h.q10;rw[a0]at q0;have a3:Mg (fun k=>k=j) O w O w.drew:=(MM (fun e=>hj e.symm) O w).drew;refine L0 PH Pu rfl rfl ?_;refine zg ?_;refine zvG (RV.ld q0 rfl) ?_;refine zTG rfl rfl ?_;refine MQ 8 rfl rfl zk zk ?_;refine zg ?_;refine zw (RV.ld h.q3 rfl) ?_;refine Nh ?_;refine zc MO (bX O w.drew j rb s s.bg 11 hj he h.drew) ?_;rintro u w1 ⟨a1,a2⟩;refine zg ?_;exact cM rfl ⟨a1,a3.J a2⟩
def qK(O:Nat->Nat)(w:ix)(j rb:Nat)(s:LS)(hj:j≠0)(he:s.e=0)(a0:s.k=true)(h:Pd O w j rb s):
  MX Mc 79 [nP rb,.pointer (some ⟨rb,7,none⟩),.pointer (some ⟨rb,11,none⟩)] w fun _ w'=>Pd O w' j rb {s with bad:=s.bg,e:=11}/\Mg (fun k=>k=j) O w O w':=by
 have q0:=h.q11;rw[a0]at q0;have a3:Mg (fun k=>k=j) O w O w.drew:=(MM (fun e=>hj e.symm) O w).drew;refine L0 PH Pu rfl rfl ?_;refine zg ?_;refine zvG (RV.ld q0 rfl) ?_;refine zTG rfl rfl ?_;refine MQ 8 rfl rfl zk zk ?_;refine zg ?_;refine zw (RV.ld h.q3 rfl) ?_;refine Nh ?_;refine zc MO (bX O w.drew j rb s s.bg 11 hj he h.drew) ?_;rintro u w1 ⟨a1,a2⟩;refine zg ?_;exact cM rfl ⟨a1,a3.J a2⟩
def tL:∀(n:Nat) (a0:List Int) (r:List UInt8) (p:Nat) (e:Int),fV n a0 r=.bad p e->p<=r.length
 |0,_,_,_,_,h=>by cases h
 |n+1,a0,r,p,e,h=>by
  have hs:=dS r;unfold fV at h
  split at h
  ·cases h
  split at h
  ·cases h;exact hs
  split at h
  ·cases h;exact hs
  have h1:=tL n _ _ p e h;have h2:=(L3 (l:=az r) ak).length_le;omega
def nR{p:Nat}(h:dC r=.bad p e):p<=r.length:=by
 unfold dC at h
 cases hw:fV (r.length+1) [] r with
 |bad q f=>rw[hw]at h;cases h;exact tL _ _ _ _ _ hw
 |ok l=>
  rw[hw]at h
  cases l with
  |nil=>cases h;exact L1 _
  |cons a l=>cases h
def uZ(B:Nat)(O:Nat->Nat)(w:ix)(j ji rb:Nat)(s:LS)(m:Nat)(r0:List UInt8)(hR:Nf B O w)(hj:j≠0)(a8:ji≠0)(a9:j≠ji)(hm:m<=s.l.length)(hl:s.l.length<=100000)(d6:s.to=(m:Int))(he:s.e=0)(g1:s.i=false)(g2:s.ig=tF)
  (hr:r0 <:+ s.l.take m) (hp:s.pos=(m:Int)-(r0.length:Int)) (h:Pd O w j rb s) :
  MX Mc 79 [nP rb,.pointer (some ⟨rb,6,none⟩),.pointer (some ⟨rb,10,none⟩)] w fun _ w'=>∃O' lv pos bad e,Mg (fun k=>k=j\/k=ji) O w O' w'/\Nf B O' w'/\Pd O' w' j rb {s with pos:=pos,bad:=bad,e:=e,ig:=lv,i:=true}/\Kw m w' O' ji lv bad e (dC r0):=by
 have a0:¬(fun q:Nat=>q=j\/q=ji) 0:=fun e=>by rcases e with e|e;exact hj e.symm;exact a8 e.symm
 have h1:r0.length<=m:=by have:=hr.length_le;simp at this;omega
 have q0:=h.q10;rw[g1]at q0;refine L0 PH Pu rfl rfl ?_;refine zg ?_;refine zvG (RV.ld q0 rfl) ?_;refine zFG rfl rfl ?_;refine ao (j:=10) h rfl (M8 _) rfl rfl rfl rfl ?_;have g4:Pd O (w.setCell ⟨rb,10,none⟩ (.bool true)) j rb {s with i:=true}:=PU h 10 _;have f6:Mg (fun k=>k=j) O w O (w.setCell ⟨rb,10,none⟩ (.bool true)):=Mj (fun e=>hj e.symm) h.tag rfl;generalize w.setCell ⟨rb,10,none⟩ (.bool true)=w1 at *;obtain⟨M,d1⟩:∃M,M=fV (r0.length+1) [] r0:=⟨_,rfl⟩
 refine zg ?_;refine zlp (fun y:Nat×List Int×List UInt8×(Nat->Nat)×World×ln=>[(0,nP rb),(1,.pointer (some ⟨rb,6,none⟩))]) (fun y=>y.2.2.2.2.1) (fun y=>Pd y.2.2.2.1 y.2.2.2.2.1 j rb {s with pos:=(m:Int)-(y.2.2.1.length:Int),ig:=y.2.2.2.2.2,i:=true}/\MB encI 3 1 y.2.2.2.1 y.2.2.2.2.1 ji y.2.2.2.2.2 y.2.1/\y.2.2.1 <:+ s.l.take m/\fV y.1 y.2.1 y.2.2.1=M/\y.2.2.1.length<y.1/\y.2.1.length+y.2.2.1.length<=r0.length/\Mg (fun k=>k=j\/k=ji) O w y.2.2.2.1 y.2.2.2.2.1/\Nf B y.2.2.2.1 y.2.2.2.2.1) (fun y=>y.1) (r0.length+1,[],r0,O,w1,tF) (⟨by dsimp only;rw[<-hp,<-g2];exact g4,Nj _ _ _ _ _ _,hr,d1.symm,Pm _,by simp,f6.mono (fun _ h=>.inl h) a0,hR.U f6⟩) ?_
 rintro⟨n,d5,r,O1,w2,lv⟩ ⟨f4,b1,b2,a4,hn,g5,f5,f7⟩;dsimp only at f4 b1 b2 a4 hn g5 f5 f7 ⊢;obtain⟨n,rfl⟩:∃q,n=q+1:=⟨n-1,by omega⟩
 have g':=dS r;unfold fV at a4;refine zg ?_;refine zc Pa (eB O1 w2 j rb ({s with pos:=(m:Int)-((r).length:Int),ig:=lv,i:=true}:LS) m r hj hm hl d6 b2 rfl f4) ?_;rintro v w3 ⟨rfl,b6,e6⟩;have a3:=b1.U e6 a8 (fun e=>a9 e.symm);have f3:=f7.U e6;have b9:=f5.J (e6.mono (fun _ h=>.inl h) a0);refine zg ?_
 by_cases h0:(az r).length=0
 ·rw[ap h0]at a4;refine aH rfl ((decide_eq_false zo)) ?_;refine zg ?_;refine zv (RV.ld b6.q6 rfl) ?_;refine zvG (NX (by first|exact a3.sl) M0 rfl) ?_
  rcases d5 with _|⟨a,d5⟩
  ·have hM:dC r0=.bad 0 4:=by unfold dC;rw[<-d1,<-a4];rfl
   rw[hM];refine aM rfl rfl ?_;have d':=b6.q2;dsimp only at d';rw[d6]at d';refine MQ 8 rfl rfl zk zk ?_;refine zg ?_;refine zw (RV.ld d' rfl) ?_;refine Nh ?_;refine zc MO (bX O1 w3.drew j rb ({s with pos:=(m:Int)-((az r).length:Int),ig:=lv,i:=true}:LS) (m:Int) 4 hj he b6.drew) ?_;rintro u w7 ⟨b',c5⟩;have a2:=a3.drew.U c5 a8 (fun e=>a9 e.symm);have e9:=f3.drew.U c5;have d9:=Q8 b';refine zg ?_;refine zv (RV.ld d9 rfl) ?_;refine zc Pw (kN e9 a2 a8 zo) ?_;rintro u w8 ⟨a6,a',e8⟩;have b5:=Mh b' a' hj a9;have d8:=b5.q6;refine zg ?_;refine zv (RV.ld d8 rfl) ?_;refine zc Pv (fm e8 a6 a8 (by rw[eG];omega)) ?_;rintro u w9 ⟨a1,c',e7⟩;have b4:=b5.U c' hj a9;have a7:=a1.one;refine zg ?_;refine ao (j:=6) b4 rfl (Nu _) a7 rfl rfl rfl ?_;have b7:=b4.set 6 u;have a5:Mg (fun k=>k=j) O1 w9 O1 (w9.setCell ⟨rb,6,none⟩ u):=Mj (fun e=>hj e.symm) b4.tag rfl;have e1:=(((b9.drew.J (c5.mono (fun _ h=>.inl h) a0)).J (a'.mono (fun _ h=>.inr h) a0)).J (c'.mono (fun _ h=>.inr h) a0)).J (a5.mono (fun _ h=>.inl h) a0);refine zg ?_;exact aK rfl ⟨O1,u,_,(m:Int),4,e1,e7.U a5,b7,⟨rfl,by decide,by simp⟩⟩
  have hM:dC r0=.ok (P5 (ir (a::d5))):=by unfold dC;rw[<-d1,<-a4];rfl
  rw[hM];refine aH rfl ((beq_eq_false_iff_ne.2 (by simp;omega))) ?_;have d9:=Q8 b6;refine zg ?_;refine zv (RV.ld d9 rfl) ?_;refine zc Pw (kN f3 a3 a8 zo) ?_;rintro u w8 ⟨a6,a',e8⟩;have b5:=Mh b6 a' hj a9;have d8:=b5.q6;refine zg ?_;refine zv (RV.ld d8 rfl) ?_;refine zc Pv (fm e8 a6 a8 (by rw[eG];omega)) ?_;rintro u w9 ⟨a1,c',e7⟩;have b4:=b5.U c' hj a9;have a7:=a1.one;refine zg ?_;refine ao (j:=6) b4 rfl (Nu _) a7 rfl rfl rfl ?_;have b7:=b4.set 6 u;have a5:Mg (fun k=>k=j) O1 w9 O1 (w9.setCell ⟨rb,6,none⟩ u):=Mj (fun e=>hj e.symm) b4.tag rfl;have e1:=((b9.J (a'.mono (fun _ h=>.inr h) a0)).J (c'.mono (fun _ h=>.inr h) a0)).J (a5.mono (fun _ h=>.inl h) a0);refine zg ?_;exact aK rfl ⟨O1,u,_,_,_,e1,e7.U a5,b7,⟨he,a1.U a5 a8 (fun e=>a9 e.symm)⟩⟩
 rw[am h0]at a4;refine aM rfl ((decide_eq_true zo)) ?_;have b0:=(bC r).J b2;refine zg ?_;refine zvG (RV.ld b6.q1 rfl) ?_;refine zc Pq (iy O1 w3 j rb ({s with pos:=(m:Int)-((az r).length:Int),ig:=lv,i:=true}:LS) m (az r) hj hm hl d6 b0 rfl b6) ?_;rintro v w4 ⟨rfl,g3,e5⟩;refine zg ?_;refine zc PZ (js ((az r).takeWhile ak) w4) ?_;rintro v w5 ⟨rfl,g8⟩;have d4:Mg (fun _=>False) O1 w4 O1 w5:=ae (fun h=>h) O1 g8;have d3:=g3.U d4 hj (fun h=>h);have e':=(f3.U e5).U d4;have b8:=(b9.J (e5.mono (fun _ h=>.inl h) a0)).J (d4.mono (fun _ h=>h.elim) a0);refine zg ?_;refine zvG (bP rfl rfl) ?_
 by_cases c9:(az r).takeWhile ak=[]
 ·rw[ap c9]at a4;have hM:dC r0=.bad (az r).length 4:=by unfold dC;rw[<-d1,<-a4];rfl
  rw[hM];refine zTG rfl ((by simpa using c9)) ?_;refine zc MO (bX O1 w5 j rb ({s with pos:=(m:Int)-(((az r).dropWhile ak).length:Int),ig:=lv,i:=true}:LS) ((m:Int)-((az r).length:Int)) 4 hj he d3) ?_;rintro u w6 ⟨e0,d0⟩;refine zg ?_;exact cM rfl ⟨O1,lv,_,_,_,b8.J (d0.mono (fun _ h=>.inl h) a0),e'.U d0,e0,rfl,by decide,rfl⟩
 rw[am c9]at a4;have g9:=tM c9;refine zFG rfl ((by simpa using c9)) ?_
 cases b3:my ((az r).takeWhile ak)with
 |none=>
  rw[b3]at a4;have hM:dC r0=.bad (az r).length 5:=by unfold dC;rw[<-d1,<-a4];rfl
  rw[hM];refine zTG rfl rfl ?_;refine zc MO (bX O1 w5 j rb ({s with pos:=(m:Int)-(((az r).dropWhile ak).length:Int),ig:=lv,i:=true}:LS) ((m:Int)-((az r).length:Int)) 5 hj he d3) ?_;rintro u w6 ⟨e0,d0⟩;refine zg ?_;exact cM rfl ⟨O1,lv,_,_,_,b8.J (d0.mono (fun _ h=>.inl h) a0),e'.U d0,e0,rfl,by decide,rfl⟩
 |some c=>
  rw[b3]at a4;dsimp only at a4;have g0:GX ((az r).takeWhile ak)=(c:Int):=by unfold GX;rw[b3]
  rw[g0];refine aH rfl rfl ?_;refine zg ?_;refine zvG (RV.ld d3.q6 rfl) ?_;refine Nl By ((a3.U e5 a8 (fun e=>a9 e.symm)).U d4 a8 (fun h=>h)) e' ((c:Int)) (fun _=>rfl) rfl rfl rfl (by simp[L9,encI]) zo zo zo zd rfl rfl ?_;intro d2 w7 O7 a2 c5 e9;have b':=d3.U c5 hj a9;refine zg ?_;refine ao (j:=6) b' rfl (Nu _) a2.one rfl rfl rfl ?_;have b5:=b'.set 6 d2;have a':Mg (fun k=>k=j) O7 w7 O7 (w7.setCell ⟨rb,6,none⟩ d2):=Mj (fun e=>hj e.symm) b'.tag rfl;refine zg ?_;refine zxd (n,d5++[(c:Int)],(az r).dropWhile ak,O7,(w7.setCell ⟨rb,6,none⟩ d2),d2) (⟨b5,a2.U a' a8 (fun e=>a9 e.symm),(L3 _).J b0,a4,by dsimp only;omega,by simp;omega,(b8.J (c5.mono (fun _ h=>.inr h) a0)).J (a'.mono (fun _ h=>.inl h) a0),e9.U a'⟩)
def uY(B:Nat)(O:Nat->Nat)(w:ix)(j ji rb:Nat)(s:LS)(m:Nat)(r0:List UInt8)(hR:Nf B O w)(hj:j≠0)(a8:ji≠0)(a9:j≠ji)(hm:m<=s.l.length)(hl:s.l.length<=100000)(d6:s.to=(m:Int))(he:s.e=0)(g1:s.k=false)(g2:s.kp=tF)
  (hr:r0 <:+ s.l.take m) (hp:s.pos=(m:Int)-(r0.length:Int)) (h:Pd O w j rb s) :
  MX Mc 79 [nP rb,.pointer (some ⟨rb,7,none⟩),.pointer (some ⟨rb,11,none⟩)] w fun _ w'=>∃O' lv pos bad e,Mg (fun k=>k=j\/k=ji) O w O' w'/\Nf B O' w'/\Pd O' w' j rb {s with pos:=pos,bad:=bad,e:=e,kp:=lv,k:=true}/\Kw m w' O' ji lv bad e (dC r0):=by
 have a0:¬(fun q:Nat=>q=j\/q=ji) 0:=fun e=>by rcases e with e|e;exact hj e.symm;exact a8 e.symm
 have h1:r0.length<=m:=by have:=hr.length_le;simp at this;omega
 have q0:=h.q11;rw[g1]at q0;refine L0 PH Pu rfl rfl ?_;refine zg ?_;refine zvG (RV.ld q0 rfl) ?_;refine zFG rfl rfl ?_;refine ao (j:=11) h rfl (M8 _) rfl rfl rfl rfl ?_;have g4:Pd O (w.setCell ⟨rb,11,none⟩ (.bool true)) j rb {s with k:=true}:=PU h 11 _;have f6:Mg (fun k=>k=j) O w O (w.setCell ⟨rb,11,none⟩ (.bool true)):=Mj (fun e=>hj e.symm) h.tag rfl;generalize w.setCell ⟨rb,11,none⟩ (.bool true)=w1 at *;obtain⟨M,d1⟩:∃M,M=fV (r0.length+1) [] r0:=⟨_,rfl⟩
 refine zg ?_;refine zlp (fun y:Nat×List Int×List UInt8×(Nat->Nat)×World×ln=>[(0,nP rb),(1,.pointer (some ⟨rb,7,none⟩))]) (fun y=>y.2.2.2.2.1) (fun y=>Pd y.2.2.2.1 y.2.2.2.2.1 j rb {s with pos:=(m:Int)-(y.2.2.1.length:Int),kp:=y.2.2.2.2.2,k:=true}/\MB encI 3 1 y.2.2.2.1 y.2.2.2.2.1 ji y.2.2.2.2.2 y.2.1/\y.2.2.1 <:+ s.l.take m/\fV y.1 y.2.1 y.2.2.1=M/\y.2.2.1.length<y.1/\y.2.1.length+y.2.2.1.length<=r0.length/\Mg (fun k=>k=j\/k=ji) O w y.2.2.2.1 y.2.2.2.2.1/\Nf B y.2.2.2.1 y.2.2.2.2.1) (fun y=>y.1) (r0.length+1,[],r0,O,w1,tF) (⟨by dsimp only;rw[<-hp,<-g2];exact g4,Nj _ _ _ _ _ _,hr,d1.symm,Pm _,by simp,f6.mono (fun _ h=>.inl h) a0,hR.U f6⟩) ?_
 rintro⟨n,d5,r,O1,w2,lv⟩ ⟨f4,b1,b2,a4,hn,g5,f5,f7⟩;dsimp only at f4 b1 b2 a4 hn g5 f5 f7 ⊢;obtain⟨n,rfl⟩:∃q,n=q+1:=⟨n-1,by omega⟩
 have g':=dS r;unfold fV at a4;refine zg ?_;refine zc Pa (eB O1 w2 j rb ({s with pos:=(m:Int)-((r).length:Int),kp:=lv,k:=true}:LS) m r hj hm hl d6 b2 rfl f4) ?_;rintro v w3 ⟨rfl,b6,e6⟩;have a3:=b1.U e6 a8 (fun e=>a9 e.symm);have f3:=f7.U e6;have b9:=f5.J (e6.mono (fun _ h=>.inl h) a0);refine zg ?_
 by_cases h0:(az r).length=0
 ·rw[ap h0]at a4;refine aH rfl ((decide_eq_false zo)) ?_;refine zg ?_;refine zv (RV.ld b6.q7 rfl) ?_;refine zvG (NX (by first|exact a3.sl) M0 rfl) ?_
  rcases d5 with _|⟨a,d5⟩
  ·have hM:dC r0=.bad 0 4:=by unfold dC;rw[<-d1,<-a4];rfl
   rw[hM];refine aM rfl rfl ?_;have d':=b6.q2;dsimp only at d';rw[d6]at d';refine MQ 8 rfl rfl zk zk ?_;refine zg ?_;refine zw (RV.ld d' rfl) ?_;refine Nh ?_;refine zc MO (bX O1 w3.drew j rb ({s with pos:=(m:Int)-((az r).length:Int),kp:=lv,k:=true}:LS) (m:Int) 4 hj he b6.drew) ?_;rintro u w7 ⟨b',c5⟩;have a2:=a3.drew.U c5 a8 (fun e=>a9 e.symm);have e9:=f3.drew.U c5;have d9:=Q7 b';refine zg ?_;refine zv (RV.ld d9 rfl) ?_;refine zc Pw (kN e9 a2 a8 zo) ?_;rintro u w8 ⟨a6,a',e8⟩;have b5:=Mh b' a' hj a9;have d8:=b5.q7;refine zg ?_;refine zv (RV.ld d8 rfl) ?_;refine zc Pv (fm e8 a6 a8 (by rw[eG];omega)) ?_;rintro u w9 ⟨a1,c',e7⟩;have b4:=b5.U c' hj a9;have a7:=a1.one;refine zg ?_;refine ao (j:=7) b4 rfl (Nu _) a7 rfl rfl rfl ?_;have b7:=b4.set 7 u;have a5:Mg (fun k=>k=j) O1 w9 O1 (w9.setCell ⟨rb,7,none⟩ u):=Mj (fun e=>hj e.symm) b4.tag rfl;have e1:=(((b9.drew.J (c5.mono (fun _ h=>.inl h) a0)).J (a'.mono (fun _ h=>.inr h) a0)).J (c'.mono (fun _ h=>.inr h) a0)).J (a5.mono (fun _ h=>.inl h) a0);refine zg ?_;exact aK rfl ⟨O1,u,_,(m:Int),4,e1,e7.U a5,b7,⟨rfl,by decide,by simp⟩⟩
  have hM:dC r0=.ok (P5 (ir (a::d5))):=by unfold dC;rw[<-d1,<-a4];rfl
  rw[hM];refine aH rfl ((beq_eq_false_iff_ne.2 (by simp;omega))) ?_;have d9:=Q7 b6;refine zg ?_;refine zv (RV.ld d9 rfl) ?_;refine zc Pw (kN f3 a3 a8 zo) ?_;rintro u w8 ⟨a6,a',e8⟩;have b5:=Mh b6 a' hj a9;have d8:=b5.q7;refine zg ?_;refine zv (RV.ld d8 rfl) ?_;refine zc Pv (fm e8 a6 a8 (by rw[eG];omega)) ?_;rintro u w9 ⟨a1,c',e7⟩;have b4:=b5.U c' hj a9;have a7:=a1.one;refine zg ?_;refine ao (j:=7) b4 rfl (Nu _) a7 rfl rfl rfl ?_;have b7:=b4.set 7 u;have a5:Mg (fun k=>k=j) O1 w9 O1 (w9.setCell ⟨rb,7,none⟩ u):=Mj (fun e=>hj e.symm) b4.tag rfl;have e1:=((b9.J (a'.mono (fun _ h=>.inr h) a0)).J (c'.mono (fun _ h=>.inr h) a0)).J (a5.mono (fun _ h=>.inl h) a0);refine zg ?_;exact aK rfl ⟨O1,u,_,_,_,e1,e7.U a5,b7,⟨he,a1.U a5 a8 (fun e=>a9 e.symm)⟩⟩
 rw[am h0]at a4;refine aM rfl ((decide_eq_true zo)) ?_;have b0:=(bC r).J b2;refine zg ?_;refine zvG (RV.ld b6.q1 rfl) ?_;refine zc Pq (iy O1 w3 j rb ({s with pos:=(m:Int)-((az r).length:Int),kp:=lv,k:=true}:LS) m (az r) hj hm hl d6 b0 rfl b6) ?_;rintro v w4 ⟨rfl,g3,e5⟩;refine zg ?_;refine zc PZ (js ((az r).takeWhile ak) w4) ?_;rintro v w5 ⟨rfl,g8⟩;have d4:Mg (fun _=>False) O1 w4 O1 w5:=ae (fun h=>h) O1 g8;have d3:=g3.U d4 hj (fun h=>h);have e':=(f3.U e5).U d4;have b8:=(b9.J (e5.mono (fun _ h=>.inl h) a0)).J (d4.mono (fun _ h=>h.elim) a0);refine zg ?_;refine zvG (bP rfl rfl) ?_
 by_cases c9:(az r).takeWhile ak=[]
 ·rw[ap c9]at a4;have hM:dC r0=.bad (az r).length 4:=by unfold dC;rw[<-d1,<-a4];rfl
  rw[hM];refine zTG rfl ((by simpa using c9)) ?_;refine zc MO (bX O1 w5 j rb ({s with pos:=(m:Int)-(((az r).dropWhile ak).length:Int),kp:=lv,k:=true}:LS) ((m:Int)-((az r).length:Int)) 4 hj he d3) ?_;rintro u w6 ⟨e0,d0⟩;refine zg ?_;exact cM rfl ⟨O1,lv,_,_,_,b8.J (d0.mono (fun _ h=>.inl h) a0),e'.U d0,e0,rfl,by decide,rfl⟩
 rw[am c9]at a4;have g9:=tM c9;refine zFG rfl ((by simpa using c9)) ?_
 cases b3:my ((az r).takeWhile ak)with
 |none=>
  rw[b3]at a4;have hM:dC r0=.bad (az r).length 5:=by unfold dC;rw[<-d1,<-a4];rfl
  rw[hM];refine zTG rfl rfl ?_;refine zc MO (bX O1 w5 j rb ({s with pos:=(m:Int)-(((az r).dropWhile ak).length:Int),kp:=lv,k:=true}:LS) ((m:Int)-((az r).length:Int)) 5 hj he d3) ?_;rintro u w6 ⟨e0,d0⟩;refine zg ?_;exact cM rfl ⟨O1,lv,_,_,_,b8.J (d0.mono (fun _ h=>.inl h) a0),e'.U d0,e0,rfl,by decide,rfl⟩
 |some c=>
  rw[b3]at a4;dsimp only at a4;have g0:GX ((az r).takeWhile ak)=(c:Int):=by unfold GX;rw[b3]
  rw[g0];refine aH rfl rfl ?_;refine zg ?_;refine zvG (RV.ld d3.q7 rfl) ?_;refine Nl By ((a3.U e5 a8 (fun e=>a9 e.symm)).U d4 a8 (fun h=>h)) e' ((c:Int)) (fun _=>rfl) rfl rfl rfl (by simp[L9,encI]) zo zo zo zd rfl rfl ?_;intro d2 w7 O7 a2 c5 e9;have b':=d3.U c5 hj a9;refine zg ?_;refine ao (j:=7) b' rfl (Nu _) a2.one rfl rfl rfl ?_;have b5:=b'.set 7 d2;have a':Mg (fun k=>k=j) O7 w7 O7 (w7.setCell ⟨rb,7,none⟩ d2):=Mj (fun e=>hj e.symm) b'.tag rfl;refine zg ?_;refine zxd (n,d5++[(c:Int)],(az r).dropWhile ak,O7,(w7.setCell ⟨rb,7,none⟩ d2),d2) (⟨b5,a2.U a' a8 (fun e=>a9 e.symm),(L3 _).J b0,a4,by dsimp only;omega,by simp;omega,(b8.J (c5.mono (fun _ h=>.inr h) a0)).J (a'.mono (fun _ h=>.inl h) a0),e9.U a'⟩)
structure St where
 ts:List R3
 li:List Int
 lk:List Int
 hi:Bool
 hk:Bool
inductive RS where
 |go (s:St)
 |bad (p:Nat) (e:Int)
 |other
def KE(st:St)(d:Nat):LM->RS
 |.ok l=>.go {st with li:=l,hi:=true}
 |.bad p e=>.bad (d-p) e
def KD(st:St)(d:Nat):LM->RS
 |.ok l=>.go {st with lk:=l,hk:=true}
 |.bad p e=>.bad (d-p) e
def KC(st:St)(d:Nat):LR->RS
 |.ok t=>.go {st with ts:=st.ts++[t]}
 |.bad p e=>.bad (d+p) e
structure Mem(O:Nat->Nat)(w:ix)(jr ji jk:Nat)(s:LS)(st:St):Prop where
 ru:∃xs,MB cL 122 7 O w jr s.ru xs/\st.ts.length=xs.length/\xs.length<=40/\∀i,i<xs.length->Rt O w (nth st.ts i) (nth xs i)
 ig:MB encI 3 1 O w ji s.ig st.li
 kp:MB encI 3 1 O w jk s.kp st.lk
 fi:s.i=st.hi
 fk:s.k=st.hk
 ni:st.hi=false->s.ig=tF
 nk:st.hk=false->s.kp=tF
def Mem.U{S:Nat->Prop}{O O':Nat->Nat}{w w':ix}{jr ji jk:Nat}{s:LS}{st:St}(h:Mem O w jr ji jk s st)(u:Mg S O w O' w')(h1:jr≠0)(h2:ji≠0)(h3:jk≠0)(g1:¬S jr)(g2:¬S ji)(g3:¬S jk):Mem O' w' jr ji jk s st:=by
 obtain⟨⟨xs,a1,a2,a3,a4⟩,b,c,d,e,f,g⟩:=h;exact⟨⟨xs,a1.U u h1 g1,a2,a3,λi hi=>(a4 i hi).U u⟩,b.U u h2 g2,c.U u h3 g3,d,e,f,g⟩
def Mem.with{s s':LS}{st:St}(h:Mem O w jr ji jk s st)(e1:s'.ru=s.ru)(e2:s'.ig=s.ig)(e3:s'.kp=s.kp)(e4:s'.i=s.i)(e5:s'.k=s.k):Mem O w jr ji jk s' st:=by
 obtain⟨a,b,c,d,e,f,g⟩:=h;exact⟨by rw[e1];exact a,by rw[e2];exact b,by rw[e3];exact c,by rw[e4];exact d,by rw[e5];exact e,by rw[e2];exact f,by rw[e3];exact g⟩
section
variable{kn:Kn}
inductive RK where
 |go (kn:Kn) (st:St)
 |bad (p:Nat) (e:Int)
def mC(kn:Kn):RS->RK
 |.go st=>.go kn st
 |.bad p e=>.bad p e
 |.other=>.bad 0 0
def Kl(kn:Kn)(st:St)(d:Nat):ML->RK
 |.ok x=>.go (kn++[x]) st
 |.bad p e=>.bad (d-p) e
def dh(kn:Kn)(st:St)(seg:List UInt8):RK:=
 if(bn seg).length=0 then .go kn st
 else if((bn seg).takeWhile ak==[108,101,116])=true then Kl kn st (bG seg).length (tG kn ((bn seg).dropWhile ak))
 else if((bn seg).takeWhile ak==[105,103,110,111,114,101])=true then
  (if st.hi=true then .bad ((bG seg).length-(bn seg).length) 11 else mC kn (KE st (bG seg).length (dC ((bn seg).dropWhile ak))))
 else if((bn seg).takeWhile ak==[107,101,101,112])=true then
  (if st.hk=true then .bad ((bG seg).length-(bn seg).length) 11 else mC kn (KD st (bG seg).length (dC ((bn seg).dropWhile ak))))
 else mC kn (KC st ((bG seg).length-(bn seg).length) (if st.ts.length=40 then P1 0 3 else iw kn (bn seg)))
def Kv(B:Nat)(O:Nat->Nat)(w w':ix)(j jr ji jk jm rb:Nat)(s:LS)(fr:Nat)(M:RK):Prop:=
 ∃O' s',Mg (λk=>k=j\/k=jr\/k=ji\/k=jk\/k=jm) O w O' w'/\Nf B O' w'/\Pd O' w' j rb s'/\s'.l=s.l/\
  match M with
  |.go kn' st'=>s'.e=0/\Mem O' w' jr ji jk s' st'/\Mac O' w' jm s'.mc kn'
  |.bad p e=>e≠0/\s'.e=e/\s'.bad=(fr:Int)+(p:Int)
def CQ{p:Nat}(h:tG kn r=.bad p e):p<=r.length:=by
 have h1:=dS r;have h2:=(L3 (l:=az r) ak).length_le;have h3:=dS ((az r).dropWhile ak);unfold tG at h
 split at h
 ·cases h;omega
 split at h
 ·cases h;omega
 split at h
 ·cases hx:fQ kn (az ((az r).dropWhile ak)).tail with
  |ok t=>rw[hx]at h;cases h
  |bad q f=>rw[hx]at h;cases h;omega
 cases h;omega
def uE(B:Nat)(O:Nat->Nat)(w:ix)(j jr ji jk jm rb:Nat)(s:LS)(fr to:Nat)(seg:List UInt8)(st:St)(hR:Nf B O w)(hj:j≠0)(b7:jr≠0)(b9:ji≠0)(b8:jk≠0)(d0:j≠jr)(c':j≠ji)(c9:j≠jk)(h5:jr≠ji)(h4:jr≠jk)(h3:ji≠jk)(b3:jm≠0)(c6:j≠jm)(g3:jr≠jm)(g':ji≠jm)(e7:jk≠jm)(g5:kn.length<=100000)(j0:fr<=to)(i9:to<=s.l.length)(d4:s.l.length<=100000)(he:s.e=0) 
  (f9:(s.l.take to).drop fr=seg) (h':Mem O w jr ji jk s st) (i1:Mac O w jm s.mc kn) (h:Pd O w j rb s) :
  MX Mc 45 [nP rb,nI fr,nI to] w λ_ w'=>Kv B O w w' j jr ji jk jm rb s fr (dh kn st seg):=by
 have b':¬(λq:Nat=>q=j\/q=jr\/q=ji\/q=jk\/q=jm) 0:=λe=>by rcases e with e|e|e|e|e;exact hj e.symm;exact b7 e.symm;exact b9 e.symm;exact b8 e.symm;exact b3 e.symm
 have h7:¬(λq:Nat=>q=j) 0:=λe=>hj e.symm
 have i':seg.length=to-fr:=by rw[<-f9];simp;omega
 have j8:(bn seg).length<=(bG seg).length:=dS _;have j9:(bG seg).length<=seg.length:=(MN (l:=seg) _).length_le;obtain⟨m,i0⟩:∃m,m=fr+(bG seg).length:=⟨_,rfl⟩
 have d3:m<=s.l.length:=zo;have g7:(s.l.take m).drop fr=bG seg:=by
  have h1:bG seg=seg.take (bG seg).length:=List.prefix_iff_eq_take.1 (MN _);have h2:(seg.take (bG seg).length)=(s.l.take m).drop fr:=by
   conv=>lhs;arg 2;rw[<-f9]
   rw[List.take_drop,List.take_take,Nat.min_eq_left zo,i0]
  rw[<-h2,<-h1]
 have d5:bG seg <:+ s.l.take m:=by rw[<-g7];exact List.drop_suffix _ _
 have b1:bn seg <:+ s.l.take m:=(bC _).J d5;have f6:(fr:Int)=(m:Int)-((bG seg).length:Int):=zo;have g6:(m:Int)-((az (bG seg)).length:Int)=((m-(bn seg).length:Nat):Int):=by
  have:(az (bG seg)).length=(bn seg).length:=rfl;omega
 apply L0 func45 ntmps45 rfl rfl;refine zh ?_
 apply ao (j:=1) h rfl (Mk _) rfl rfl rfl rfl;have i4:=h.s_pos (fr:Int);have j4:Mg (λk=>k=j) O w O (w.setCell ⟨rb,1,none⟩ (nI (fr:Int))):=Mj h7 h.tag rfl;refine zh ?_
 apply ao (j:=2) i4 rfl (Mk _) rfl rfl rfl rfl;have g8:=i4.s_to (to:Int);have j3:Mg (λk=>k=j) O (w.setCell ⟨rb,1,none⟩ (nI (fr:Int))) O ((w.setCell ⟨rb,1,none⟩ (nI (fr:Int))).setCell ⟨rb,2,none⟩ (nI (to:Int))):=Mj h7 i4.tag rfl;have e6:=j4.J j3;have f7:=h'.U e6 b7 b9 b8 (λe=>d0 e.symm) (λe=>c' e.symm) (λe=>c9 e.symm);have f8:=i1.U e6 b3 (λe=>c6 e.symm);have i8:=hR.U e6;generalize (w.setCell ⟨rb,1,none⟩ (nI (fr:Int))).setCell ⟨rb,2,none⟩ (nI (to:Int))=w2 at *;refine zh ?_
 refine zvH (RV.ld g8.q0 rfl) ?_;apply zv (cm LZ rfl rfl rfl fr to rfl rfl j0 i9)
 rw[show({s with pos:=(fr:Int),to:=(to:Int)}:LS).l=s.l from rfl,f9];apply zc call44 (ef seg 35 w2);rintro v w9 ⟨rfl,i7⟩;rw[i7];clear i7 w9
 cases hf:seg.findIdx? (· == 35)with
 |none=>
  have hi:tH seg 35 = -1:=by unfold tH;rw[hf]
  have i2:=Bm hf;rw[hi];obtain rfl:m=to:=by rw[i0,i2,i'];omega
  refine zh ?_;apply aH rfl rfl
  have d':=f7;have e2:=f8;have i6:=i8;have g1:=e6.mono (S':=λk=>k=j\/k=jr\/k=ji\/k=jk\/k=jm) (λ_ h=>.inl h) b';refine zh ?_;apply zc Pa (eB O w2 j rb ({s with pos:=(fr:Int),to:=(m:Int)}:LS) m (bG seg) hj d3 d4 rfl d5 f6 g8);rintro v w4 ⟨rfl,e4,f4⟩;have c7:=d'.U f4 b7 b9 b8 (λe=>d0 e.symm) (λe=>c' e.symm) (λe=>c9 e.symm);have c8:=e2.U f4 b3 (λe=>c6 e.symm);have g9:=i6.U f4;have e5:=g1.J (f4.mono (λ_ h=>.inl h) b');refine zh ?_
  by_cases h0:(bn seg).length=0
  ·have hM:dh kn st seg=.go kn st:=by unfold dh;rw[ap h0]
   rw[hM];refine zTH rfl ((by have d2:(az (bG seg)).length=0:=h0;simp[d2])) ?_;exact cM rfl ⟨O,_,e5,g9,e4,rfl,he,c7.with rfl rfl rfl rfl rfl,c8⟩
  have d2:(az (bG seg)).length=(bn seg).length:=rfl;refine zFH rfl ((by rw[d2,decide_eq_true zo];rfl)) ?_;refine zvH (RV.ld e4.q1 rfl) ?_;apply ao (j:=3) e4 rfl (Mk _) rfl rfl rfl rfl;have i3:=e4.s_bg ((m:Int)-((az (bG seg)).length:Int));have f3:Mg (λk=>k=j) O w4 O (w4.setCell ⟨rb,3,none⟩ (nI ((m:Int)-((az (bG seg)).length:Int)))):=Mj (λe=>hj e.symm) e4.tag rfl;have d9:=c7.U f3 b7 b9 b8 (λe=>d0 e.symm) (λe=>c' e.symm) (λe=>c9 e.symm);have e1:=c8.U f3 b3 (λe=>c6 e.symm);have i5:=g9.U f3;have g0:=e5.J (f3.mono (λ_ h=>.inl h) b');generalize w4.setCell ⟨rb,3,none⟩ (nI ((m:Int)-((az (bG seg)).length:Int)))=w5 at *;refine zh ?_;apply zc Pq (iy O w5 j rb ({s with pos:=((m:Int)-((az (bG seg)).length:Int)),to:=(m:Int),bg:=((m:Int)-((az (bG seg)).length:Int))}:LS) m (bn seg) hj d3 d4 rfl b1 rfl i3);rintro v w6 ⟨rfl,e8,e9⟩;have a8:=d9.U e9 b7 b9 b8 (λe=>d0 e.symm) (λe=>c' e.symm) (λe=>c9 e.symm);have a9:=e1.U e9 b3 (λe=>c6 e.symm);have f5:=i5.U e9;have c5:=g0.J (e9.mono (λ_ h=>.inl h) b');have j1:=(L3 (l:=bn seg) ak).length_le;refine zh ?_;refine zvH (bP rfl rfl) ?_
  cases d1:((bn seg).takeWhile ak==[108,101,116])with
  |true=>
   have hM:dh kn st seg=Kl kn st (bG seg).length (tG kn ((bn seg).dropWhile ak)):=by unfold dh;rw[am h0,ap d1]
   rw[hM];refine zTH rfl rfl ?_;apply zc call78 (CP B O w6 j jm rb ({s with pos:=(m:Int)-(((bn seg).dropWhile ak).length:Int),to:=(m:Int),bg:=((m:Int)-((az (bG seg)).length:Int))}:LS) m ((bn seg).dropWhile ak) f5 hj b3 c6 d3 d4 rfl he ((L3 _).J b1) rfl g5 a9 e8);rintro u w7 ⟨O7,v7,pos,bad,e,a0,b6,b0,a6⟩;have a5:=c5.J (a0.mono (S':=λk=>k=j\/k=jr\/k=ji\/k=jk\/k=jm) (λ_ h=>by rcases h with h|h;exact .inl h;exact .inr (.inr (.inr (.inr h)))) b');have d8:=a8.U a0 b7 b9 b8 (λh=>by rcases h with h|h;exact d0 h.symm;exact g3 h) (λh=>by rcases h with h|h;exact c' h.symm;exact g' h) (λh=>by rcases h with h|h;exact c9 h.symm;exact e7 h);refine zh ?_
   cases hq:tG kn ((bn seg).dropWhile ak)with
   |ok x=>
    rw[hq]at a6;obtain⟨b5,e0⟩:=a6;exact aK rfl ⟨O7,_,a5,b6,b0,rfl,b5,d8.with rfl rfl rfl rfl rfl,e0⟩
   |bad p e'=>
    rw[hq]at a6;obtain⟨b5,b2,a'⟩:=a6;have d7:=CQ hq;exact aK rfl ⟨O7,_,a5,b6,b0,rfl,b2,b5,by dsimp only;rw[a'];omega⟩
  |false=>
  refine zFH rfl rfl ?_;refine zvH (bP rfl rfl) ?_
  cases e3:((bn seg).takeWhile ak==[105,103,110,111,114,101])with
  |true=>
   apply aM rfl rfl;have hb6d:=e8.drew;have hmem6d:=a8.U (ae (S:=λ_=>False) (λh=>h) O (LY w6).drew) b7 b9 b8 (λh=>h) (λh=>h) (λh=>h);have hmac6d:=a9.U (ae (S:=λ_=>False) (λh=>h) O (LY w6).drew) b3 (λh=>h);have hR6d:=f5.drew;have hUt6d:=c5.drew;apply MQ 8 rfl rfl zk zk
   refine zh ?_;apply Nh
   cases b4:st.hi with
   |true=>
    have hM:dh kn st seg=.bad ((bG seg).length-(bn seg).length) 11:=by unfold dh;rw[am h0,am (by rw[d1];decide),ap e3,ap b4]
    rw[hM];apply zc NB (qL O w6.drew j rb ({s with pos:=(m:Int)-(((bn seg).dropWhile ak).length:Int),to:=(m:Int),bg:=((m:Int)-((az (bG seg)).length:Int))}:LS) hj he (hmem6d.fi.J b4) hb6d);rintro u w7 ⟨b0,a0⟩;refine zh ?_;exact aK rfl ⟨O,_,hUt6d.J (a0.mono (λ_ h=>.inl h) b'),hR6d.U a0,b0,rfl,zd,rfl,by dsimp only;rw[d2];omega⟩
   |false=>
    have hM:dh kn st seg=mC kn (KE st (bG seg).length (dC ((bn seg).dropWhile ak))):=by unfold dh;rw[am h0,am (by rw[d1];decide),ap e3,am (by rw[b4];decide)]
    rw[hM];apply zc NB (uZ B O w6.drew j ji rb ({s with pos:=(m:Int)-(((bn seg).dropWhile ak).length:Int),to:=(m:Int),bg:=((m:Int)-((az (bG seg)).length:Int))}:LS) m ((bn seg).dropWhile ak) hR6d hj b9 c' d3 d4 rfl he (hmem6d.fi.J b4) (hmem6d.ni b4) ((L3 _).J b1) rfl hb6d);rintro u w7 ⟨O7,lv,pos,bad,e,a0,b6,b0,a6⟩;have a5:=hUt6d.J (a0.mono (S':=λk=>k=j\/k=jr\/k=ji\/k=jk\/k=jm) (λ_ h=>by rcases h with h|h;exact .inl h;exact .inr (.inr (.inl h))) b');refine zh ?_
    cases hq:dC ((bn seg).dropWhile ak)with
    |ok l=>
     rw[hq]at a6;obtain⟨b5,a7⟩:=a6;obtain⟨⟨xs,a1,a2,a3,a4⟩,mb,mc,md,me,mf,mg⟩:=hmem6d;exact aK rfl ⟨O7,_,a5,b6,b0,rfl,b5,⟨⟨xs,a1.U a0 b7 (λh=>by rcases h with h|h;exact d0 h.symm;exact h5 h),a2,a3,λi hi=>(a4 i hi).U a0⟩,a7,mc.U a0 b8 (λh=>by rcases h with h|h;exact c9 h.symm;exact h3 h.symm),rfl,me,(λh=>by cases h),mg⟩,hmac6d.U a0 b3 (λh=>by rcases h with h|h;exact c6 h.symm;exact g' h.symm)⟩
    |bad p e'=>
     rw[hq]at a6;obtain⟨b5,b2,a'⟩:=a6;have d7:=nR hq;exact aK rfl ⟨O7,_,a5,b6,b0,rfl,b2,b5,by dsimp only;rw[a'];omega⟩
  |false=>
   refine zFH rfl rfl ?_;refine zvH (bP rfl rfl) ?_
   cases f':((bn seg).takeWhile ak==[107,101,101,112])with
   |true=>
    apply aM rfl rfl;have hb6d:=e8.drew;have hmem6d:=a8.U (ae (S:=λ_=>False) (λh=>h) O (LY w6).drew) b7 b9 b8 (λh=>h) (λh=>h) (λh=>h);have hmac6d:=a9.U (ae (S:=λ_=>False) (λh=>h) O (LY w6).drew) b3 (λh=>h);have hR6d:=f5.drew;have hUt6d:=c5.drew;apply MQ 8 rfl rfl zk zk
    refine zh ?_;apply Nh
    cases b4:st.hk with
    |true=>
     have hM:dh kn st seg=.bad ((bG seg).length-(bn seg).length) 11:=by unfold dh;rw[am h0,am (by rw[d1];decide),am (by rw[e3];decide),ap f',ap b4]
     rw[hM];apply zc NB (qK O w6.drew j rb ({s with pos:=(m:Int)-(((bn seg).dropWhile ak).length:Int),to:=(m:Int),bg:=((m:Int)-((az (bG seg)).length:Int))}:LS) hj he (hmem6d.fk.J b4) hb6d);rintro u w7 ⟨b0,a0⟩;refine zh ?_;exact aK rfl ⟨O,_,hUt6d.J (a0.mono (λ_ h=>.inl h) b'),hR6d.U a0,b0,rfl,zd,rfl,by dsimp only;rw[d2];omega⟩
    |false=>
     have hM:dh kn st seg=mC kn (KD st (bG seg).length (dC ((bn seg).dropWhile ak))):=by unfold dh;rw[am h0,am (by rw[d1];decide),am (by rw[e3];decide),ap f',am (by rw[b4];decide)]
     rw[hM];apply zc NB (uY B O w6.drew j jk rb ({s with pos:=(m:Int)-(((bn seg).dropWhile ak).length:Int),to:=(m:Int),bg:=((m:Int)-((az (bG seg)).length:Int))}:LS) m ((bn seg).dropWhile ak) hR6d hj b8 c9 d3 d4 rfl he (hmem6d.fk.J b4) (hmem6d.nk b4) ((L3 _).J b1) rfl hb6d);rintro u w7 ⟨O7,lv,pos,bad,e,a0,b6,b0,a6⟩;have a5:=hUt6d.J (a0.mono (S':=λk=>k=j\/k=jr\/k=ji\/k=jk\/k=jm) (λ_ h=>by rcases h with h|h;exact .inl h;exact .inr (.inr (.inr (.inl h)))) b');refine zh ?_
     cases hq:dC ((bn seg).dropWhile ak)with
     |ok l=>
      rw[hq]at a6;obtain⟨b5,a7⟩:=a6;obtain⟨⟨xs,a1,a2,a3,a4⟩,mb,mc,md,me,mf,mg⟩:=hmem6d;exact aK rfl ⟨O7,_,a5,b6,b0,rfl,b5,⟨⟨xs,a1.U a0 b7 (λh=>by rcases h with h|h;exact d0 h.symm;exact h4 h),a2,a3,λi hi=>(a4 i hi).U a0⟩,mb.U a0 b9 (λh=>by rcases h with h|h;exact c' h.symm;exact h3 h),a7,md,rfl,mf,(λh=>by cases h)⟩,hmac6d.U a0 b3 (λh=>by rcases h with h|h;exact c6 h.symm;exact e7 h.symm)⟩
     |bad p e'=>
      rw[hq]at a6;obtain⟨b5,b2,a'⟩:=a6;have d7:=nR hq;exact aK rfl ⟨O7,_,a5,b6,b0,rfl,b2,b5,by dsimp only;rw[a'];omega⟩
   |false=>
    have hM:dh kn st seg=mC kn (KC st ((bG seg).length-(bn seg).length) (if st.ts.length=40 then P1 0 3 else iw kn (bn seg))):=by unfold dh;rw[am h0,am (by rw[d1];decide),am (by rw[e3];decide),am (by rw[f'];decide)]
    apply aH rfl rfl;obtain⟨xs,d6,g4,h9,h8⟩:=a8.ru;refine zh ?_
    apply zc call80 (uy B O w6 j jr rb ({s with pos:=(m:Int)-(((bn seg).dropWhile ak).length:Int),to:=(m:Int),bg:=((m:Int)-((az (bG seg)).length:Int))}:LS) m (bn seg) xs f5 hj b7 d0 d3 d4 rfl g6 he b3 c6 g3 a9 b1 d6 h9 e8);rintro v w7 ⟨O7,rv,a0,b6,a6⟩;have a5:=c5.J (a0.mono (S':=λk=>k=j\/k=jr\/k=ji\/k=jk\/k=jm) (λ_ h=>by rcases h with h|h;exact .inl h;exact .inr (.inl h)) b');refine zh ?_
    rw[hM,g4]
    cases hq:(if xs.length=40 then P1 0 3 else iw kn (bn seg))with
    |ok t=>
     rw[hq]at a6;obtain⟨x,a7,g2,b0⟩:=a6;have j5:xs.length≠40:=λe=>by rw[ap e]at hq;cases hq
     obtain⟨_,mb,mc,md,me,mf,mg⟩:=a8;obtain⟨q1,q2,q3,q4⟩:=PB (ts:=st.ts) a7 g4 zo (λi hi=>(h8 i hi).U a0) g2;exact aK rfl ⟨O7,_,a5,b6,b0,rfl,he,⟨⟨xs++[x],q1,q2,q3,q4⟩,mb.U a0 b9 (λh=>by rcases h with h|h;exact c' h.symm;exact h5 h.symm),mc.U a0 b8 (λh=>by rcases h with h|h;exact c9 h.symm;exact h4 h.symm),md,me,mf,mg⟩,a9.U a0 b3 (λh=>by rcases h with h|h;exact c6 h.symm;exact g3 h.symm)⟩
    |bad p e=>
     rw[hq]at a6;obtain⟨b2,b0⟩:=a6;exact aK rfl ⟨O7,_,a5,b6,b0,rfl,b2,rfl,by dsimp only;rw[d2];omega⟩
 |some k=>
  have hi:tH seg 35=(k:Nat):=by unfold tH;rw[hf]
  obtain⟨i2,j7⟩:=Bl hf;rw[hi];have j6:m=fr+k:=by rw[i0,i2];simp;omega
  refine zh ?_;refine zTH rfl ((decide_eq_true zo)) ?_
  apply ao (j:=2) g8 rfl (Mk _) rfl rfl rfl rfl;rw[show(fr:Int)+((k:Nat):Int)=(m:Int)from by omega];have j2:=g8.s_to (m:Int);have h6:Mg (λk=>k=j) O w2 O (w2.setCell ⟨rb,2,none⟩ (nI (m:Int))):=Mj h7 g8.tag rfl;have d':=f7.U h6 b7 b9 b8 (λe=>d0 e.symm) (λe=>c' e.symm) (λe=>c9 e.symm);have e2:=f8.U h6 b3 (λe=>c6 e.symm);have i6:=i8.U h6;have g1:=(e6.J h6).mono (S':=λk=>k=j\/k=jr\/k=ji\/k=jk\/k=jm) (λ_ h=>.inl h) b';generalize w2.setCell ⟨rb,2,none⟩ (nI (m:Int))=w3 at *;refine zh ?_
  apply zc Pa (eB O w3 j rb ({s with pos:=(fr:Int),to:=(m:Int)}:LS) m (bG seg) hj d3 d4 rfl d5 f6 j2);rintro v w4 ⟨rfl,e4,f4⟩;have c7:=d'.U f4 b7 b9 b8 (λe=>d0 e.symm) (λe=>c' e.symm) (λe=>c9 e.symm);have c8:=e2.U f4 b3 (λe=>c6 e.symm);have g9:=i6.U f4;have e5:=g1.J (f4.mono (λ_ h=>.inl h) b');refine zh ?_
  by_cases h0:(bn seg).length=0
  ·have hM:dh kn st seg=.go kn st:=by unfold dh;rw[ap h0]
   rw[hM];refine zTH rfl ((by have d2:(az (bG seg)).length=0:=h0;simp[d2])) ?_;exact cM rfl ⟨O,_,e5,g9,e4,rfl,he,c7.with rfl rfl rfl rfl rfl,c8⟩
  have d2:(az (bG seg)).length=(bn seg).length:=rfl;refine zFH rfl ((by rw[d2,decide_eq_true zo];rfl)) ?_;refine zvH (RV.ld e4.q1 rfl) ?_;apply ao (j:=3) e4 rfl (Mk _) rfl rfl rfl rfl;have i3:=e4.s_bg ((m:Int)-((az (bG seg)).length:Int));have f3:Mg (λk=>k=j) O w4 O (w4.setCell ⟨rb,3,none⟩ (nI ((m:Int)-((az (bG seg)).length:Int)))):=Mj (λe=>hj e.symm) e4.tag rfl;have d9:=c7.U f3 b7 b9 b8 (λe=>d0 e.symm) (λe=>c' e.symm) (λe=>c9 e.symm);have e1:=c8.U f3 b3 (λe=>c6 e.symm);have i5:=g9.U f3;have g0:=e5.J (f3.mono (λ_ h=>.inl h) b');generalize w4.setCell ⟨rb,3,none⟩ (nI ((m:Int)-((az (bG seg)).length:Int)))=w5 at *;refine zh ?_;apply zc Pq (iy O w5 j rb ({s with pos:=((m:Int)-((az (bG seg)).length:Int)),to:=(m:Int),bg:=((m:Int)-((az (bG seg)).length:Int))}:LS) m (bn seg) hj d3 d4 rfl b1 rfl i3);rintro v w6 ⟨rfl,e8,e9⟩;have a8:=d9.U e9 b7 b9 b8 (λe=>d0 e.symm) (λe=>c' e.symm) (λe=>c9 e.symm);have a9:=e1.U e9 b3 (λe=>c6 e.symm);have f5:=i5.U e9;have c5:=g0.J (e9.mono (λ_ h=>.inl h) b');have j1:=(L3 (l:=bn seg) ak).length_le;refine zh ?_;refine zvH (bP rfl rfl) ?_
  cases d1:((bn seg).takeWhile ak==[108,101,116])with
  |true=>
   have hM:dh kn st seg=Kl kn st (bG seg).length (tG kn ((bn seg).dropWhile ak)):=by unfold dh;rw[am h0,ap d1]
   rw[hM];refine zTH rfl rfl ?_;apply zc call78 (CP B O w6 j jm rb ({s with pos:=(m:Int)-(((bn seg).dropWhile ak).length:Int),to:=(m:Int),bg:=((m:Int)-((az (bG seg)).length:Int))}:LS) m ((bn seg).dropWhile ak) f5 hj b3 c6 d3 d4 rfl he ((L3 _).J b1) rfl g5 a9 e8);rintro u w7 ⟨O7,v7,pos,bad,e,a0,b6,b0,a6⟩;have a5:=c5.J (a0.mono (S':=λk=>k=j\/k=jr\/k=ji\/k=jk\/k=jm) (λ_ h=>by rcases h with h|h;exact .inl h;exact .inr (.inr (.inr (.inr h)))) b');have d8:=a8.U a0 b7 b9 b8 (λh=>by rcases h with h|h;exact d0 h.symm;exact g3 h) (λh=>by rcases h with h|h;exact c' h.symm;exact g' h) (λh=>by rcases h with h|h;exact c9 h.symm;exact e7 h);refine zh ?_
   cases hq:tG kn ((bn seg).dropWhile ak)with
   |ok x=>
    rw[hq]at a6;obtain⟨b5,e0⟩:=a6;exact aK rfl ⟨O7,_,a5,b6,b0,rfl,b5,d8.with rfl rfl rfl rfl rfl,e0⟩
   |bad p e'=>
    rw[hq]at a6;obtain⟨b5,b2,a'⟩:=a6;have d7:=CQ hq;exact aK rfl ⟨O7,_,a5,b6,b0,rfl,b2,b5,by dsimp only;rw[a'];omega⟩
  |false=>
  refine zFH rfl rfl ?_;refine zvH (bP rfl rfl) ?_
  cases e3:((bn seg).takeWhile ak==[105,103,110,111,114,101])with
  |true=>
   apply aM rfl rfl;have hb6d:=e8.drew;have hmem6d:=a8.U (ae (S:=λ_=>False) (λh=>h) O (LY w6).drew) b7 b9 b8 (λh=>h) (λh=>h) (λh=>h);have hmac6d:=a9.U (ae (S:=λ_=>False) (λh=>h) O (LY w6).drew) b3 (λh=>h);have hR6d:=f5.drew;have hUt6d:=c5.drew;apply MQ 8 rfl rfl zk zk
   refine zh ?_;apply Nh
   cases b4:st.hi with
   |true=>
    have hM:dh kn st seg=.bad ((bG seg).length-(bn seg).length) 11:=by unfold dh;rw[am h0,am (by rw[d1];decide),ap e3,ap b4]
    rw[hM];apply zc NB (qL O w6.drew j rb ({s with pos:=(m:Int)-(((bn seg).dropWhile ak).length:Int),to:=(m:Int),bg:=((m:Int)-((az (bG seg)).length:Int))}:LS) hj he (hmem6d.fi.J b4) hb6d);rintro u w7 ⟨b0,a0⟩;refine zh ?_;exact aK rfl ⟨O,_,hUt6d.J (a0.mono (λ_ h=>.inl h) b'),hR6d.U a0,b0,rfl,zd,rfl,by dsimp only;rw[d2];omega⟩
   |false=>
    have hM:dh kn st seg=mC kn (KE st (bG seg).length (dC ((bn seg).dropWhile ak))):=by unfold dh;rw[am h0,am (by rw[d1];decide),ap e3,am (by rw[b4];decide)]
    rw[hM];apply zc NB (uZ B O w6.drew j ji rb ({s with pos:=(m:Int)-(((bn seg).dropWhile ak).length:Int),to:=(m:Int),bg:=((m:Int)-((az (bG seg)).length:Int))}:LS) m ((bn seg).dropWhile ak) hR6d hj b9 c' d3 d4 rfl he (hmem6d.fi.J b4) (hmem6d.ni b4) ((L3 _).J b1) rfl hb6d);rintro u w7 ⟨O7,lv,pos,bad,e,a0,b6,b0,a6⟩;have a5:=hUt6d.J (a0.mono (S':=λk=>k=j\/k=jr\/k=ji\/k=jk\/k=jm) (λ_ h=>by rcases h with h|h;exact .inl h;exact .inr (.inr (.inl h))) b');refine zh ?_
    cases hq:dC ((bn seg).dropWhile ak)with
    |ok l=>
     rw[hq]at a6;obtain⟨b5,a7⟩:=a6;obtain⟨⟨xs,a1,a2,a3,a4⟩,mb,mc,md,me,mf,mg⟩:=hmem6d;exact aK rfl ⟨O7,_,a5,b6,b0,rfl,b5,⟨⟨xs,a1.U a0 b7 (λh=>by rcases h with h|h;exact d0 h.symm;exact h5 h),a2,a3,λi hi=>(a4 i hi).U a0⟩,a7,mc.U a0 b8 (λh=>by rcases h with h|h;exact c9 h.symm;exact h3 h.symm),rfl,me,(λh=>by cases h),mg⟩,hmac6d.U a0 b3 (λh=>by rcases h with h|h;exact c6 h.symm;exact g' h.symm)⟩
    |bad p e'=>
     rw[hq]at a6;obtain⟨b5,b2,a'⟩:=a6;have d7:=nR hq;exact aK rfl ⟨O7,_,a5,b6,b0,rfl,b2,b5,by dsimp only;rw[a'];omega⟩
  |false=>
   refine zFH rfl rfl ?_;refine zvH (bP rfl rfl) ?_
   cases f':((bn seg).takeWhile ak==[107,101,101,112])with
   |true=>
    apply aM rfl rfl;have hb6d:=e8.drew;have hmem6d:=a8.U (ae (S:=λ_=>False) (λh=>h) O (LY w6).drew) b7 b9 b8 (λh=>h) (λh=>h) (λh=>h);have hmac6d:=a9.U (ae (S:=λ_=>False) (λh=>h) O (LY w6).drew) b3 (λh=>h);have hR6d:=f5.drew;have hUt6d:=c5.drew;apply MQ 8 rfl rfl zk zk
    refine zh ?_;apply Nh
    cases b4:st.hk with
    |true=>
     have hM:dh kn st seg=.bad ((bG seg).length-(bn seg).length) 11:=by unfold dh;rw[am h0,am (by rw[d1];decide),am (by rw[e3];decide),ap f',ap b4]
     rw[hM];apply zc NB (qK O w6.drew j rb ({s with pos:=(m:Int)-(((bn seg).dropWhile ak).length:Int),to:=(m:Int),bg:=((m:Int)-((az (bG seg)).length:Int))}:LS) hj he (hmem6d.fk.J b4) hb6d);rintro u w7 ⟨b0,a0⟩;refine zh ?_;exact aK rfl ⟨O,_,hUt6d.J (a0.mono (λ_ h=>.inl h) b'),hR6d.U a0,b0,rfl,zd,rfl,by dsimp only;rw[d2];omega⟩
    |false=>
     have hM:dh kn st seg=mC kn (KD st (bG seg).length (dC ((bn seg).dropWhile ak))):=by unfold dh;rw[am h0,am (by rw[d1];decide),am (by rw[e3];decide),ap f',am (by rw[b4];decide)]
     rw[hM];apply zc NB (uY B O w6.drew j jk rb ({s with pos:=(m:Int)-(((bn seg).dropWhile ak).length:Int),to:=(m:Int),bg:=((m:Int)-((az (bG seg)).length:Int))}:LS) m ((bn seg).dropWhile ak) hR6d hj b8 c9 d3 d4 rfl he (hmem6d.fk.J b4) (hmem6d.nk b4) ((L3 _).J b1) rfl hb6d);rintro u w7 ⟨O7,lv,pos,bad,e,a0,b6,b0,a6⟩;have a5:=hUt6d.J (a0.mono (S':=λk=>k=j\/k=jr\/k=ji\/k=jk\/k=jm) (λ_ h=>by rcases h with h|h;exact .inl h;exact .inr (.inr (.inr (.inl h)))) b');refine zh ?_
     cases hq:dC ((bn seg).dropWhile ak)with
     |ok l=>
      rw[hq]at a6;obtain⟨b5,a7⟩:=a6;obtain⟨⟨xs,a1,a2,a3,a4⟩,mb,mc,md,me,mf,mg⟩:=hmem6d;exact aK rfl ⟨O7,_,a5,b6,b0,rfl,b5,⟨⟨xs,a1.U a0 b7 (λh=>by rcases h with h|h;exact d0 h.symm;exact h4 h),a2,a3,λi hi=>(a4 i hi).U a0⟩,mb.U a0 b9 (λh=>by rcases h with h|h;exact c' h.symm;exact h3 h),a7,md,rfl,mf,(λh=>by cases h)⟩,hmac6d.U a0 b3 (λh=>by rcases h with h|h;exact c6 h.symm;exact e7 h.symm)⟩
     |bad p e'=>
      rw[hq]at a6;obtain⟨b5,b2,a'⟩:=a6;have d7:=nR hq;exact aK rfl ⟨O7,_,a5,b6,b0,rfl,b2,b5,by dsimp only;rw[a'];omega⟩
   |false=>
    have hM:dh kn st seg=mC kn (KC st ((bG seg).length-(bn seg).length) (if st.ts.length=40 then P1 0 3 else iw kn (bn seg))):=by unfold dh;rw[am h0,am (by rw[d1];decide),am (by rw[e3];decide),am (by rw[f'];decide)]
    apply aH rfl rfl;obtain⟨xs,d6,g4,h9,h8⟩:=a8.ru;refine zh ?_
    apply zc call80 (uy B O w6 j jr rb ({s with pos:=(m:Int)-(((bn seg).dropWhile ak).length:Int),to:=(m:Int),bg:=((m:Int)-((az (bG seg)).length:Int))}:LS) m (bn seg) xs f5 hj b7 d0 d3 d4 rfl g6 he b3 c6 g3 a9 b1 d6 h9 e8);rintro v w7 ⟨O7,rv,a0,b6,a6⟩;have a5:=c5.J (a0.mono (S':=λk=>k=j\/k=jr\/k=ji\/k=jk\/k=jm) (λ_ h=>by rcases h with h|h;exact .inl h;exact .inr (.inl h)) b');refine zh ?_
    rw[hM,g4]
    cases hq:(if xs.length=40 then P1 0 3 else iw kn (bn seg))with
    |ok t=>
     rw[hq]at a6;obtain⟨x,a7,g2,b0⟩:=a6;have j5:xs.length≠40:=λe=>by rw[ap e]at hq;cases hq
     obtain⟨_,mb,mc,md,me,mf,mg⟩:=a8;obtain⟨q1,q2,q3,q4⟩:=PB (ts:=st.ts) a7 g4 zo (λi hi=>(h8 i hi).U a0) g2;exact aK rfl ⟨O7,_,a5,b6,b0,rfl,he,⟨⟨xs++[x],q1,q2,q3,q4⟩,mb.U a0 b9 (λh=>by rcases h with h|h;exact c' h.symm;exact h5 h.symm),mc.U a0 b8 (λh=>by rcases h with h|h;exact c9 h.symm;exact h4 h.symm),md,me,mf,mg⟩,a9.U a0 b3 (λh=>by rcases h with h|h;exact c6 h.symm;exact g3 h.symm)⟩
    |bad p e=>
     rw[hq]at a6;obtain⟨b2,b0⟩:=a6;exact aK rfl ⟨O7,_,a5,b6,b0,rfl,b2,rfl,by dsimp only;rw[d2];omega⟩
end
inductive TK where
 |ok (st:St)
 |bad (p:Nat) (e:Int)
def mW:Nat->Kn->St->Nat->List UInt8->TK
 |0,_,_,_,_=>.bad 0 3
 |n+1,kn,st,fr,r=>
  match dh kn st (dI r)with
  |.bad p e=>.bad (fr+p) e
  |.go kn' st'=>if(dI r).length=r.length then .ok st' else mW n kn' st' (fr+(dI r).length+1) (r.drop ((dI r).length+1))
def st0:St:=⟨[],[],[],false,false⟩
def iE(l:List UInt8):TK:=if 4096<l.length then .bad 0 3 else mW (l.length+1) [] st0 0 l
def Cp{kn a0:Kn}{st a1:St}{seg:List UInt8}(h:dh kn st seg=.go a0 a1):a0.length<=kn.length+1:=by
 have hl:∀ {R:RS},mC kn R=.go a0 a1->a0.length<=kn.length+1:=fun {R} h=>by
  cases R with
  |go s=>cases h;omega
  |bad p e=>cases h
  |other=>cases h
 unfold dh at h
 split at h
 ·cases h;omega
 split at h
 ·unfold Kl at h
  split at h
  ·cases h;simp
  cases h
 split at h
 ·split at h
  ·cases h
  exact hl h
 split at h
 ·split at h
  ·cases h
  exact hl h
 exact hl h
def LoopK(l:List UInt8)(M:TK)(O:Nat->Nat)(w:ix)(jr ji jk jm:Nat)(n fr:Nat)(kn:Kn)(st:St)(s:LS):Prop:=
 (fr<=l.length/\s.e=0/\l.length-fr<n/\mW n kn st fr (l.drop fr)=M/\Mem O w jr ji jk s st/\Mac O w jm s.mc kn/\kn.length<=fr)\/(fr=l.length+1/\s.e=0/\M=.ok st/\Mem O w jr ji jk s st)\/
 (∃p e,e≠0/\s.e=e/\s.bad=((p:Nat):Int)/\M=.bad p e)
def LoopK.next{l:List UInt8}{M:TK}{jm rb fr:Nat}{kn:Kn}{st:St}{s:LS}(a3:fr<=l.length)(hn:l.length-fr<n+1)(hM:mW (n+1) kn st fr (l.drop fr)=M)(a2:kn.length<=fr) 
  (hP:Kv B O w w' j jr ji jk jm rb s fr (dh kn st (dI (l.drop fr)))) :
  ∃O' s' n' kn' st',Mg (λk=>k=j\/k=jr\/k=ji\/k=jk\/k=jm) O w O' w'/\Nf B O' w'/\Pd O' w' j rb s'/\s'.l=s.l/\n'<n+1/\LoopK l M O' w' jr ji jk jm n' (fr+(dI (l.drop fr)).length+1) kn' st' s':=by
 obtain⟨O',s',hU,hR,hb,e1,hq⟩:=hP;have a0:(dI (l.drop fr)).length<=l.length-fr:=by
  have:=(MN (l:=l.drop fr) (λb=>!(b==10))).length_le;simpa[dI]using this
 have a4:(l.drop fr).length=l.length-fr:=by simp
 unfold mW at hM;refine⟨O',s',?_⟩
 cases hr:dh kn st (dI (l.drop fr))with
 |bad p e=>
  rw[hr]at hq hM;obtain⟨q1,q2,q3⟩:=hq;exact⟨0,kn,st,hU,hR,hb,e1,zo,.inr (.inr ⟨fr+p,e,q1,q2,by rw[q3];simp,hM.symm⟩)⟩
 |go kn' st'=>
  have a1:=Cp hr;rw[hr]at hq hM;dsimp only at hM;obtain⟨q1,q2,q3⟩:=hq
  split at hM
  ·rename_i he;exact⟨0,kn',st',hU,hR,hb,e1,zo,.inr (.inl ⟨zo,q1,hM.symm,q2⟩)⟩
  rename_i he;exact⟨n,kn',st',hU,hR,hb,e1,zo,.inl ⟨zo,q1,zo,by rw[<-hM,NA,Nat.add_assoc],q2,q3,zo⟩⟩
def Kr(w:ix)(v:ln):TK->Prop
 |.ok st=>∃tv,v=.tuple #[tv,nI 0,nI 0]/\Tx w tv st.li st.lk st.ts
 |.bad p e=>v=.tuple #[D4 tF tF tF,nI (p:Int),nI e]/\e≠0
def Mem.tx{s:LS}{st:St}(h:Mem O w jr ji jk s st):Tx w (D4 s.ig s.kp s.ru) st.li st.lk st.ts:=by
 obtain⟨xs,a1,a2,a3,a4⟩:=h.ru;exact⟨s.ig,s.kp,s.ru,xs,rfl,h.ig.sl,h.kp.sl,a1.sl,a2,λi hi=>(a4 i hi).weak λ_ _=>rfl⟩
def xC(l:List UInt8)(B:Nat)(O:Nat->Nat)(w:ix)(hR:Nf B O w)(g0:l.length<=1000000000):MX Mc 21 [.string (bs l)] w λv w'=>MZ w w'/\Kr w' v (iE l):=by
 obtain⟨T,g3,hT⟩:=hR.bound;have a6:¬(λq:Nat=>T<=q) 0:=λe=>by omega
 have c6:∀b,¬T<=O b:=λb=>by have:=hT b;omega
 apply L0 func21 ntmps21 rfl rfl;refine zg ?_
 apply aw hR T zo (N4 _) rfl;intro xb w1 O1 b8 f6 f8 g5;have b6:=f6.mono (λ_ h=>Ms h.symm) a6;refine zg ?_
 refine zvG (bS LZ rfl) ?_
 by_cases hl:4096<l.length
 ·have hM:iE l=.bad 0 3:=by unfold iE;rw[ap hl]
  rw[hM];apply zTG rfl ((decide_eq_true zo));apply zv (aI KM (N4 _) rfl (by first|rfl|(simp only[Mw,MJ];rfl)) rfl rfl);apply zsa (us:=(#[nS,nS,nS]:Array ln)) b8 (MH _);have a7:=b8.setRow (us:=(#[nS,nS,nS]:Array ln));have a4:Mg (λk=>k=T) O1 w1 O1 (w1.setRow xb (#[nS,nS,nS]:Array ln)):=Ma zo b8.tag rfl;refine zg ?_;refine cH rfl rfl rfl rfl a7.V (NL _) (MH _) ⟨aP (b6.J (a4.mono (λ_ h=>Ms h.symm) a6)) c6,rfl,by decide⟩
 have f9:iE l=mW (l.length+1) [] st0 0 l:=by unfold iE;rw[am hl]
 apply zFG rfl ((decide_eq_false zo));apply zv (aI KZ (zeroValue111 _) rfl (by first|rfl|(simp only[Mw,MJ];rfl)) rfl rfl)
 apply zv (Nm (vs:=[(0,.agg #[.string (bs l),nI 0,nI 0,nI 0,nI 0,nI 0])]) (cells:=(⟨l,0,0,0,0,0,nS,nS,nS,nS,false,false⟩:LS).cells) KY (zeroValue114 _) rfl zk);apply aQ f8 (T+1) zo rfl rfl
 intro rb w2 O2 d2 e5 f7 g4;have f5:Pd O2 w2 (T+1) rb ⟨l,0,0,0,0,0,nS,nS,nS,nS,false,false⟩:=d2;refine zg ?_;apply zlp (λy:Nat×Nat×Kn×St×(Nat->Nat)×World×LS=>[(0,.string (bs l)),(2,nP xb),(5,nP rb),(6,nI (y.2.1:Nat))]) (λy=>y.2.2.2.2.2.1) (λy=>My y.2.2.2.2.1 y.2.2.2.2.2.1 T xb (#[nS,nS,nS]:Array ln) 56/\Pd y.2.2.2.2.1 y.2.2.2.2.2.1 (T+1) rb y.2.2.2.2.2.2/\y.2.2.2.2.2.2.l=l/\Mg (λq=>T<=q) O w y.2.2.2.2.1 y.2.2.2.2.2.1/\Nf B y.2.2.2.2.1 y.2.2.2.2.2.1/\y.2.1<=10000000/\LoopK l (iE l) y.2.2.2.2.1 y.2.2.2.2.2.1 (T+2) (T+3) (T+4) (T+5) y.1 y.2.1 y.2.2.1 y.2.2.2.1 y.2.2.2.2.2.2) (λy=>y.1) (l.length+1,0,[],st0,O2,w2,⟨l,0,0,0,0,0,nS,nS,nS,nS,false,false⟩) ⟨b8.U e5 zo zo,f5,rfl,b6.J (e5.mono (λ_ h=>by rw[h];omega) a6),f7,by dsimp only;omega,.inl ⟨by dsimp only;omega,rfl,by dsimp only;omega,by rw[f9];rfl,⟨⟨[],Nj _ _ _ _ _ _,rfl,by simp,λi hi=>absurd hi (by simp)⟩,Nj _ _ _ _ _ _,Nj _ _ _ _ _ _,rfl,rfl,λ_=>rfl,λ_=>rfl⟩,Mac.nil _ _ _,L1 _⟩⟩;rintro⟨n,fr,kn,st,O1,w3,s⟩ ⟨a2,a3,a5,a1,d8,f4,e6⟩;dsimp only at a2 a3 a5 a1 d8 f4 e6 ⊢
 rcases e6 with⟨c5,he,e1,b1,a0,b4,e3⟩|⟨c5,he,b1,a0⟩|⟨p,e,b9,d0,a',b1⟩
 ·obtain⟨n,rfl⟩:∃m,n=m+1:=⟨n-1,by omega⟩
  have g2:(dI (l.drop fr)).length<=l.length-fr:=by
   have:=(MN (l:=l.drop fr) (λb=>!(b==10))).length_le;simpa[dI]using this
  have q5:=a3.q5;rw[he]at q5;refine zg ?_;refine zvG (bS LZ rfl) ?_;apply ay (d:=21) rfl (b':=true) ((decide_eq_true zo));refine zg ?_;refine zvG (RV.ld q5 rfl) ?_;apply zTG rfl rfl;refine zvG (bS LZ rfl) ?_;apply zv (kD LZ rfl rfl fr rfl c5);apply zc call44 (ef (l.drop fr) 10 w3);rintro v w9 ⟨rfl,e0⟩;rw[e0];clear e0 w9
  cases hf:(l.drop fr).findIdx? (· == 10)with
  |none=>
   have hi:tH (l.drop fr) 10 = -1:=by unfold tH;rw[hf]
   have e2:=congrArg ME (AW hf);rw[Pj]at e2;rw[hi,show((l.length:Nat):Int)=((fr+(dI (l.drop fr)).length:Nat):Int)from by omega];refine zg ?_;apply zFG rfl rfl;apply zc call45 (uE B O1 w3 (T+1) (T+2) (T+3) (T+4) (T+5) rb s fr (fr+(dI (l.drop fr)).length) (dI (l.drop fr)) st d8 zo zo zo zo zo zo zo zo zo zo zo zo zo zo zo zo zo (by rw[a5];omega) (by rw[a5];omega) he (by rw[a5];exact vf l fr) a0 b4 a3);rintro v w4 d9;obtain⟨O4,s4,n4,c8,c7,b7,d7,d1,g1,a9,d'⟩:=LoopK.next c5 e1 b1 e3 d9;have c9:=Mh a2 b7 zo zo;have b0:=a1.J (b7.mono (λ_ h=>by rcases h with h|h|h|h|h<;>rw[h]<;>omega) a6);refine zg ?_;refine zvG (Nk rfl rfl (N6 zo)) ?_;refine zx (n4,fr+(dI (l.drop fr)).length+1,c8,c7,O4,w4,s4) ⟨c9,d1,g1.J a5,b0,d7,by dsimp only;omega,d'⟩ a9
  |some k=>
   have hi:tH (l.drop fr) 10=(k:Nat):=by unfold tH;rw[hf]
   have e2:=AV hf;rw[hi];refine zg ?_;apply zTG rfl ((decide_eq_true zo));refine zvG (Nk rfl rfl (N6 zo)) ?_;rw[show(fr:Int)+((k:Nat):Int)=((fr+(dI (l.drop fr)).length:Nat):Int)from by omega];apply zc call45 (uE B O1 w3 (T+1) (T+2) (T+3) (T+4) (T+5) rb s fr (fr+(dI (l.drop fr)).length) (dI (l.drop fr)) st d8 zo zo zo zo zo zo zo zo zo zo zo zo zo zo zo zo zo (by rw[a5];omega) (by rw[a5];omega) he (by rw[a5];exact vf l fr) a0 b4 a3);rintro v w4 d9;obtain⟨O4,s4,n4,c8,c7,b7,d7,d1,g1,a9,d'⟩:=LoopK.next c5 e1 b1 e3 d9;have c9:=Mh a2 b7 zo zo;have b0:=a1.J (b7.mono (λ_ h=>by rcases h with h|h|h|h|h<;>rw[h]<;>omega) a6);refine zg ?_;refine zvG (Nk rfl rfl (N6 zo)) ?_;refine zx (n4,fr+(dI (l.drop fr)).length+1,c8,c7,O4,w4,s4) ⟨c9,d1,g1.J a5,b0,d7,by dsimp only;omega,d'⟩ a9
 ·have q5:=a3.q5;rw[he]at q5;refine zg ?_;refine zvG (bS LZ rfl) ?_;apply ay (d:=21) rfl (b':=false) ((decide_eq_false zo));rw[b1];have f':=a0.tx;obtain⟨xs,e8,_,_,_⟩:=a0.ru;refine zg ?_;apply zFG rfl rfl;refine zvG (RV.ld q5 rfl) ?_;apply zFG rfl rfl;apply zv (ai (us:=[s.ig,s.kp,s.ru]) (BG a3.q6 a3.q7 a3.q8) (NL _) (MH _) rfl);apply zsb (us:=#[s.ig,s.kp,s.ru]) a2 (MH _) (by simp only[Mw,a0.ig.one,a0.kp.one,e8.one];rfl);have a7:=a2.setRow (us:=#[s.ig,s.kp,s.ru]);have a4:Mg (λk=>k=T) O1 w3 O1 (w3.setRow xb #[s.ig,s.kp,s.ru]):=Ma zo a2.tag rfl;refine zg ?_;refine cH rfl rfl rfl rfl a7.V (NL _) (MH _) ⟨aP (a1.J (a4.mono (λ_ h=>Ms h.symm) a6)) c6,_,rfl,(a0.U a4 zo zo zo zo zo zo).tx⟩
 rw[b1];have q5:=a3.q5;rw[d0]at q5;have q4:=a3.q4;rw[a']at q4;have c':((e==0):Bool)=false:=by simpa using b9
 have b2:((e != 0):Bool)=true:=by simpa using b9
 cases e4:decide ((fr:Int)<=(l.length:Int))with
 |false=>
  refine zg ?_;refine zvG (bS LZ rfl) ?_
  apply ay (d:=21) rfl (b':=false) e4;refine zg ?_
  apply zFG rfl rfl;refine zvG (RV.ld q5 rfl) ?_
  apply aM rfl b2;have d4:w3.drew.cell? ⟨rb,4,none⟩=some (nI (p:Nat)):=q4;have d5:w3.drew.cell? ⟨rb,5,none⟩=some (nI e):=q5;refine zg ?_
  apply aO (λW=>W.cell? ⟨rb,4,none⟩=some (nI (p:Nat))/\W.cell? ⟨rb,5,none⟩=some (nI e)) 14 rfl zk;refine zin ⟨d4,d5⟩ λzS=>?_
  apply zr 0 rfl zS (λ_=>aI KM (N4 _) rfl (by first|rfl|(simp only[Mw,MJ];rfl)) rfl rfl);apply zrm 1 rfl zS rfl
  apply zr 2 rfl zS (λ_=>aq rfl);apply zrf 3 rfl zS rfl
  apply zrf 4 rfl zS rfl;apply zt 5 rfl zS (λw1 a8=>RV.ld a8.1 rfl)
  apply zrm 6 rfl zS rfl;apply zr 7 rfl zS (λ_=>aq rfl)
  apply zrf 8 rfl zS rfl;apply zrf 9 rfl zS rfl
  apply zt 10 rfl zS (λw1 a8=>RV.ld a8.2 rfl);apply M5 11 zk rfl
  apply zsa (us:=#[nS,nS,nS]) a2.drew (MH _);have a7:=N0 (us:=#[nS,nS,nS]) a2.drew;have a4:Mg (λk=>k=T) O1 w3.drew O1 (w3.drew.setRow xb #[nS,nS,nS]):=Ma zo a2.tag rfl;have b5:=(Nc a3).U a4 zo zo;have z5:=b5.q5;rw[d0]at z5;have z4:=b5.q4;rw[a']at z4;refine zg ?_
  refine zaf ⟨z4,z5⟩ λzS=>?_
  apply zra 12 rfl zS rfl;apply zra 13 rfl zS rfl
  apply Md zk;refine zg ?_
  refine cH rfl rfl rfl rfl a7.V (NL _) (MH _) ⟨aP ((a1.drew).J (a4.mono (λ_ h=>Ms h.symm) a6)) c6,rfl,b9⟩
 |true=>
  refine zg ?_;refine zvG (bS LZ rfl) ?_
  apply ay (d:=21) rfl (b':=true) e4;refine zg ?_
  refine zvG (RV.ld q5 rfl) ?_;apply zFG rfl c'
  refine zvG (RV.ld q5 rfl) ?_;apply aM rfl b2
  have d4:w3.drew.cell? ⟨rb,4,none⟩=some (nI (p:Nat)):=q4;have d5:w3.drew.cell? ⟨rb,5,none⟩=some (nI e):=q5;refine zg ?_;apply aO (λW=>W.cell? ⟨rb,4,none⟩=some (nI (p:Nat))/\W.cell? ⟨rb,5,none⟩=some (nI e)) 14 rfl zk;refine zin ⟨d4,d5⟩ λzS=>?_
  apply zr 0 rfl zS (λ_=>aI KM (N4 _) rfl (by first|rfl|(simp only[Mw,MJ];rfl)) rfl rfl);apply zrm 1 rfl zS rfl
  apply zr 2 rfl zS (λ_=>aq rfl);apply zrf 3 rfl zS rfl
  apply zrf 4 rfl zS rfl;apply zt 5 rfl zS (λw1 a8=>RV.ld a8.1 rfl)
  apply zrm 6 rfl zS rfl;apply zr 7 rfl zS (λ_=>aq rfl)
  apply zrf 8 rfl zS rfl;apply zrf 9 rfl zS rfl
  apply zt 10 rfl zS (λw1 a8=>RV.ld a8.2 rfl);apply M5 11 zk rfl
  apply zsa (us:=#[nS,nS,nS]) a2.drew (MH _);have a7:=N0 (us:=#[nS,nS,nS]) a2.drew;have a4:Mg (λk=>k=T) O1 w3.drew O1 (w3.drew.setRow xb #[nS,nS,nS]):=Ma zo a2.tag rfl;have b5:=(Nc a3).U a4 zo zo;have z5:=b5.q5;rw[d0]at z5;have z4:=b5.q4;rw[a']at z4;refine zg ?_
  refine zaf ⟨z4,z5⟩ λzS=>?_
  apply zra 12 rfl zS rfl;apply zra 13 rfl zS rfl
  apply Md zk;refine zg ?_
  refine cH rfl rfl rfl rfl a7.V (NL _) (MH _) ⟨aP ((a1.drew).J (a4.mono (λ_ h=>Ms h.symm) a6)) c6,rfl,b9⟩
def RulesO(O:Nat->Nat)(w:ix)(rv:ln)(ts:List R3):Prop:=∃zs,Sl cL 7 w rv zs/\Ni O w rv/\ts.length=zs.length/\∀i,i<zs.length->Rt O w (nth ts i) (nth zs i)
def RulesO.U{S:Nat->Prop}{O O':Nat->Nat}{w w':ix}{rv:ln}{ts:List R3}(h:RulesO O w rv ts)(u:Mg S O w O' w'):RulesO O' w' rv ts:=by
 obtain⟨zs,h1,h2,h3,h4⟩:=h;exact⟨zs,h1.U h2 u,h2.U u,h3,λi hi=>(h4 i hi).U u⟩
def RulesO.one{O:Nat->Nat}{w:ix}{rv:ln}{ts:List R3}(h:RulesO O w rv ts):rv.oneCell'=true:=by
 obtain⟨zs,h1,_⟩:=h;exact h1.one
def qD(q:Int):∀(n:Nat) (t:Nd),nsz t<=n->∀(x:N3) (w:ix),Nt (λ_=>0) w t x->MX Mc 148 [nv x,nI q] w λv w'=>v=.bool (Bx q t)/\MZ w w'
 |0,t,hn=>by have:=dy t;omega
 |n+1,.mk k c kids,hn=>by
  intro x w h;have a7:=h.ones;obtain⟨xs,hs,hf,hl,hk⟩:=h.kids;simp only[Pk]at hl hk;simp only[nsz]at hn;have hM:Bx q (.mk k c kids)=((k==q)||Fc q kids):=rfl;rw[hM];generalize x.2.2=sv at *;subst a7;simp only[NY,Pg];have a':=hs.len_le;apply L0 func148 ntmps148 rfl rfl;refine zh ?_;apply aQ (aA w) 1 zo rfl rfl;intro xb w1 O1 a4 b1 b2 a2;have c0:w1.cell? (nA xb 0)=some (nI k):=a4.cell 0 rfl;have c2:w1.cell? (nA xb 2)=some sv:=a4.cell 2 rfl;refine zh ?_;apply zlp (λy:Nat×ix=>[(1,nI q),(2,nP xb),(5,nI y.1)]) (λy=>y.2) (λy=>y.1<=xs.length/\MZ w1 y.2/\∀i,i<y.1->Bx q (nth kids i)=false) (λy=>xs.length-y.1) (0,w1) ⟨L1 _,LY _,λi hi=>absurd hi (L5 i)⟩;rintro⟨i,w2⟩ ⟨hi,a0,a3⟩;dsimp only at hi a0 a3 ⊢;have a8:=(hs.ext a2).ext a0;have d0:=a0.cell c0;have d2:=a0.cell c2;refine zh ?_;refine zC ?_ ?_
  ·intro a1;replace a1:i<xs.length:=dT a1;have b0:=bQ kids i zo;refine zh ?_;refine zvH (ai (us:=bu (nth xs i)) (λj u hu=>a8.cell a1 hu) (MI _) (Mx _) rfl) ?_;apply zc call148 (qD q n (nth kids i) zo (nth xs i) w2 ((hk i a1).ext (a2.J a0)));rintro v w3 ⟨rfl,a6⟩;refine zh ?_;refine zC ?_ ?_
   ·intro hy;have hL:Fc q kids=true:=by rw[<-sV];exact eK.2 ⟨i,zo,hy⟩
    refine zh ?_;refine ah rfl rfl ⟨by rw[hL,Bool.or_true],(a2.J a0).J a6⟩
   intro hy;refine zh ?_;refine zxd (i+1,w3) ⟨a1,a0.J a6,λj hj=>(L4.1 hj).elim (a3 j) (λe=>by rw[e];exact hy)⟩
  intro a5;replace a5:xs.length<=i:=dF a5;have hL:Fc q kids=false:=by rw[<-sV];exact bM.2 λj hj=>a3 j zo
  refine zh ?_;refine ah rfl rfl ⟨by rw[hL,Bool.or_false],a2.J a0⟩
def jN:∀(n:Nat),n<=1000000->∀(t:Nd),nsz t<=n->(∃wi,bV t wi=true)->∀(x:N3) (w:ix),Nt (λ_=>0) w t x->MX Mc 147 [nv x] w λv w'=>v=nI (cD t)/\MZ w w'
 |0,_,t,hn,_=>by have:=dy t;omega
 |n+1,hn6,.mk k c kids,hn,⟨wi,hfit⟩=>by
  intro x w h;have b2:=h.ones;obtain⟨xs,hs,hf,hl,hk⟩:=h.kids;simp only[Pk]at hl hk;simp only[nsz]at hn;simp only[bV,L7]at hfit;obtain⟨a7,a6⟩:=hfit;have d4:=dM a7;have hM:cD (.mk k c kids)=if k=6\/k=7 then -1 else if k=9 then 0 else if k=4\/k=5\/k=8 then cW (k==4) 0 kids else 1:=rfl
  generalize x.2.2=sv at *;subst b2;simp only[NY,Pg];have b9:=hs.len_le;have d1:=eQ kids;apply L0 func147 ntmps147 rfl rfl;refine zh ?_;apply aQ (aA w) 1 zo rfl rfl;intro xb w1 O1 b0 d5 d6 a4;have c0:w1.cell? (nA xb 0)=some (nI k):=b0.cell 0 rfl;have c2:w1.cell? (nA xb 2)=some sv:=b0.cell 2 rfl;refine zh ?_;refine cx (λw1=>_=w1) ((k==7)) 3 rfl rfl rfl rfl rfl rfl ?_ ?_
  ·intro a1;refine zh ?_;refine nE 10 4 rfl a1
  rintro _ rfl;refine zh ?_;refine zC ?_ ?_
  ·intro hc;simp only[Mv,beq_iff_eq]at hc;refine zh ?_;refine ah rfl rfl ⟨by rw[hM,ap hc],a4⟩
  intro hc;simp only[N9,beq_eq_false_iff_ne]at hc;refine zh ?_;refine zC ?_ ?_
  ·intro a8;replace a8:=of_decide_eq_true a8;refine zh ?_;refine ah rfl rfl ⟨by rw[hM,am zo,am zo,am zo],a4⟩
  intro a8;replace a8:=of_decide_eq_false a8;have c6:cD (.mk k c kids)=cW (k==4) 0 kids:=by
   rw[hM,am zo]
   by_cases h9:k=9
   ·obtain rfl:kids=[]:=M6 zo;rw[ap h9];rfl
   rw[am h9,ap zo]
  rw[c6];refine zh ?_;apply zlp (λy:Nat×Int×Int×ix=>[(1,nP xb),(3,nI y.2.1),(4,nI y.2.2.1),(5,nI y.1)]) (λy=>y.2.2.2) (λy=>y.1<=xs.length/\0<=y.2.1/\y.2.1<=dP (kids.take y.1)/\0<=y.2.2.1/\y.2.2.1<=dP (kids.take y.1)/\cW true y.2.1 (kids.drop y.1)=cW true 0 kids/\cW false y.2.2.1 (kids.drop y.1)=cW false 0 kids/\MZ w1 y.2.2.2) (λy=>xs.length-y.1) (0,0,0,w1) ⟨L1 _,PF _,by simp[dP],PF _,by simp[dP],rfl,rfl,LY _⟩;rintro⟨i,su,mo,w2⟩ ⟨hi,b6,b3,b8,b7,a0,a2,a3⟩;dsimp only at hi b6 b3 b8 b7 a0 a2 a3 ⊢;have b4:=(hs.ext a4).ext a3;have d0:=a3.cell c0;have d2:=a3.cell c2;refine zh ?_;refine zC ?_ ?_
  ·intro a5;replace a5:i<xs.length:=dT a5;have c':=bQ kids i zo;have c8:=ee kids i zo;have c7:=cP kids (i+1);have c9:=lx (nth kids i);have b':bV (nth kids i) true=true:=pd kids a6 _ (by rw[aD zo];exact Nn _);rw[kA zo]at a0 a2;have hu:∀s a9,cW s a9 (nth kids i::kids.drop (i+1))=if cD (nth kids i)<0 then -1 else cW s (if s=true then a9+cD (nth kids i)else max a9 (cD (nth kids i))) (kids.drop (i+1)):=λs a9=>rfl
   rw[hu]at a0 a2;refine zh ?_;apply zv (ai (us:=bu (nth xs i)) (λj u hu=>b4.cell a5 hu) (MI _) (Mx _) rfl);apply zc call147 (jN n zo (nth kids i) zo ⟨true,b'⟩ (nth xs i) w2 ((hk i a5).ext (a4.J a3)));rintro v w3 ⟨rfl,b1⟩;refine zh ?_;refine zC ?_ ?_
   ·intro hy;replace hy:=of_decide_eq_true hy;rw[ap hy]at a0 a2;have a':cW (k==4) 0 kids = -1:=by
     cases d3:(k==4)with
     |false=>exact a2.symm
     |true=>exact a0.symm
    refine zh ?_;refine ah rfl rfl ⟨by rw[a'],(a4.J a3).J b1⟩
   intro hy;replace hy:=of_decide_eq_false hy;rw[am hy]at a0 a2;refine zh ?_;refine zvH (jd rfl rfl) ?_;refine zxd (i+1,su+cD (nth kids i),max mo (cD (nth kids i)),w3) ⟨a5,by dsimp only;omega,by dsimp only;omega,by dsimp only;omega,by dsimp only;omega,a0,a2,a3.J b1⟩
  intro c5;obtain rfl:i=xs.length:=dF c5;rw[N5 zo]at a0 a2;refine zh ?_;refine zC ?_ ?_
  ·intro h4;refine zh ?_;refine ah rfl rfl ⟨by rw[h4,<-a0];rfl,a4.J a3⟩
  intro h4;refine zh ?_;refine ah rfl rfl ⟨by rw[h4,<-a2];rfl,a4.J a3⟩
def uB(t:Nd)(x:N3)(w:ix)(h:Nt (λ_=>0) w t x)(hr:bz t=true):MX Mc 107 [nv x] w λv w'=>v=nI (du t)/\MZ w w':=by
 have hx:=h.ones;have a4:=hr;simp only[bz,L7,decide_eq_true_eq]at hr;apply L0 func107 ntmps107 rfl rfl;refine zh ?_;apply aQ (aA w) 1 zo rfl rfl;intro xb w1 O1 a6 a9 a' a3;have a5:∀W,MZ w1 W->∀(j:Nat) (u:ln),(bu x)[j]? = some u->W.cell? (nA xb j)=some u:=λW hE j u hu=>hE.cell (a6.V j u hu)
 refine zh ?_;apply zv (ai (us:=bu x) (a5 w1 (LY _)) (MI _) (Mx _) rfl)
 apply zc call147 (jN 2000 zd t hr.1 ⟨false,hr.2⟩ x w1 (h.ext a3));rintro v w2 ⟨rfl,a2⟩;refine zh ?_
 apply zv (ai (us:=bu x) (a5 w2 a2) (MI _) (Mx _) rfl);apply zc call148 (qD 3 (nsz t) t (L6 _) x w2 (h.ext (a3.J a2)))
 rintro v w3 ⟨rfl,a8⟩;have a0:=(a3.J a2).J a8;refine zh ?_;refine zC ?_ ?_
 ·intro h1;refine zh ?_;refine ah rfl rfl ⟨by unfold du;rw[a4,h1];rfl,a0⟩
 intro h1;have a7:du t=if(decide (cD t<0)||decide (4<cD t))=true then 8 else 0:=by
  unfold du uX uW;rw[a4,h1,am zd,ap rfl]
  by_cases h0:cD t<0
  ·rw[decide_eq_true h0,decide_eq_false (show¬(0:Int)<=cD t by omega)];rfl
  rw[decide_eq_false h0,decide_eq_true (show(0:Int)<=cD t by omega),show max (cD t) 0=cD t by omega];rfl
 rw[a7];refine zh ?_;refine cx (λw1=>_=w1) (decide (4<cD t)) 2 rfl rfl rfl rfl rfl rfl ?_ ?_
 ·intro a1;refine zh ?_;refine nE 12 3 rfl a1
 rintro _ rfl;refine zh ?_;refine zC ?_ ?_
 ·intro h2;refine zh ?_;refine ah rfl rfl ⟨by rw[ap h2],a0⟩
 intro h2;refine zh ?_;refine ah rfl rfl ⟨by rw[am (by rw[h2];decide)],a0⟩
def K5{k:Int}{kids:List Nd}(h:(k<0\/9<k)\/(k=9/\wi=true)):bV (.mk k c kids) wi=false:=by
 cases hq:bV (.mk k c kids) wi with
 |false=>rfl
 |true=>
  simp only[bV,L7]at hq;have hc:=dM hq.1
  rcases h with h|⟨rfl,rfl⟩
  ·omega
  simp at hc
def Kb{k:Int}{kids:List Nd}(hk:k=0\/k=2):bV (.mk k c kids) wi=(((((kids.length:Nat):Int)==0)&&decide (0<=c))&&decide (c<=35)):=by
 rw[MT]
 cases kids with
 |nil=>rcases hk with rfl|rfl<;>simp[bV,eS,fF,least,fN,named]<;>omega
 |cons a r=>
  constructor
  ·intro h;simp only[bV,L7]at h;have hc:=dM h.1;simp only[Mz]at hc;omega
  intro h;simp at h;omega
def I7{k:Int}{kids:List Nd}(hk:(k=1\/k=3)\/(k=9/\wi=false)):bV (.mk k c kids) wi=((((kids.length:Nat):Int)==0)&&(c==0)):=by
 rw[MT]
 cases kids with
 |nil=>rcases hk with(rfl|rfl)|⟨rfl,rfl⟩<;>simp[bV,eS,fF,least,fN,named]
 |cons a r=>
  constructor
  ·intro h;simp only[bV,L7]at h;have hc:=dM h.1;simp only[Mz]at hc;omega
  intro h;simp at h;omega
def Ka{k:Int}{kids:List Nd}(hk:k=4\/k=5)(h:kids.length<2):bV (.mk k c kids) wi=false:=by
 cases hq:bV (.mk k c kids) wi with
 |false=>rfl
 |true=>
  simp only[bV,L7]at hq;have hc:=dM hq.1;omega
def I6{k:Int}{kids:List Nd}(hk:k=6\/k=7\/k=8)(h:kids.length≠1):bV (.mk k c kids) wi=false:=by
 cases hq:bV (.mk k c kids) wi with
 |false=>rfl
 |true=>
  simp only[bV,L7]at hq;have hc:=dM hq.1;omega
def Dm{k:Int}{kids:List Nd}(hk:((k=4\/k=5)/\2<=kids.length)\/((k=6\/k=7\/k=8)/\kids.length=1))(hn:kids.length<=2000)(hf:eS kids=true):bV (.mk k c kids) wi=(c==0):=by
 have hF:bV (.mk k c kids) wi=(fF k c kids.length wi&&eS kids):=rfl;rw[hF,hf,Bool.and_true,MT];generalize kids.length=m at *
 rcases hk with⟨rfl|rfl,h⟩|⟨rfl|rfl|rfl,rfl⟩<;>simp[fF,least,fN,named]<;>omega
def Dl{k:Int}{kids:List Nd}(hi:i<kids.length)(hy:bV (nth kids i) true=false):bV (.mk k c kids) wi=false:=by
 have a0:eS kids=false:=by
  cases hq:eS kids with
  |false=>rfl
  |true=>exact absurd (pd kids hq (nth kids i) (by rw[aD hi];exact Nn _)) (by rw[hy];decide)
 have hF:bV (.mk k c kids) wi=(fF k c kids.length wi&&eS kids):=rfl;rw[hF,a0,Na]
def dt:∀(n:Nat),n<=2000->∀(t:Nd),nsz t<=n->∀(x:N3) (w:ix) (wi:Bool),Nt (λ_=>0) w t x->MX Mc 260 [nv x,.bool wi] w λv w'=>v=.bool (bV t wi)/\MZ w w'
 |0,_,t,hn=>by have:=dy t;omega
 |n+1,hn2,.mk k c kids,hn=>by
  intro x w wi h;have c5:=h.ones;have b9:=h;obtain⟨xs,hs,hf,hl,hk⟩:=h.kids;simp only[Pk]at hl hk;have d1:nsz (.mk k c kids)<=2000:=zo;simp only[nsz]at hn;have d2:=eQ kids;have b0:kids.length<=2000:=zo;generalize c':x.2.2=sv at *;subst c5;simp only[NY,Pg];simp only[NY,Pg]at b9;have c6:=hs.len_le;apply L0 func260 ntmps260 rfl rfl;refine zh ?_;apply aQ (aA w) 1 zo rfl rfl;intro xb w1 O1 b7 d4 d5 a7;have c9:∀W,MZ w1 W->∀(j:Nat) (u:ln),(bu (k,c,sv))[j]? = some u->W.cell? (nA xb j)=some u:=λW hE j u hu=>hE.cell (b7.V j u hu)
  have c0:∀W,MZ w1 W->W.cell? (nA xb 0)=some (nI k):=λW hE=>hE.cell (b7.cell 0 rfl)
  have c1:∀W,MZ w1 W->W.cell? (nA xb 1)=some (nI c):=λW hE=>hE.cell (b7.cell 1 rfl)
  have c2:∀W,MZ w1 W->W.cell? (nA xb 2)=some sv:=λW hE=>hE.cell (b7.cell 2 rfl)
  refine zh ?_;refine aU (MZ w1) false 3 (LY w1) rfl rfl rfl rfl rfl ?_ ?_
  ·intro a1;refine zh ?_;refine zvH (ai (us:=bu (k,c,sv)) (c9 _ (LY _)) (MI _) (Mx _) rfl) ?_;apply zc call146 (oC (nsz (.mk k c kids)) (.mk k c kids) (L6 _) (k,c,sv) w1 2000 (b9.ext a7) zd);rintro v w2 ⟨rfl,a8⟩;rw[show min (nsz (.mk k c kids)) (2000+1)=nsz (.mk k c kids)from by omega];refine zh ?_;rw[decide_eq_false (show¬((2000:Int)<((nsz (.mk k c kids):Nat):Int))from by omega)];refine zh ?_;refine nE 9 4 a8 a1
  intro w2 a8;refine zh ?_;refine cx (λw1=>_=w1) (decide (k<0)) 3 rfl rfl rfl rfl rfl rfl ?_ ?_
  ·intro a2;refine zh ?_;refine zvH (RV.ld (c0 _ a8) rfl) ?_;refine nE 14 4 rfl a2
  rintro _ rfl;refine zh ?_;refine cx (λw1=>_=w1) (decide (9<k)) 3 rfl rfl rfl rfl rfl rfl ?_ ?_
  ·intro a3;refine zh ?_;refine zvH (RV.ld (c0 _ a8) rfl) ?_;refine nE 19 4 rfl a3
  rintro _ rfl;refine zh ?_;refine cx (λw1=>_=w1) (((k==9)&&wi)) 6 rfl rfl rfl rfl rfl rfl ?_ ?_
  ·intro a4;refine zh ?_;refine zvH (RV.ld (c0 _ a8) rfl) ?_
   cases c8:(k==9)with
   |true=>
    apply ay (d:=28) rfl (b':=true) rfl;refine zh ?_
    refine nE 24 8 rfl a4
   |false=>
    apply ay (d:=28) rfl (b':=false) rfl;refine zh ?_
    refine nE 24 8 rfl a4
  rintro _ rfl;have hE:=a7.J a8;refine zh ?_;refine zC ?_ ?_
  ·intro hc
   have hz:bV (.mk k c kids) wi=false:=K5 (by
    simp only[Na,MP,Mv,L7,decide_eq_true_eq,beq_iff_eq]at hc
    exact hc)
   refine zh ?_;refine ah rfl rfl ⟨by rw[hz],hE⟩
  intro hc;simp only[Na,MP,N9,decide_eq_false_iff_not]at hc;obtain⟨⟨d3,c8⟩,h9⟩:=hc;have d0:=hs.ext hE;refine zh ?_;refine zvH (RV.ld (c2 _ a8) rfl) ?_;refine zvH (RV.ld (c0 _ a8) rfl) ?_;have c7:k=0\/k=1\/k=2\/k=3\/k=4\/k=5\/k=6\/k=7\/k=8\/k=9:=zo
  rcases c7 with rfl|rfl|rfl|rfl|rfl|rfl|rfl|rfl|rfl|rfl
  ·refine zTH rfl rfl ?_;refine zTH rfl rfl ?_
   refine aU (λw1=>_=w1) (decide (0<=c)) 3 rfl rfl rfl rfl rfl rfl ?_ ?_
   ·intro b1;refine zh ?_;refine zvH (RV.ld (c1 _ a8) rfl) ?_;refine nE 44 4 rfl b1
   rintro _ rfl;refine zh ?_;refine aU (λw1=>_=w1) (decide (c<=35)) 3 rfl rfl rfl rfl rfl rfl ?_ ?_
   ·intro b2;refine zh ?_;refine zvH (RV.ld (c1 _ a8) rfl) ?_;refine nE 49 4 rfl b2
   rintro _ rfl;have hz:=Kb (k:=0) (c:=c) (kids:=kids) (wi:=wi) zd;rw[hl]at hz;refine zh ?_;refine ah rfl rfl ⟨by rw[hz],hE⟩
  ·refine zFH rfl rfl ?_;refine zFH rfl rfl ?_
   refine zTH rfl rfl ?_;refine zTH rfl rfl ?_
   refine aU (λw1=>_=w1) ((c==0)) 3 rfl rfl rfl rfl rfl rfl ?_ ?_
   ·intro b1;refine zh ?_;refine zvH (RV.ld (c1 _ a8) rfl) ?_;refine nE 60 4 rfl b1
   rintro _ rfl;have hz:=I7 (k:=1) (c:=c) (kids:=kids) (wi:=wi) (.inl zd);rw[hl]at hz;refine zh ?_;refine ah rfl rfl ⟨by rw[hz],hE⟩
  ·refine zFH rfl rfl ?_;refine zTH rfl rfl ?_
   refine aU (λw1=>_=w1) (decide (0<=c)) 3 rfl rfl rfl rfl rfl rfl ?_ ?_
   ·intro b1;refine zh ?_;refine zvH (RV.ld (c1 _ a8) rfl) ?_;refine nE 44 4 rfl b1
   rintro _ rfl;refine zh ?_;refine aU (λw1=>_=w1) (decide (c<=35)) 3 rfl rfl rfl rfl rfl rfl ?_ ?_
   ·intro b2;refine zh ?_;refine zvH (RV.ld (c1 _ a8) rfl) ?_;refine nE 49 4 rfl b2
   rintro _ rfl;have hz:=Kb (k:=2) (c:=c) (kids:=kids) (wi:=wi) zd;rw[hl]at hz;refine zh ?_;refine ah rfl rfl ⟨by rw[hz],hE⟩
  ·refine zFH rfl rfl ?_;refine zFH rfl rfl ?_
   refine zFH rfl rfl ?_;refine zTH rfl rfl ?_
   refine zTH rfl rfl ?_;refine aU (λw1=>_=w1) ((c==0)) 3 rfl rfl rfl rfl rfl rfl ?_ ?_
   ·intro b1;refine zh ?_;refine zvH (RV.ld (c1 _ a8) rfl) ?_;refine nE 60 4 rfl b1
   rintro _ rfl;have hz:=I7 (k:=3) (c:=c) (kids:=kids) (wi:=wi) (.inl zd);rw[hl]at hz;refine zh ?_;refine ah rfl rfl ⟨by rw[hz],hE⟩
  ·refine zFH rfl rfl ?_;refine zFH rfl rfl ?_
   refine zFH rfl rfl ?_;refine zFH rfl rfl ?_
   refine zFH rfl rfl ?_;refine zTH rfl rfl ?_
   refine zTH rfl rfl ?_;refine zC ?_ ?_
   ·intro h2;replace h2:=of_decide_eq_true h2;have hz:=Ka (k:=4) (c:=c) (wi:=wi) (kids:=kids) zd zo;refine zh ?_;refine ah rfl rfl ⟨by rw[hz],hE⟩
   intro h2;replace h2:=of_decide_eq_false h2;have b5:((((4:Int)=4\/(4:Int)=5)/\2<=kids.length)\/(((4:Int)=6\/(4:Int)=7\/(4:Int)=8)/\kids.length=1)):=.inl ⟨zd,zo⟩;refine zh ?_;apply zlp (λy:Nat×ix=>[(2,nP xb),(5,nI xs.length),(6,nI y.1)]) (λy=>y.2) (λy=>y.1<=xs.length/\MZ w1 y.2/\∀i,i<y.1->bV (nth kids i) true=true) (λy=>xs.length-y.1) (0,w2) ⟨L1 _,a8,λi hi=>absurd hi (L5 i)⟩;rintro⟨i,w3⟩ ⟨hi,a0,a5⟩;dsimp only at hi a0 a5 ⊢;have b3:=hs.ext (a7.J a0);refine zh ?_;refine zC ?_ ?_
   ·intro a6;replace a6:i<xs.length:=dT a6;have b8:=bQ kids i zo;refine zh ?_;refine zvH (RV.ld (c2 _ a0) rfl) ?_;apply zv (ai (us:=bu (nth xs i)) (λj u hu=>b3.cell a6 hu) (MI _) (Mx _) rfl);apply zc Pb (dt n zo (nth kids i) zo (nth xs i) w3 true ((hk i a6).ext (a7.J a0)));rintro u w4 ⟨rfl,a'⟩;refine zh ?_;refine zC ?_ ?_
    ·intro hy;replace hy:bV (nth kids i) true=false:=by simpa using hy
     have hz:=Dl (k:=4) (c:=c) (wi:=wi) (show i<kids.length by omega) hy;refine zh ?_;refine ah rfl rfl ⟨by rw[hz],(a7.J a0).J a'⟩
    intro hy;replace hy:bV (nth kids i) true=true:=by simpa using hy
    refine zh ?_;refine zxd (i+1,w4) ⟨a6,a0.J a',λj hj=>(L4.1 hj).elim (a5 j) (λe=>by rw[e];exact hy)⟩
   intro a9;replace a9:xs.length<=i:=dF a9;have b4:eS kids=true:=by
    rw[<-gk,MK];exact bM.2 λj hj=>by rw[a5 j zo];rfl
   have hz:=Dm (k:=4) (c:=c) (wi:=wi) b5 b0 b4;refine zh ?_;refine zvH (RV.ld (c1 _ a0) rfl) ?_;refine ah rfl rfl ⟨by rw[hz],a7.J a0⟩
  ·refine zFH rfl rfl ?_;refine zFH rfl rfl ?_
   refine zFH rfl rfl ?_;refine zFH rfl rfl ?_
   refine zFH rfl rfl ?_;refine zFH rfl rfl ?_
   refine zTH rfl rfl ?_;refine zC ?_ ?_
   ·intro h2;replace h2:=of_decide_eq_true h2;have hz:=Ka (k:=5) (c:=c) (wi:=wi) (kids:=kids) zd zo;refine zh ?_;refine ah rfl rfl ⟨by rw[hz],hE⟩
   intro h2;replace h2:=of_decide_eq_false h2;have b5:((((5:Int)=4\/(5:Int)=5)/\2<=kids.length)\/(((5:Int)=6\/(5:Int)=7\/(5:Int)=8)/\kids.length=1)):=.inl ⟨zd,zo⟩;refine zh ?_;apply zlp (λy:Nat×ix=>[(2,nP xb),(5,nI xs.length),(6,nI y.1)]) (λy=>y.2) (λy=>y.1<=xs.length/\MZ w1 y.2/\∀i,i<y.1->bV (nth kids i) true=true) (λy=>xs.length-y.1) (0,w2) ⟨L1 _,a8,λi hi=>absurd hi (L5 i)⟩;rintro⟨i,w3⟩ ⟨hi,a0,a5⟩;dsimp only at hi a0 a5 ⊢;have b3:=hs.ext (a7.J a0);refine zh ?_;refine zC ?_ ?_
   ·intro a6;replace a6:i<xs.length:=dT a6;have b8:=bQ kids i zo;refine zh ?_;refine zvH (RV.ld (c2 _ a0) rfl) ?_;apply zv (ai (us:=bu (nth xs i)) (λj u hu=>b3.cell a6 hu) (MI _) (Mx _) rfl);apply zc Pb (dt n zo (nth kids i) zo (nth xs i) w3 true ((hk i a6).ext (a7.J a0)));rintro u w4 ⟨rfl,a'⟩;refine zh ?_;refine zC ?_ ?_
    ·intro hy;replace hy:bV (nth kids i) true=false:=by simpa using hy
     have hz:=Dl (k:=5) (c:=c) (wi:=wi) (show i<kids.length by omega) hy;refine zh ?_;refine ah rfl rfl ⟨by rw[hz],(a7.J a0).J a'⟩
    intro hy;replace hy:bV (nth kids i) true=true:=by simpa using hy
    refine zh ?_;refine zxd (i+1,w4) ⟨a6,a0.J a',λj hj=>(L4.1 hj).elim (a5 j) (λe=>by rw[e];exact hy)⟩
   intro a9;replace a9:xs.length<=i:=dF a9;have b4:eS kids=true:=by
    rw[<-gk,MK];exact bM.2 λj hj=>by rw[a5 j zo];rfl
   have hz:=Dm (k:=5) (c:=c) (wi:=wi) b5 b0 b4;refine zh ?_;refine zvH (RV.ld (c1 _ a0) rfl) ?_;refine ah rfl rfl ⟨by rw[hz],a7.J a0⟩
  ·refine zFH rfl rfl ?_;refine zFH rfl rfl ?_
   refine zFH rfl rfl ?_;refine zFH rfl rfl ?_
   refine zFH rfl rfl ?_;refine zFH rfl rfl ?_
   refine zFH rfl rfl ?_;refine zC ?_ ?_
   ·intro h2;have b6:(xs.length:Int)≠1:=by simpa using h2
    have hz:=I6 (k:=6) (c:=c) (wi:=wi) (kids:=kids) zd zo;refine zh ?_;refine ah rfl rfl ⟨by rw[hz],hE⟩
   intro h2;have b6:(xs.length:Int)=1:=by simpa using h2
   have b5:((((6:Int)=4\/(6:Int)=5)/\2<=kids.length)\/(((6:Int)=6\/(6:Int)=7\/(6:Int)=8)/\kids.length=1)):=.inr ⟨zd,zo⟩;refine zh ?_;apply zlp (λy:Nat×ix=>[(2,nP xb),(5,nI xs.length),(6,nI y.1)]) (λy=>y.2) (λy=>y.1<=xs.length/\MZ w1 y.2/\∀i,i<y.1->bV (nth kids i) true=true) (λy=>xs.length-y.1) (0,w2) ⟨L1 _,a8,λi hi=>absurd hi (L5 i)⟩;rintro⟨i,w3⟩ ⟨hi,a0,a5⟩;dsimp only at hi a0 a5 ⊢;have b3:=hs.ext (a7.J a0);refine zh ?_;refine zC ?_ ?_
   ·intro a6;replace a6:i<xs.length:=dT a6;have b8:=bQ kids i zo;refine zh ?_;refine zvH (RV.ld (c2 _ a0) rfl) ?_;apply zv (ai (us:=bu (nth xs i)) (λj u hu=>b3.cell a6 hu) (MI _) (Mx _) rfl);apply zc Pb (dt n zo (nth kids i) zo (nth xs i) w3 true ((hk i a6).ext (a7.J a0)));rintro u w4 ⟨rfl,a'⟩;refine zh ?_;refine zC ?_ ?_
    ·intro hy;replace hy:bV (nth kids i) true=false:=by simpa using hy
     have hz:=Dl (k:=6) (c:=c) (wi:=wi) (show i<kids.length by omega) hy;refine zh ?_;refine ah rfl rfl ⟨by rw[hz],(a7.J a0).J a'⟩
    intro hy;replace hy:bV (nth kids i) true=true:=by simpa using hy
    refine zh ?_;refine zxd (i+1,w4) ⟨a6,a0.J a',λj hj=>(L4.1 hj).elim (a5 j) (λe=>by rw[e];exact hy)⟩
   intro a9;replace a9:xs.length<=i:=dF a9;have b4:eS kids=true:=by
    rw[<-gk,MK];exact bM.2 λj hj=>by rw[a5 j zo];rfl
   have hz:=Dm (k:=6) (c:=c) (wi:=wi) b5 b0 b4;refine zh ?_;refine zvH (RV.ld (c1 _ a0) rfl) ?_;refine ah rfl rfl ⟨by rw[hz],a7.J a0⟩
  ·refine zFH rfl rfl ?_;refine zFH rfl rfl ?_
   refine zFH rfl rfl ?_;refine zFH rfl rfl ?_
   refine zFH rfl rfl ?_;refine zFH rfl rfl ?_
   refine zFH rfl rfl ?_;refine zC ?_ ?_
   ·intro h2;have b6:(xs.length:Int)≠1:=by simpa using h2
    have hz:=I6 (k:=7) (c:=c) (wi:=wi) (kids:=kids) zd zo;refine zh ?_;refine ah rfl rfl ⟨by rw[hz],hE⟩
   intro h2;have b6:(xs.length:Int)=1:=by simpa using h2
   have b5:((((7:Int)=4\/(7:Int)=5)/\2<=kids.length)\/(((7:Int)=6\/(7:Int)=7\/(7:Int)=8)/\kids.length=1)):=.inr ⟨zd,zo⟩;refine zh ?_;apply zlp (λy:Nat×ix=>[(2,nP xb),(5,nI xs.length),(6,nI y.1)]) (λy=>y.2) (λy=>y.1<=xs.length/\MZ w1 y.2/\∀i,i<y.1->bV (nth kids i) true=true) (λy=>xs.length-y.1) (0,w2) ⟨L1 _,a8,λi hi=>absurd hi (L5 i)⟩;rintro⟨i,w3⟩ ⟨hi,a0,a5⟩;dsimp only at hi a0 a5 ⊢;have b3:=hs.ext (a7.J a0);refine zh ?_;refine zC ?_ ?_
   ·intro a6;replace a6:i<xs.length:=dT a6;have b8:=bQ kids i zo;refine zh ?_;refine zvH (RV.ld (c2 _ a0) rfl) ?_;apply zv (ai (us:=bu (nth xs i)) (λj u hu=>b3.cell a6 hu) (MI _) (Mx _) rfl);apply zc Pb (dt n zo (nth kids i) zo (nth xs i) w3 true ((hk i a6).ext (a7.J a0)));rintro u w4 ⟨rfl,a'⟩;refine zh ?_;refine zC ?_ ?_
    ·intro hy;replace hy:bV (nth kids i) true=false:=by simpa using hy
     have hz:=Dl (k:=7) (c:=c) (wi:=wi) (show i<kids.length by omega) hy;refine zh ?_;refine ah rfl rfl ⟨by rw[hz],(a7.J a0).J a'⟩
    intro hy;replace hy:bV (nth kids i) true=true:=by simpa using hy
    refine zh ?_;refine zxd (i+1,w4) ⟨a6,a0.J a',λj hj=>(L4.1 hj).elim (a5 j) (λe=>by rw[e];exact hy)⟩
   intro a9;replace a9:xs.length<=i:=dF a9;have b4:eS kids=true:=by
    rw[<-gk,MK];exact bM.2 λj hj=>by rw[a5 j zo];rfl
   have hz:=Dm (k:=7) (c:=c) (wi:=wi) b5 b0 b4;refine zh ?_;refine zvH (RV.ld (c1 _ a0) rfl) ?_;refine ah rfl rfl ⟨by rw[hz],a7.J a0⟩
  ·refine zFH rfl rfl ?_;refine zFH rfl rfl ?_
   refine zFH rfl rfl ?_;refine zFH rfl rfl ?_
   refine zFH rfl rfl ?_;refine zFH rfl rfl ?_
   refine zFH rfl rfl ?_;refine zC ?_ ?_
   ·intro h2;have b6:(xs.length:Int)≠1:=by simpa using h2
    have hz:=I6 (k:=8) (c:=c) (wi:=wi) (kids:=kids) zd zo;refine zh ?_;refine ah rfl rfl ⟨by rw[hz],hE⟩
   intro h2;have b6:(xs.length:Int)=1:=by simpa using h2
   have b5:((((8:Int)=4\/(8:Int)=5)/\2<=kids.length)\/(((8:Int)=6\/(8:Int)=7\/(8:Int)=8)/\kids.length=1)):=.inr ⟨zd,zo⟩;refine zh ?_;apply zlp (λy:Nat×ix=>[(2,nP xb),(5,nI xs.length),(6,nI y.1)]) (λy=>y.2) (λy=>y.1<=xs.length/\MZ w1 y.2/\∀i,i<y.1->bV (nth kids i) true=true) (λy=>xs.length-y.1) (0,w2) ⟨L1 _,a8,λi hi=>absurd hi (L5 i)⟩;rintro⟨i,w3⟩ ⟨hi,a0,a5⟩;dsimp only at hi a0 a5 ⊢;have b3:=hs.ext (a7.J a0);refine zh ?_;refine zC ?_ ?_
   ·intro a6;replace a6:i<xs.length:=dT a6;have b8:=bQ kids i zo;refine zh ?_;refine zvH (RV.ld (c2 _ a0) rfl) ?_;apply zv (ai (us:=bu (nth xs i)) (λj u hu=>b3.cell a6 hu) (MI _) (Mx _) rfl);apply zc Pb (dt n zo (nth kids i) zo (nth xs i) w3 true ((hk i a6).ext (a7.J a0)));rintro u w4 ⟨rfl,a'⟩;refine zh ?_;refine zC ?_ ?_
    ·intro hy;replace hy:bV (nth kids i) true=false:=by simpa using hy
     have hz:=Dl (k:=8) (c:=c) (wi:=wi) (show i<kids.length by omega) hy;refine zh ?_;refine ah rfl rfl ⟨by rw[hz],(a7.J a0).J a'⟩
    intro hy;replace hy:bV (nth kids i) true=true:=by simpa using hy
    refine zh ?_;refine zxd (i+1,w4) ⟨a6,a0.J a',λj hj=>(L4.1 hj).elim (a5 j) (λe=>by rw[e];exact hy)⟩
   intro a9;replace a9:xs.length<=i:=dF a9;have b4:eS kids=true:=by
    rw[<-gk,MK];exact bM.2 λj hj=>by rw[a5 j zo];rfl
   have hz:=Dm (k:=8) (c:=c) (wi:=wi) b5 b0 b4;refine zh ?_;refine zvH (RV.ld (c1 _ a0) rfl) ?_;refine ah rfl rfl ⟨by rw[hz],a7.J a0⟩
  have hw:wi=false:=by simpa using h9
  refine zFH rfl rfl ?_;refine zFH rfl rfl ?_
  refine zFH rfl rfl ?_;refine zFH rfl rfl ?_
  refine zTH rfl rfl ?_;refine aU (λw1=>_=w1) ((c==0)) 3 rfl rfl rfl rfl rfl rfl ?_ ?_
  ·intro b1;refine zh ?_;refine zvH (RV.ld (c1 _ a8) rfl) ?_;refine nE 60 4 rfl b1
  rintro _ rfl;have hz:=I7 (k:=9) (c:=c) (kids:=kids) (wi:=wi) (.inr ⟨rfl,hw⟩);rw[hl]at hz;refine zh ?_;refine ah rfl rfl ⟨by rw[hz],hE⟩
def PostC.shape{ts:List R3}(h:Nw B w v li lk ts):∃cs:List ln,∃e:Int,v=.tuple #[.agg cs.toArray,nI e]/\cs.length=17/\(cs.all L9=true):=by
 rcases h with⟨_,rfl⟩|⟨_,⟨a,b,a1,a0,u,_,_,_,_,_,_,rfl,hT,_⟩|⟨_,rfl⟩⟩
 ·exact⟨_,1,rfl,rfl,rfl⟩
 ·obtain⟨gv,lc,rc,rfl,h1,h2,h3⟩:=hT;obtain⟨ll,lo⟩:=h2.one;obtain⟨rl,ro⟩:=h3.one;refine⟨_,0,rfl,by simp[ll,rl],?_⟩;rw[List.all_eq_true];intro x hx;simp only[Nr,M7,N1,or_false]at hx
  rcases hx with(hx|hx)|hx
  ·rcases hx with rfl|rfl|rfl|rfl|rfl
   ·rfl
   ·rfl
   ·rfl
   ·rfl
   exact h1.one
  ·exact lo x hx
  exact ro x hx
 exact⟨_,7,rfl,rfl,rfl⟩
def TabV.ext{w w':ix}{v:ln}{t:Qg}(h:TabV w v t)(e:MZ w w'):TabV w' v t:=by
 obtain⟨gv,lc,rc,rfl,h1,h2,h3⟩:=h;exact⟨gv,lc,rc,rfl,h1.ext e,h2.ext e,h3.ext e⟩
def TabN.mono{B B':Nat}{v:ln}(h:TabN B v)(hb:B'<=B):TabN B' v:=λcs e x hx=>(h cs e x hx).mono hb
def PostC.ext{B B':Nat}{w w':ix}{v:ln}{li lk:List Int}{ts:List R3}(h:Nw B w v li lk ts)(e:MZ w w')(hb:B'<=B):Nw B' w' v li lk ts:=by
 rcases h with h|⟨h0,⟨a,b,a1,a0,u,h1,h2,h3,h4,h5,h6,h7,hT,hN⟩|h⟩
 ·exact .inl h
 ·exact .inr ⟨h0,.inl ⟨a,b,a1,a0,u,h1,h2,h3,h4,h5,h6,h7,hT.ext e,hN.mono hb⟩⟩
 exact .inr ⟨h0,.inr h⟩
def PostC.U{B:Nat}{S:Nat->Prop}{O O':Nat->Nat}{w0 w w':ix}{v:ln}{li lk:List Int}{ts:List R3}(h:Nw w0.heap.size w v li lk ts)(r:Nf B O w0)(u:Mg S O w O' w'):Nw w0.heap.size w' v li lk ts:=by
 rcases h with h|⟨h0,⟨a,b,a1,a0,x,h1,h2,h3,h4,h5,h6,h7,hT,hN⟩|h⟩
 ·exact .inl h
 ·refine .inr ⟨h0,.inl ⟨a,b,a1,a0,x,h1,h2,h3,h4,h5,h6,h7,?_,hN⟩⟩;obtain⟨gv,lc,rc,rfl,k1,k2,k3⟩:=hT;have hn:=hN _ rfl;exact⟨gv,lc,rc,rfl,k1.U ((hn gv (by simp)).free k1 (λx _=>by simp) r) u,k2.U (λx hx=>hn x (by simp[hx])) r u,k3.U (λx hx=>hn x (by simp[hx])) r u⟩
 exact .inr ⟨h0,.inr h⟩
def Ku(B:Nat)(w:ix)(v:ln):TK->Prop
 |.bad p e=>v=.tuple #[.agg tab0,nI (p:Int),nI e]/\e≠0
 |.ok st=>∃(cs:List ln) (e:Int),v=.tuple #[.agg cs.toArray,nI 0,nI e]/\Nw B w (.tuple #[.agg cs.toArray,nI e]) st.li st.lk st.ts
def pQ(l:List UInt8)(w:ix)(b9:l.length<=1000000000):MX Mc 28 [.string (bs l)] w λv w'=>MZ w w'/\Ku w.heap.size w' v (iE l):=by
 apply L0 func28 ntmps28 rfl rfl;refine zh ?_
 apply aw (aA w) 1 zo (MW _) rfl;intro cb w1 O1 a8 b8 b5 d0;refine zh ?_
 apply zc call21 (xC l w.heap.size O1 w1 b5 b9);rintro v w2 ⟨a7,hP⟩;have d2:=b5.ext a7;have hz:¬(0=1):=zo
 cases hM:iE l with
 |bad p e=>
  rw[hM]at hP;obtain⟨rfl,he⟩:=hP;refine zh ?_;apply aw (aA w2) 1 zo (N4 _) rfl;intro tb w3 O3 a1 b4 c8 c';apply zsa (us:=#[tF,tF,tF]) a1 (MH _);have a0:=(b4.J (Ma (us:=#[tF,tF,tF]) zd a1.tag rfl)).ext;generalize w3.setRow tb #[tF,tF,tF]=w4 at *;have a4:=a8.U (ae (S:=λ_=>False) (λh=>h) O1 (a7.J a0)) zd (λh=>h);refine zh ?_;refine zTH rfl ((by simpa using he)) ?_;refine zvH (Nm (cells:=tab0) GT (MW _) rfl rfl) ?_;apply zsa (us:=tab0) a4 (Mn _);have c7:Mg (λj=>j=1) O1 w4 O1 (w4.setRow cb tab0):=Ma zd a4.tag rfl;refine zh ?_;refine cH rfl rfl rfl rfl (a4.setRow (us:=tab0)).V (Nb _) (Mn _) ⟨((b8.J (ae (S:=λq=>q=1) hz O1 (a7.J a0))).J c7).ext,rfl,he⟩
 |ok st=>
  rw[hM]at hP;obtain⟨tv,rfl,hx⟩:=hP;obtain⟨ta,a5,tc,xs,rfl,x1,x2,x3,_⟩:=hx.ex;refine zh ?_;apply aw (aA w2) 1 zo (N4 _) rfl;intro tb w3 O3 a1 b4 c8 c';apply zsb (us:=#[ta,a5,tc]) a1 (MH _) (by simp[x1.one,x2.one,x3.one]);have b1:=a1.setRow (us:=#[ta,a5,tc]);have a0:=(b4.J (Ma (us:=#[ta,a5,tc]) zd a1.tag rfl)).ext;generalize w3.setRow tb #[ta,a5,tc]=w4 at *;refine zh ?_;refine zFH rfl rfl ?_;apply zv (ai (us:=[ta,a5,tc]) b1.V (NL _) (MH _) rfl);apply zc call55 (yr st.li st.lk st.ts (D4 ta a5 tc) w4 (hx.ext a0));rintro v w5 ⟨c9,hC⟩;obtain⟨cs,e,rfl,a6,b6⟩:=hC.shape;refine zh ?_;apply aw (aA w5) 1 zo (MW _) rfl;intro xb w6 O6 a2 c6 d1 d3;apply bL (us:=cs.toArray) a2 (show cs.toArray.size=17 from by simpa using a6) (by rw[show cs.toArray.size=17 from by simpa using a6];exact Mn _) (by simpa using b6) rfl rfl rfl;have b0:=a2.setRow (us:=cs.toArray);have a9:=(c6.J (Ma (us:=cs.toArray) zd a2.tag rfl)).ext;generalize w6.setRow xb cs.toArray=w7 at *;have a':=((a7.J a0).J c9).J a9;have b':=ae (S:=λq=>q=1) hz O1 a';have a3:=a8.U (ae (S:=λ_=>False) (λh=>h) O1 a') zd (λh=>h);refine zh ?_;refine zvH (ai (us:=cs) (by simpa using b0.V) (Nb _) (by rw[a6];exact Mn _) rfl) ?_
  apply bL (us:=cs.toArray) a3 (show cs.toArray.size=17 from by simpa using a6) (by rw[show cs.toArray.size=17 from by simpa using a6];exact Mn _) (by simpa using b6) rfl rfl rfl;have b2:=a3.setRow (us:=cs.toArray);have b7:Mg (λj=>j=1) O1 w7 O1 (w7.setRow cb cs.toArray):=Ma zd a3.tag rfl;refine zh ?_
  refine cH rfl rfl rfl rfl (us:=cs) (by simpa using b2.V) (Nb _) (by rw[a6];exact Mn _) ⟨((b8.J b').J b7).ext,cs,e,rfl,((hC.ext a9 (L6 _)).U (b5.ext (a7.J a0)) b7).ext (LY _) (((d0.J a7).J a0).size)⟩
def oX(l l':List Bool)(av bv:ln)(w:ix)(h:Sl dD 1 w av l)(h':Sl dD 1 w bv l'):MX Mc 12 [av,bv] w λv w'=>v=.bool (decide (l=l'))/\MZ w w':=by
 have q1:=h.len_le;have q2:=h'.len_le;apply L0 func12 ntmps12 rfl rfl;refine zh ?_;refine zvH (NX h' L8 rfl) ?_;refine zC ?_ ?_
 ·intro a4;have a1:¬l=l':=λe=>by subst e;simp at a4
  refine zh ?_;refine ah rfl rfl ⟨by rw[decide_eq_false a1],LY w⟩
 intro a7;have a9:l.length=l'.length:=by have:=of_decide_eq_true (p:=((l.length:Int)=(l'.length:Int))) (by simpa using a7);omega
 refine zh ?_;apply zlp (λz:Nat×ix=>[(0,av),(1,bv),(5,nI (z.1:Nat))]) (λz=>z.2) (λz=>z.1<=l.length/\MZ w z.2/\∀i,i<z.1->nth l i=nth l' i) (λz=>l.length-z.1) (0,w) ⟨L1 _,LY w,λi hi=>absurd hi (L5 i)⟩
 rintro⟨k,w1⟩ ⟨hk,hE,a0⟩;dsimp only at hk hE a0 ⊢;have h1:=h.ext hE;have h2:=h'.ext hE;refine zh ?_;refine zC ?_ ?_
 ·intro a2;replace a2:k<l.length:=dT a2;have e1:w1.cell? (adr av 1 k)=some (.bool (nth l k)):=by have:=h1.cell (i:=k) (j:=0) a2 rfl;rw[ax]at this;exact this
  have e2:w1.cell? (adr bv 1 k)=some (.bool (nth l' k)):=by have:=h2.cell (i:=k) (j:=0) zo rfl;rw[ax]at this;exact this
  refine zh ?_;apply aO (λW=>W.cell? (adr av 1 k)=some (.bool (nth l k))/\W.cell? (adr bv 1 k)=some (.bool (nth l' k))) 9 rfl zk
  refine zin ⟨e1,e2⟩ λzS=>?_
  apply zrm 0 rfl zS rfl;apply zrm 1 rfl zS rfl
  apply zr 2 rfl zS (λ_=>aj h1.sh underlying39 (M8 _) rfl rfl k rfl zo);apply zt 3 rfl zS (λw1 a3=>RV.ld a3.1 rfl)
  apply zrm 4 rfl zS rfl;apply zrm 5 rfl zS rfl
  apply zr 6 rfl zS (λ_=>aj h2.sh L8 (M8 _) rfl rfl k rfl zo);apply zt 7 rfl zS (λw1 a3=>RV.ld a3.2 rfl)
  apply zr 8 rfl zS (λ_=>Jh underlying4 rfl rfl);apply Md zk
  refine zh ?_;refine zC ?_ ?_
  ·intro a4;have a1:¬l=l':=λe=>by subst e;simp at a4
   refine zh ?_;refine ah rfl rfl ⟨by rw[decide_eq_false a1],hE.drew⟩
  intro a7;have a6:nth l k=nth l' k:=by simpa using a7
  refine zh ?_
  refine zxd (k+1,w1.drew) ⟨a2,hE.drew,λi hi=>(L4.1 hi).elim (a0 i) (λe=>by rw[e];exact a6)⟩
 intro b0;have a':k=l.length:=dF b0;subst a';have a5:l=l':=MA a9 λi i1 i2=>by have:=a0 i i1;rwa[aD i1,aD i2]at this
 refine zh ?_;refine ah rfl rfl ⟨by rw[decide_eq_true a5],hE⟩
def Gl(x:Int):List Int->List Int
 |[]=>[x]
 |y::r=>if x<y then x::y::r else if x=y then y::r else y::Gl x r
def rz(l:List Int):List Int:=l.foldr Gl []
def sP(x z:Int):∀l:List Int,z∈Gl x l↔z=x\/z∈l
 |[]=>by simp[Gl]
 |y::r=>by
  unfold Gl
  split
  ·simp
  split
  ·rename_i h;subst h;simp
  rw[M7,sP x z r,M7]
  constructor
  ·rintro(h|h|h)
   ·exact .inr (.inl h)
   ·exact .inl h
   exact .inr (.inr h)
  rintro(h|h|h)
  ·exact .inr (.inl h)
  ·exact .inl h
  exact .inr (.inr h)
def C2(x:Int):∀l:List Int,l.Pairwise (· < ·)->(Gl x l).Pairwise (· < ·)
 |[],_=>by simp[Gl]
 |y::r,h=>by
  obtain⟨h1,h2⟩:=MD.1 h;unfold Gl
  split
  ·rename_i hxy;refine MD.2 ⟨λz hz=>?_,h⟩
   rcases M7.1 hz with rfl|hz
   ·exact hxy
   have:=h1 z hz;omega
  split
  ·exact h
  refine MD.2 ⟨λz hz=>?_,C2 x r h2⟩
  rcases(sP x z r).1 hz with rfl|hz
  ·omega
  exact h1 z hz
def py(l:List Int):(∀x,x∈rz l↔x∈l)/\(rz l).Pairwise (· < ·):=by
 induction l with
 |nil=>exact⟨λx=>Iff.rfl,.nil⟩
 |cons a l ih=>
  refine⟨λx=>?_,C2 a _ ih.2⟩;show x∈Gl a (rz l)↔_;rw[sP,ih.1,M7]
def GY:∀(a b:List Int),a.Pairwise (· < ·)->b.Pairwise (· < ·)->(∀x,x∈a↔x∈b)->a=b
 |[],[],_,_,_=>rfl
 |[],y::r,_,_,h=>absurd ((h y).2 (by simp)) (by simp)
 |x::a,[],_,_,h=>absurd ((h x).1 (by simp)) (by simp)
 |x::a,y::b,ha,hb,h=>by
  obtain⟨a1,a2⟩:=MD.1 ha;obtain⟨b1,b2⟩:=MD.1 hb;have a4:x=y:=by
   rcases M7.1 ((h x).1 (by simp))with e|e
   ·exact e
   rcases M7.1 ((h y).2 (by simp))with e'|e'
   ·exact e'.symm
   have:=a1 y e';have:=b1 x e;omega
  subst a4;congr 1;refine GY a b a2 b2 λz=>?_
  have hz:=h z;simp only[M7]at hz
  constructor
  ·intro a3
   rcases hz.1 (.inr a3)with e|e
   ·subst e;exact absurd (a1 z a3) zo
   exact e
  intro a0
  rcases hz.2 (.inr a0)with e|e
  ·subst e;exact absurd (b1 z a0) zo
  exact e
def zZ(l:List Int):ry l=rz l:=GY _ _ (zY l) (py l).2 λx=>by rw[vJ,(py l).1]
def JP(se:Bool)(g:Gr)(s:List Int)(m:Int):List Int:=rz (JY se g s m)
def step_eq(se:Bool)(g:Gr):dj se g=JP se g:=funext λ_=>funext λ_=>zZ _
def stK(se:Bool)(ts:List Nd):Option (List (List Nat)×List Nat):=if et ts=0 then Gt (JP se (kJ ts)) (dN (kJ ts))else none
def stM_eq(se:Bool)(ts:List Nd):stM se ts=stK se ts:=by unfold stM stK;rw[step_eq]
def PostC.made{ts:List R3}(h:Nw B w v li lk ts):
  (∃e:Int,e≠0/\v=.tuple #[.agg tab0,nI e]/\((e=1/\eZ li lk ts=false)\/(e=7/\eZ li lk ts=true/\(stM true (nz ts)=none\/stM false (fz ts)=none))))\/
  ∃a b a1 a0 gv lc rc,PK li lk ts a b a1 a0/\v=.tuple #[.agg (fp (cC li lk ts a b a1 a0).ig (cC li lk ts a b a1 a0).kp (cC li lk ts a b a1 a0).br (cC li lk ts a b a1 a0).rules gv lc rc).toArray,nI 0]/\
   PL w gv (cC li lk ts a b a1 a0).groups/\Qb w lc (cC li lk ts a b a1 a0).left (cC li lk ts a b a1 a0).lt/\Qb w rc (cC li lk ts a b a1 a0).right (cC li lk ts a b a1 a0).rt/\Ju B (gv::(lc++rc)):=by
 rcases h with⟨h0,rfl⟩|⟨h0,⟨a,b,a1,a0,u,h1,h2,h3,h4,h5,h6,rfl,hT,hN⟩|⟨h1,rfl⟩⟩
 ·exact .inl ⟨1,zd,rfl,.inl ⟨rfl,h0⟩⟩
 ·obtain⟨gv,lc,rc,rfl,k1,k2,k3⟩:=hT;exact .inr ⟨a,b,a1,a0,gv,lc,rc,⟨h0,h1,h2,h3,h4,h5,h6⟩,rfl,k1,k2,k3,λx hx=>(hN _ rfl) x (by simp only[Nr,M7,N1,or_false]at hx ⊢;rcases hx with hx|hx|hx<;>simp[hx])⟩
 exact .inl ⟨7,zd,rfl,.inr ⟨rfl,h0,h1⟩⟩
def J5:LM->LM
 |.bad p e=>.bad p e
 |.ok []=>.bad 0 4
 |.ok (a::l)=>.ok (rz (a::l))
def Ga(r:List UInt8):LM:=J5 (fV (r.length+1) [] r)
def F9:dC=Ga:=funext λr=>by
 unfold dC Ga
 cases fV (r.length+1) [] r with
 |bad p e=>rfl
 |ok l=>cases l with
  |nil=>rfl
  |cons a l=>exact congrArg LM.ok (zZ (a::l))
def zf(kn:Kn)(st:St)(seg:List UInt8):RK:=
 if(bn seg).length=0 then .go kn st
 else if((bn seg).takeWhile ak==[108,101,116])=true then Kl kn st (bG seg).length (tG kn ((bn seg).dropWhile ak))
 else if((bn seg).takeWhile ak==[105,103,110,111,114,101])=true then
  (if st.hi=true then .bad ((bG seg).length-(bn seg).length) 11 else mC kn (KE st (bG seg).length (Ga ((bn seg).dropWhile ak))))
 else if((bn seg).takeWhile ak==[107,101,101,112])=true then
  (if st.hk=true then .bad ((bG seg).length-(bn seg).length) 11 else mC kn (KD st (bG seg).length (Ga ((bn seg).dropWhile ak))))
 else mC kn (KC st ((bG seg).length-(bn seg).length) (if st.ts.length=40 then P1 0 3 else iw kn (bn seg)))
def Cq:dh=zf:=funext λkn=>funext λst=>funext λseg=>by unfold dh zf;rw[F9]
def sK:Nat->Kn->St->Nat->List UInt8->TK
 |0,_,_,_,_=>.bad 0 3
 |n+1,kn,st,fr,r=>
  match zf kn st (dI r)with
  |.bad p e=>.bad (fr+p) e
  |.go kn' st'=>if(dI r).length=r.length then .ok st' else sK n kn' st' (fr+(dI r).length+1) (r.drop ((dI r).length+1))
def qM:∀(n:Nat) (kn:Kn) (st:St) (fr:Nat) (r:List UInt8),mW n kn st fr r=sK n kn st fr r
 |0,_,_,_,_=>rfl
 |n+1,kn,st,fr,r=>by
  unfold mW sK;rw[Cq]
  cases zf kn st (dI r)with
  |bad p e=>rfl
  |go kn' st'=>dsimp only;rw[qM n]
def oH(l:List UInt8):TK:=if 4096<l.length then .bad 0 3 else sK (l.length+1) [] st0 0 l
def AK(l:List UInt8):iE l=oH l:=by unfold iE oH;rw[qM]
def okK(l:List UInt8):Bool:=match oH l with
 |.ok st=>eZ st.li st.lk st.ts&&(stK true (nz st.ts)).isSome&&(stK false (fz st.ts)).isSome
 |.bad _ _=>false
def dw(l:List UInt8):St:=match oH l with
 |.ok st=>st
 |.bad _ _=>st0
def GV{l:List UInt8}(h:okK l=true):iE l=.ok (dw l)/\eZ (dw l).li (dw l).lk (dw l).ts=true/\(stM true (nz (dw l).ts)).isSome=true/\(stM false (fz (dw l).ts)).isSome=true:=by
 rw[AK,stM_eq,stM_eq];unfold okK at h;unfold dw
 cases hp:oH l with
 |bad p e=>rw[hp]at h;cases h
 |ok st=>
  rw[hp]at h;simp only[L7]at h;exact⟨rfl,h.1.1,h.1.2,h.2⟩
def kQ:List UInt8:=[67,82,32,33,32,76,70,10,67,82,124,76,70,124,78,101,119,108,105,110,101,124,67,111,110,116,114,111,108,124,71,97,112,32,47,10,47,32,67,82,124,76,70,124,78,101,119,108,105,110,101,124,67,111,110,116,114,111,108,124,71,97,112,10,76,32,33,32,76,124,86,124,76,86,124,76,86,84,10,76,86,124,86,32,33,32,86,124,84,10,76,86,84,124,84,32,33,32,84,10,33,32,69,120,116,101,110,100,124,90,87,74,124,83,112,97,99,105,110,103,124,70,111,114,109,97,116,10,80,114,101,112,101,110,100,32,33,10,80,105,99,116,32,69,120,116,101,110,100,42,32,90,87,74,32,33,32,80,105,99,116,10,94,32,40,82,101,103,105,111,110,97,108,32,82,101,103,105,111,110,97,108,41,42,32,82,101,103,105,111,110,97,108,32,33,32,82,101,103,105,111,110,97,108,10,126,82,101,103,105,111,110,97,108,32,40,82,101,103,105,111,110,97,108,32,82,101,103,105,111,110,97,108,41,42,32,82,101,103,105,111,110,97,108,32,33,32,82,101,103,105,111,110,97,108,10]
def kP:List UInt8:=[105,103,110,111,114,101,32,69,120,116,101,110,100,32,70,111,114,109,97,116,10,107,101,101,112,32,67,82,32,76,70,32,78,101,119,108,105,110,101,10,108,101,116,32,108,101,116,116,101,114,32,61,32,85,112,112,101,114,124,76,111,119,101,114,124,76,101,116,116,101,114,10,108,101,116,32,109,105,100,32,61,32,77,105,100,76,101,116,116,101,114,124,68,111,116,124,65,112,111,115,116,114,111,112,104,101,10,108,101,116,32,110,117,109,32,61,32,77,105,100,78,117,109,124,68,111,116,124,65,112,111,115,116,114,111,112,104,101,10,108,101,116,32,112,97,114,116,32,61,32,108,101,116,116,101,114,124,68,105,103,105,116,124,75,97,116,97,107,97,110,97,10,67,82,32,33,32,76,70,10,67,82,124,76,70,124,78,101,119,108,105,110,101,32,47,10,47,32,67,82,124,76,70,124,78,101,119,108,105,110,101,10,90,87,74,32,33,32,80,105,99,116,10,33,32,90,87,74,10,83,112,97,99,101,32,33,32,83,112,97,99,101,10,108,101,116,116,101,114,32,33,32,108,101,116,116,101,114,10,108,101,116,116,101,114,32,33,32,109,105,100,32,108,101,116,116,101,114,10,108,101,116,116,101,114,32,109,105,100,32,33,32,108,101,116,116,101,114,10,68,105,103,105,116,32,33,32,68,105,103,105,116,10,108,101,116,116,101,114,32,33,32,68,105,103,105,116,10,68,105,103,105,116,32,33,32,108,101,116,116,101,114,10,68,105,103,105,116,32,110,117,109,32,33,32,68,105,103,105,116,10,68,105,103,105,116,32,33,32,110,117,109,32,68,105,103,105,116,10,75,97,116,97,107,97,110,97,32,33,32,75,97,116,97,107,97,110,97,10,112,97,114,116,124,74,111,105,110,101,114,32,33,32,74,111,105,110,101,114,10,74,111,105,110,101,114,32,33,32,112,97,114,116,10,94,32,40,82,101,103,105,111,110,97,108,32,82,101,103,105,111,110,97,108,41,42,32,82,101,103,105,111,110,97,108,32,33,32,82,101,103,105,111,110,97,108,10,126,82,101,103,105,111,110,97,108,32,40,82,101,103,105,111,110,97,108,32,82,101,103,105,111,110,97,108,41,42,32,82,101,103,105,111,110,97,108,32,33,32,82,101,103,105,111,110,97,108,10]
def kO:List UInt8:=[105,103,110,111,114,101,32,69,120,116,101,110,100,32,90,87,74,32,70,111,114,109,97,116,10,107,101,101,112,32,67,82,32,76,70,32,78,101,119,108,105,110,101,10,108,101,116,32,99,108,111,115,101,32,61,32,67,108,111,115,101,124,81,117,111,116,101,124,65,112,111,115,116,114,111,112,104,101,10,108,101,116,32,101,110,100,32,61,32,84,101,114,109,124,68,111,116,10,108,101,116,32,112,97,114,32,61,32,67,82,124,76,70,124,78,101,119,108,105,110,101,10,67,82,32,33,32,76,70,10,112,97,114,32,47,10,68,111,116,32,33,32,68,105,103,105,116,10,40,85,112,112,101,114,124,76,111,119,101,114,41,32,68,111,116,32,33,32,85,112,112,101,114,10,68,111,116,32,99,108,111,115,101,42,32,83,112,97,99,101,42,32,33,32,76,111,119,101,114,10,101,110,100,32,99,108,111,115,101,42,32,83,112,97,99,101,42,32,33,32,77,105,100,78,117,109,124,77,105,100,76,101,116,116,101,114,124,72,121,112,104,101,110,124,101,110,100,10,101,110,100,32,99,108,111,115,101,42,32,33,32,99,108,111,115,101,124,83,112,97,99,101,124,112,97,114,10,101,110,100,32,99,108,111,115,101,42,32,83,112,97,99,101,42,32,33,32,83,112,97,99,101,124,112,97,114,10,101,110,100,32,99,108,111,115,101,42,32,83,112,97,99,101,42,32,47,10,33,10]
def iu:List UInt8:=[105,103,110,111,114,101,32,69,120,116,101,110,100,32,90,87,74,32,70,111,114,109,97,116,10,107,101,101,112,32,67,82,32,76,70,32,78,101,119,108,105,110,101,32,83,112,97,99,101,32,71,97,112,10,108,101,116,32,97,108,32,61,32,79,116,104,101,114,124,85,112,112,101,114,124,76,111,119,101,114,124,76,101,116,116,101,114,124,68,105,103,105,116,124,74,111,105,110,101,114,124,80,114,101,112,101,110,100,10,108,101,116,32,112,97,114,32,61,32,67,82,124,76,70,124,78,101,119,108,105,110,101,10,67,82,32,33,32,76,70,10,112,97,114,32,47,10,33,32,112,97,114,10,33,32,83,112,97,99,101,124,71,97,112,10,71,97,112,32,83,112,97,99,101,42,32,47,10,33,32,71,108,117,101,10,71,108,117,101,32,33,10,33,32,67,108,111,115,101,124,84,101,114,109,124,77,105,100,78,117,109,124,77,105,100,76,101,116,116,101,114,124,68,111,116,10,79,112,101,110,32,83,112,97,99,101,42,32,33,10,33,32,81,117,111,116,101,124,65,112,111,115,116,114,111,112,104,101,10,81,117,111,116,101,124,65,112,111,115,116,114,111,112,104,101,32,33,10,83,112,97,99,101,32,47,10,33,32,72,121,112,104,101,110,10,72,121,112,104,101,110,32,33,32,68,105,103,105,116,10,97,108,32,33,32,97,108,10,97,108,32,33,32,79,112,101,110,10,67,108,111,115,101,32,33,32,97,108,10,40,77,105,100,78,117,109,124,68,111,116,124,77,105,100,76,101,116,116,101,114,41,32,33,32,68,105,103,105,116,10,76,32,33,32,76,124,86,124,76,86,124,76,86,84,10,76,86,124,86,32,33,32,86,124,84,10,76,86,84,124,84,32,33,32,84,10,75,97,116,97,107,97,110,97,32,33,32,75,97,116,97,107,97,110,97,10,94,32,40,82,101,103,105,111,110,97,108,32,82,101,103,105,111,110,97,108,41,42,32,82,101,103,105,111,110,97,108,32,33,32,82,101,103,105,111,110,97,108,10,126,82,101,103,105,111,110,97,108,32,40,82,101,103,105,111,110,97,108,32,82,101,103,105,111,110,97,108,41,42,32,82,101,103,105,111,110,97,108,32,33,32,82,101,103,105,111,110,97,108,10,47,10]
def eX:Nat->List UInt8
 |0=>kQ
 |1=>kP
 |2=>kO
 |_=>iu
def Fv:okK kQ=true:=by decide +kernel
def Fu:okK kP=true:=by decide +kernel
def Ft:okK kO=true:=by decide +kernel
def Fs:okK iu=true:=by decide +kernel
def B3:∀m,okK (eX m)=true
 |0=>Fv
 |1=>Fu
 |2=>Ft
 |_+3=>Fs
def Bn:iT (dw iu).li (dw iu).lk [18,29,18] (dw iu).ts=[true,false,true,true]:=by decide +kernel
def iV(q:Addr)(x:Int)(w:ix)(hc:w.cell? q=some (.int .u32 x)):MX Mc 53 [.pointer (some q)] w λv w'=>v=.bool (!(decide (x=0)))/\w=w':=by
 apply L0 func53 ntmps53 rfl rfl;refine zh ?_
 refine zvH (NJ (vs:=[.pointer (some q)]) (run_call_load func85 zk zk zk .u32 zk hc) rfl) ?_;refine ah rfl rfl ⟨rfl,rfl⟩
def Jb(w:ix):MX Mc 127 [.bool true] w λv w'=>v=.int .u32 1/\w'=w:=by
 apply L0 func127 ntmps127 rfl rfl;refine zh ?_
 refine zTH rfl rfl ?_;refine ah rfl rfl ⟨rfl,rfl⟩
def tn(O:Nat->Nat)(i b j:Nat)(cs:Array ln)(T:NP)(x:ln)(w:ix)(hb:My O w i b cs T)(hj:cs[j]? = some x):
  MX Mc 88 [.pointer (some ⟨b,j,none⟩),.bool true] w (λ_ w'=>w'=w.drew.setCell ⟨b,j,none⟩ (.int .u32 1))/\Lk Mc 88 [.pointer (some ⟨b,j,none⟩),.bool true] w (λ_ w'=>w'=w.drew.setCell ⟨b,j,none⟩ (.int .u32 1)):=by
 have hf:w.drew.frozen? ⟨b,j,none⟩=false:=by simp[NC,hb.drew.blk]
 apply PE func88 ntmps88 rfl rfl;apply MQ 5 rfl rfl zk zk
 refine zh ?_;apply WS.call call127 rfl (Jb _) rfl
 apply Nh;apply PP (vs:=[.pointer (some ⟨b,j,none⟩),.int .u32 1]) (run_call_store func126 zk zk zk zk (hb.drew.cell j hj) hf) rfl rfl
 refine zh ?_;exact aK rfl rfl
def CH:(prog.info? 71).map (λi=>decide (i.size=0))=some false:=by kernel_rfl
def A0(O:Nat->Nat)(i b j:Nat)(cs:Array ln)(T:NP)(w:ix)(hb:My O w i b cs T)(hj:cs[j]? = some (.int .i32 0)):
  MX Mc 124 [.pointer (some ⟨b,j,none⟩)] w λ_ w'=>w'=w.setCell ⟨b,j,none⟩ (.int .i32 1):=by
 have hf:w.frozen? ⟨b,j,none⟩=false:=by simp[NC,hb.blk]
 have a1:(w.setCell ⟨b,j,none⟩ (.int .i32 1)).cell? ⟨b,j,none⟩=some (.int .i32 1):=(hb.set j (.int .i32 1)).cell j (by simp[(Array.getElem?_eq_some_iff.1 hj).1]);apply L0 func124 ntmps124 rfl rfl;refine zh ?_;refine zvH (NJ (vs:=[]) (run_call_mark0 func167 zk zk zk .disable zk _) rfl) ?_;apply PP (vs:=[.pointer (some ⟨b,j,none⟩),.int .i32 0,.int .i32 1]) (run_call_cas_hit func168 zk zk zk .i32 zk (hb.cell j hj) hf) rfl rfl;refine zh ?_;refine zTH rfl rfl ?_;refine zTH rfl rfl ?_;refine zvH (NJ (vs:=[]) (run_call_mark0 func169 zk zk zk .enable zk _) rfl) ?_;apply zv (Ai (run_convert_to_unsafe PO PN CH a1) rfl);refine zvH (NJ (vs:=[.pointer (some ⟨b,j,none⟩)]) (run_call_marked func170 zk zk zk .acquire zk _ _) rfl) ?_;exact cM rfl rfl
def Au(O:Nat->Nat)(i b j:Nat)(cs:Array ln)(T:NP)(w:ix)(hb:My O w i b cs T)(hj:cs[j]? = some (.int .i32 0)):
  MX Mc 86 [.pointer (some ⟨b,j,none⟩)] w λ_ w'=>w'=w.setCell ⟨b,j,none⟩ (.int .i32 1):=by
 apply L0 func86 ntmps86 rfl rfl;refine zh ?_
 apply zc call124 (A0 O i b j cs T w hb hj);rintro v w' rfl;refine zh ?_
 exact aK rfl rfl
def vu(O:Nat->Nat)(i b j:Nat)(cs:Array ln)(T:NP)(w:ix)(hb:My O w i b cs T)(hj:cs[j]? = some (.int .i32 1)):
  MX Mc 125 [.pointer (some ⟨b,j,none⟩)] w λ_ w'=>w'=w.setCell ⟨b,j,none⟩ (.int .i32 0):=by
 have hc:=hb.cell j hj;have hf:w.frozen? ⟨b,j,none⟩=false:=by simp[NC,hb.blk]
 apply L0 func125 ntmps125 rfl rfl;refine zg ?_
 apply zTG rfl rfl;refine zvG (RV.ld hc rfl) ?_
 apply zv (Ai (run_convert_to_unsafe PO PN CH hc) rfl);refine zvG (NJ (vs:=[.pointer (some ⟨b,j,none⟩)]) (run_call_marked func172 zk zk zk .releaseMerge zk _ _) rfl) ?_
 refine zvG (NJ (vs:=[]) (run_call_mark0 func167 zk zk zk .disable zk _) rfl) ?_;apply PP (vs:=[.pointer (some ⟨b,j,none⟩),.int .i32 (-1)]) (run_call_add func173 zk zk zk .i32 zk (s:=0) hc hf rfl) rfl rfl
 refine zg ?_;apply zFG rfl rfl
 refine zvG (NJ (vs:=[]) (run_call_mark0 func169 zk zk zk .enable zk _) rfl) ?_;exact aK rfl rfl
def ue(O:Nat->Nat)(i b j:Nat)(cs:Array ln)(T:NP)(w:ix)(hb:My O w i b cs T)(hj:cs[j]? = some (.int .i32 1)):
  MX Mc 87 [.pointer (some ⟨b,j,none⟩)] w (λ_ w'=>w'=w.setCell ⟨b,j,none⟩ (.int .i32 0))/\Lk Mc 87 [.pointer (some ⟨b,j,none⟩)] w (λ_ w'=>w'=w.setCell ⟨b,j,none⟩ (.int .i32 0)):=by
 apply PE func87 ntmps87 rfl rfl;refine zh ?_
 apply zc call125 (vu O i b j cs T w hb hj);rintro v w' rfl;refine zh ?_
 exact aK rfl rfl
def yp(O:Nat->Nat)(i b o:Nat)(cs:Array ln)(T:NP)(w:ix)(hi:i≠0)(hb:My O w i b cs T)(h0:cs[o]? = some (.int .u32 0))(h1:cs[o+1]? = some (.int .i32 0))(g:PM)(fs:List ln)(c0:Array ln) 
  (hg:∀(args:Array ln) (w:ix),(callFunc g args).run Mc w=.ok (.enter g args) w) (K:(Nat->Nat)->ix->Array ln->Prop)
  (hf:∀W,My O W i b (cs.setIfInBounds (o+1) (.int .i32 1)) T->Mg (λk=>k=i) O w O W->MX Mc g (fs++c0.toList) W λ_ W'=>∃O' cs',My O' W' i b cs' T/\o+1<cs'.size/\cs'[o+1]? = some (.int .i32 1)/\K O' W' cs') :
  MX Mc 54 [.pointer (some ⟨b,o,none⟩),.func (.func g) fs.toArray c0] w λ_ w'=>∃O' W' cs',My O' W' i b cs' T/\K O' W' cs'/\w'=(W'.drew.setCell ⟨b,o,none⟩ (.int .u32 1)).setCell ⟨b,o+1,none⟩ (.int .i32 0):=by
 have hz:¬(λk=>k=i) 0:=λe=>hi e.symm
 apply mR func54 ntmps54 rfl rfl;apply Px
 apply No (by first|exact .inl rfl|exact .inr rfl) (λ_ _ h=>h);refine zh ?_
 apply zc call86 (Au O i b (o+1) cs T w hb h1);rintro v w1 rfl;have a2:=hb.set (o+1) (.int .i32 1);have a4:Mg (λk=>k=i) O w O (w.setCell ⟨b,o+1,none⟩ (.int .i32 1)):=Mj hz hb.tag rfl;have a7:(cs.setIfInBounds (o+1) (.int .i32 1))[o]? = some (.int .u32 0):=by rw[M9 zo];exact h0
 generalize w.setCell ⟨b,o+1,none⟩ (.int .i32 1)=w1 at *;refine zh ?_;apply Qa;apply bh;apply Px;apply No (by first|exact .inl rfl|exact .inr rfl) (λ_ _ h=>h);refine zh ?_;apply nn rfl;apply bh;apply Px;apply No (by first|exact .inl rfl|exact .inr rfl) (λ_ _ h=>h);refine zh ?_;apply zc Qf (iV ⟨b,o,none⟩ 0 w1 (a2.cell o a7));rintro v _ ⟨rfl,rfl⟩;refine zh ?_;apply Qa;apply bh;apply nY rfl rfl;apply Px;apply No (by first|exact .inl rfl|exact .inr rfl) (λ_ _ h=>h);refine zh ?_;apply nn rfl;apply bh;apply No (by first|exact .inl rfl|exact .inr rfl) (λ_ _ h=>h);refine zh ?_;apply DR (fs:=fs) (cs:=c0) rfl hg rfl (by simpa using hf w1 a2 a4) rfl;rintro v w2 ⟨O2,a0,a1,a8,a5,hK⟩;refine zh ?_;apply Qa;have a6:a0[o]? = some (a0[o]'(zo)):=Array.getElem?_eq_getElem _;refine Jm (PC call88 (tn O2 i b o a0 T _ w2 a1 a6).2 ?_);rintro v w3 rfl;apply PC call87 (ue O2 i b (o+1) _ T _ (a1.drew.set o (.int .u32 1)) (by rw[M9 zo];exact a5)).2;rintro v w4 rfl;exact kH rfl ⟨O2,w2,a0,a1,hK,rfl⟩
def xL(O:Nat->Nat)(i b o:Nat)(cs:Array ln)(T:NP)(w:ix)(hi:i≠0)(hb:My O w i b cs T)(h0:cs[o]? = some (.int .u32 0))(h1:cs[o+1]? = some (.int .i32 0))(g:PM)(fs:List ln)(c0:Array ln) 
  (hg:∀(args:Array ln) (w:ix),(callFunc g args).run Mc w=.ok (.enter g args) w) (K:(Nat->Nat)->ix->Array ln->Prop)
  (hf:∀W,My O W i b (cs.setIfInBounds (o+1) (.int .i32 1)) T->Mg (λk=>k=i) O w O W->MX Mc g (fs++c0.toList) W λ_ W'=>∃O' cs',My O' W' i b cs' T/\o+1<cs'.size/\cs'[o+1]? = some (.int .i32 1)/\K O' W' cs') :
  MX Mc 26 [.pointer (some ⟨b,o,none⟩),.func (.func g) fs.toArray c0] w λ_ w'=>∃O' W' cs',My O' W' i b cs' T/\K O' W' cs'/\w'=(W'.drew.setCell ⟨b,o,none⟩ (.int .u32 1)).setCell ⟨b,o+1,none⟩ (.int .i32 0):=by
 apply L0 func26 ntmps26 rfl rfl;refine zh ?_
 apply zc Qf (iV ⟨b,o,none⟩ 0 w (hb.cell o h0));rintro v _ ⟨rfl,rfl⟩;refine zh ?_
 refine zTH rfl rfl ?_;apply zc call54 (yp O i b o cs T w hi hb h0 h1 g fs c0 hg K hf)
 rintro v w' h;refine zh ?_;exact aK rfl h
def xM(b o:Nat)(w:ix)(hc:w.cell? ⟨b,o,none⟩=some (.int .u32 1))(f:ln):MX Mc 26 [.pointer (some ⟨b,o,none⟩),f] w λ_ w'=>w'=w:=by
 apply L0 func26 ntmps26 rfl rfl;refine zh ?_
 apply zc Qf (iV ⟨b,o,none⟩ 1 w hc);rintro v _ ⟨rfl,rfl⟩;refine zh ?_
 refine zFH rfl rfl ?_;exact aK rfl rfl
def vy(w:ix):MX Mc 38 [] w λv w'=>v=.string (bs kQ)/\w'=w:=by
 apply L0 func38 ntmps38 rfl rfl;refine zh ?_
 refine ah rfl rfl ⟨rfl,rfl⟩
def BB(w:ix):MX Mc 39 [] w λv w'=>v=.string (bs kP)/\w'=w:=by
 apply L0 func39 ntmps39 rfl rfl;refine zh ?_
 refine ah rfl rfl ⟨rfl,rfl⟩
def um(w:ix):MX Mc 40 [] w λv w'=>v=.string (bs kO)/\w'=w:=by
 apply L0 func40 ntmps40 rfl rfl;refine zh ?_
 refine ah rfl rfl ⟨rfl,rfl⟩
def CO(w:ix):MX Mc 41 [] w λv w'=>v=.string (bs iu)/\w'=w:=by
 apply L0 func41 ntmps41 rfl rfl;refine zh ?_
 refine ah rfl rfl ⟨rfl,rfl⟩
def qx(m:Int)(w:ix):MX Mc 25 [nI m] w λv w'=>v=.bool (decide (0<=m)&&decide (m<4))/\w'=w:=by
 apply L0 func25 ntmps25 rfl rfl;refine zh ?_
 refine aU (λw1=>_=w1) (decide (m<4)) 2 rfl rfl rfl rfl rfl rfl ?_ ?_
 ·intro a1;refine zh ?_;refine nE 5 3 rfl a1
 rintro _ rfl;refine zh ?_;refine ah rfl rfl ⟨rfl,rfl⟩
def pS(m:Int):List UInt8:=if m=0 then kQ else if m=1 then kP else if m=2 then kO else if m=3 then iu else []
def oo:∀ {m:Nat},m<4->pS m=eX m
 |0,_=>rfl
 |1,_=>rfl
 |2,_=>rfl
 |3,_=>rfl
def uh(m:Int)(w:ix):MX Mc 16 [nI m] w λv w'=>v=.string (bs (pS m))/\w'=w:=by
 apply L0 func16 ntmps16 rfl rfl;refine zh ?_
 by_cases h0:m=0
 ·refine zTH rfl ((by rw[h0];rfl)) ?_;apply zc call38 (vy w)
  rintro v w9 ⟨rfl,a0⟩;rw[a0];clear a0 w9;refine zh ?_;refine ah rfl rfl ⟨by unfold pS;rw[ap h0],rfl⟩
 refine zFH rfl ((beq_eq_false_iff_ne.2 h0)) ?_
 by_cases h1:m=1
 ·refine zTH rfl ((by rw[h1];rfl)) ?_;apply zc call39 (BB w)
  rintro v w9 ⟨rfl,a0⟩;rw[a0];clear a0 w9;refine zh ?_;refine ah rfl rfl ⟨by unfold pS;rw[am h0,ap h1],rfl⟩
 refine zFH rfl ((beq_eq_false_iff_ne.2 h1)) ?_
 by_cases h2:m=2
 ·refine zTH rfl ((by rw[h2];rfl)) ?_;apply zc call40 (um w)
  rintro v w9 ⟨rfl,a0⟩;rw[a0];clear a0 w9;refine zh ?_;refine ah rfl rfl ⟨by unfold pS;rw[am h0,am h1,ap h2],rfl⟩
 refine zFH rfl ((beq_eq_false_iff_ne.2 h2)) ?_
 by_cases h3:m=3
 ·refine zTH rfl ((by rw[h3];rfl)) ?_;apply zc call41 (CO w)
  rintro v w9 ⟨rfl,a0⟩;rw[a0];clear a0 w9;refine zh ?_;refine ah rfl rfl ⟨by unfold pS;rw[am h0,am h1,am h2,ap h3],rfl⟩
 refine zFH rfl ((beq_eq_false_iff_ne.2 h3)) ?_;refine ah rfl rfl ⟨by unfold pS;rw[am h0,am h1,am h2,am h3];rfl,rfl⟩
def Keeps(O:Nat->Nat)(w:ix)(P:ix->Prop):Prop:=∀(S:Nat->Prop) (O':Nat->Nat) (w':ix),Mg S O w O' w'->P w'
def Keeps.now(h:Keeps O w P):P w:=h (λ_=>False) O w (MM (λh=>h) O w)
def Keeps.U{O':Nat->Nat}{S:Nat->Prop}(h:Keeps O w P)(u:Mg S O w O' w'):Keeps O' w' P:=λS' O2 w2 v=>
 h (λq=>S q\/S' q) O2 w2 ((u.mono (λ_ h=>.inl h) (λe=>e.elim u.z v.z)).J (v.mono (λ_ h=>.inr h) (λe=>e.elim u.z v.z)))
def TabS(O:Nat->Nat)(w:ix)(m:Nat)(a0:List ln):Prop:=
 a0.length=17/\a0.all L9=true/\∃(e:Int) (B0:Nat),Keeps O w λW=>Nw B0 W (.tuple #[.agg a0.toArray,nI e]) (dw (eX m)).li (dw (eX m)).lk (dw (eX m)).ts
def TabS.U{O O':Nat->Nat}{w w':ix}{m:Nat}{a0:List ln}{S:Nat->Prop}(h:TabS O w m a0)(u:Mg S O w O' w'):TabS O' w' m a0:=by
 obtain⟨h1,h2,e,B0,h3⟩:=h;exact⟨h1,h2,e,B0,h3.U u⟩
structure ShO(O:Nat->Nat)(w:ix)(i b:Nat)(cs:Array ln):Prop where
 blk:My O w i b cs 80
 size:cs.size=80
 place:∀m,m<4->(cs[m*20]? = some (.int .u32 0)/\cs[m*20+1]? = some (.int .i32 0))\/(cs[m*20]? = some (.int .u32 1)/\∃tcs,TabS O w m tcs/\∀j u,tcs[j]? = some u->cs[m*20+3+j]? = some u)
def ShO.U{O O':Nat->Nat}{w w':ix}{i b:Nat}{cs:Array ln}{S:Nat->Prop}(h:ShO O w i b cs)(u:Mg S O w O' w')(hi:i≠0)(hS:¬S i):ShO O' w' i b cs:=
 ⟨h.blk.U u hi hS,h.size,λm hm=>(h.place m hm).imp id fun⟨h1,a0,h2,h3⟩=>⟨h1,a0,h2.U u,h3⟩⟩
def As{l us:List ln}{off:Nat}(h:off+us.length<=l.length):(l.take off++us++l.drop (off+us.length))[j]? = if j<off then l[j]? else if j<off+us.length then us[j-off]? else l[j]?:=by
 have ht:(l.take off).length=off:=by rw[Pi];omega
 by_cases h1:j<off
 ·rw[ap h1,Mo,NG zo,List.getElem?_take,ap h1]
 rw[am h1]
 by_cases h2:j<off+us.length
 ·rw[ap h2,NG (by rw[LX];omega),Ny zo,ht]
 rw[am h2,Ny (by rw[LX];omega),LX,ht,List.getElem?_drop];congr 1;omega
def LH:cI Mc 80 #[(0,80)]:=⟨_,underlying80,λw=>by kernel_rfl⟩
def mU(B:Nat)(O:Nat->Nat)(w:ix)(i:Nat)(hi:i≠0)(hR:Nf B O w):MX Mc 8 [] w λv w'=>∃b O' cs,v=nP b/\ShO O' w' i b cs/\Mg (λq=>q=i) O w O' w'/\Nf B O' w'/\MZ w w':=by
 apply L0 func8 ntmps8 rfl rfl;refine zh ?_
 apply zv (aI LH (zeroValue80 _) rfl (by first|rfl|(simp only[Mw,MJ];rfl)) rfl rfl);apply aQ hR i zo rfl rfl
 intro xb w1 O1 a0 a1 a2 a3;refine zh ?_;refine ah rfl rfl ⟨xb,O1,_,rfl,⟨a0,rfl,λm hm=>.inl ?_⟩,a1,a2,a3⟩;obtain rfl|rfl|rfl|rfl:m=0\/m=1\/m=2\/m=3:=zo
 ·exact⟨rfl,rfl⟩
 ·exact⟨rfl,rfl⟩
 ·exact⟨rfl,rfl⟩
 exact⟨rfl,rfl⟩
def tt(b n k:Nat):(⟨b,n,none⟩:Addr).add k=⟨b,n+k,none⟩:=by
 unfold Pp
 split
 ·rename_i e;subst e;rfl
 rfl
def vZ(cs:Array ln)(o:Nat)(a0:List ln):Array ln:=(cs.toList.take (o+3)++a0.toArray.toList++cs.toList.drop (o+3+a0.toArray.size)).toArray
def zi{cs:Array ln}(h:o+3+a0.length<=cs.size)(j:Nat):(vZ cs o a0)[j]? = if j<o+3 then cs[j]? else if j<o+3+a0.length then a0[j-(o+3)]? else cs[j]?:=by
 unfold vZ;rw[List.getElem?_toArray];have:=As (l:=cs.toList) (us:=a0) (off:=o+3) (j:=j) (by simpa using h);simpa using this
def uF{cs:Array ln}(h:o+3+a0.length<=cs.size):(vZ cs o a0).size=cs.size:=by
 unfold vZ;simp;omega
def xn(m:Nat)(hm:m<4)(B:Nat)(O O0:Nat->Nat)(w:ix)(i b pb mb ip im o:Nat)(ho:o=m*20)(cs:Array ln)(hR:Nf B O w)(b6:Nf B O0 w)(hi:i≠0)(a9:ip≠0/\ip≠i)(a':im≠0/\im≠i)(hb:My O w i b cs 80)(b9:cs.size=80) 
  (b4:My O w im mb #[nI (m:Nat)] 36) (b3:My O w ip pb #[.pointer (some ⟨b,o,none⟩)] 82) :
  MX Mc 27 [nP mb,nP pb] w λ_ w'=>∃a0 e W0,a0.length=17/\a0.all L9=true/\My O w' i b (vZ cs o a0) 80/\Mg (λq=>q=i) O w O w'/\Nf B O W0/\Nf B O0 W0/\Nw W0.heap.size w' (.tuple #[.agg a0.toArray,nI e]) (dw (eX m)).li (dw (eX m)).lk (dw (eX m)).ts:=by
 have hz:¬(λq=>q=i) 0:=λe=>hi e.symm
 have kE:∀W,Mg (λq=>q=i) O w O W->W.cell? ⟨mb,0,none⟩=some (nI (m:Nat))/\W.cell? ⟨pb,0,none⟩=some (.pointer (some ⟨b,o,none⟩)):=λW u=>⟨(b4.U u a'.1 a'.2).cell 0 rfl,(b3.U u a9.1 a9.2).cell 0 rfl⟩
 have a7:Mg (λq=>q=i) O w O w.drew:=(MM hz O w).drew;have a2:∀m,m<4->(eX m).length<=1000000000:=λm hm=>by
  obtain rfl|rfl|rfl|rfl:m=0\/m=1\/m=2\/m=3:=zo
  ·decide +kernel
  ·decide +kernel
  ·decide +kernel
  decide +kernel
 apply L0 func27 ntmps27 rfl rfl;apply aO (λW=>W.cell? ⟨mb,0,none⟩=some (nI (m:Nat))/\W.cell? ⟨pb,0,none⟩=some (.pointer (some ⟨b,o,none⟩))) 11 rfl zk
 refine zin (kE _ a7) λzS=>?_
 apply zt 0 rfl zS (λw1 a1=>RV.ld (by first|exact a1.1|exact a1.2) rfl);apply zt 1 rfl zS (λw1 a1=>RV.ld (by first|exact a1.1|exact a1.2) rfl)
 apply M5 2 zk rfl;apply zc call16 (uh (m:Nat) w.drew)
 rintro v w9 ⟨rfl,a8⟩;rw[a8,oo hm];clear a8 w9;refine zh ?_;apply af ((kE _ a7));apply M5 3 zk rfl;apply zc call28 (pQ (eX m) w.drew (a2 m hm));rintro v w2 ⟨b7,hP⟩;rw[(GV (B3 m)).1]at hP;obtain⟨a0,e,rfl,hC⟩:=hP;have b2:a0.length=17/\a0.all L9=true:=by
  obtain⟨b',e',h1,h2,h3⟩:=hC.shape;simp only[NI,P9,NZ,NW,NV,and_true,true_and]at h1;rw[h1.1];exact⟨h2,h3⟩
 obtain⟨a3,b0⟩:=b2;have b1:Mg (λ_=>False) O w.drew O w2:=ae (λh=>h) O b7;have a6:=a7.J (b1.mono (λ_ h=>h.elim) hz);have a4:=hb.drew.U b1 hi (λh=>h);refine zh ?_;refine zaf ((kE _ a6)) λzS=>?_
 apply zrm 4 rfl zS rfl;apply zr 5 rfl zS (λ_=>MF rfl rfl)
 apply zr 6 rfl zS (λ_=>MF rfl rfl);apply zr 7 rfl zS (λ_=>MF rfl rfl)
 apply zr 8 rfl zS (λ_=>aq rfl);apply zrf 9 rfl zS rfl
 apply M5 10 zk rfl;apply bW (us:=a0.toArray) (o+3) (vZ cs o a0) a4 rfl (by simp only[List.size_toArray,a3];omega) (by rw[show a0.toArray.size=17 from by simpa using a3];exact Mn _) (by simpa using b0) rfl rfl rfl
 have b5:My O (w2.setRow b (vZ cs o a0)) i b (vZ cs o a0) 80:=a4.setRow;have a5:Mg (λq=>q=i) O w2 O (w2.setRow b (vZ cs o a0)):=Ma hz a4.tag rfl;refine zh ?_;apply af ((kE _ (a6.J a5)));apply Md zk;exact aK rfl ⟨a0,e,w.drew,a3,b0,b5,a6.J a5,hR.drew,b6.drew,hC.U hR.drew a5⟩
set_option maxHeartbeats 1000000 in
def jJ(m:Nat)(hm:m<4)(B:Nat)(O:Nat->Nat)(w:ix)(i b:Nat)(cs:Array ln)(hR:Nf B O w)(hi:i≠0)(h:ShO O w i b cs):
  MX Mc 9 [nP b,nI (m:Nat)] w λv w'=>∃a5 a0,v=.tuple #[.agg a0.toArray,.bool true]/\ShO O w' i b a5/\TabS O w' m a0/\Mg (λq=>q=i) O w O w':=by
 obtain⟨T,h7,hT⟩:=hR.bound;have h6:i<T:=by rw[<-h.blk.tag];exact hT b
 have a6:¬(λq:Nat=>q=i\/T<=q) 0:=λe=>by rcases e with e|e<;>omega
 have b7:¬(λq:Nat=>q=i) 0:=λe=>hi e.symm
 apply L0 func9 ntmps9 rfl rfl;refine zh ?_
 apply aQ hR T zo rfl rfl;intro mb w1 O1 f5 e7 h4 h';apply aw h4 (T+1) zo (MW _) rfl
 intro rb w2 O2 f3 d7 h3 h9;have c9:=f5.U d7 zo zo;have d3:Mg (λq=>q=i\/T<=q) O w O2 w2:=(e7.mono (λ_ h=>.inr (by rw[h];exact L6 _)) a6).J (d7.mono (λ_ h=>.inr (by rw[h];omega)) a6);have c0:w2.cell? ⟨mb,0,none⟩=some (nI (m:Nat)):=c9.cell 0 rfl;refine zh ?_;refine zvH (eE PX rfl rfl) ?_;apply ay (d:=9) rfl (b':=false) rfl;refine zh ?_;apply zc call25 (qx (m:Nat) w2);rintro v w9 ⟨rfl,b3⟩;rw[b3,show(decide ((0:Int)<=(m:Nat))&&decide (((m:Nat):Int)<4))=true from by rw[decide_eq_true zo,decide_eq_true zo];rfl];clear b3 w9;refine zh ?_;apply aH rfl rfl;have kE:∀O3 W,Mg (λq=>q=T+2) O2 w2 O3 W->W.cell? ⟨mb,0,none⟩=some (nI (m:Nat)):=λO3 W u=>(c9.U u zo zo).cell 0 rfl
 have e4:Mg (λq=>q=T+2) O2 w2 O2 w2.drew:=(MM zo O2 w2).drew;refine zh ?_;apply aO (λW=>W.cell? ⟨mb,0,none⟩=some (nI (m:Nat))) 7 rfl zk;refine zin (kE _ _ e4) λzS=>?_
 apply zrm 0 rfl zS rfl;apply zt 1 rfl zS (λw1 e9=>RV.ld e9 rfl)
 apply zr 2 rfl zS (λ_=>aq rfl);apply zrf 3 rfl zS rfl
 apply zr 4 rfl zS (λ_=>lW underlying78 (sizeOf77 _) rfl rfl m rfl hm);apply M5 5 zk rfl
 apply aw h3.drew (T+2) zo (zeroValue82 _) rfl;intro pb w4 O5 c7 f' g' h8;rw[show Pp (Pp ⟨b,0,none⟩ 0) (m*20)=⟨b,m*20,none⟩from by rw[tt,tt];simp];have b4:=e4.J f';refine zh ?_
 apply af ((kE _ _ b4));apply M5 6 zk rfl
 apply ao (j:=0) c7 rfl (sizeOf82 _) rfl rfl rfl rfl;have b8:My O5 (w4.setCell ⟨pb,0,none⟩ (.pointer (some ⟨b,m*20,none⟩))) (T+2) pb #[.pointer (some ⟨b,m*20,none⟩)] 82:=c7.set 0 (.pointer (some ⟨b,m*20,none⟩));have e6:Mg (λq=>q=T+2) O5 w4 O5 (w4.setCell ⟨pb,0,none⟩ (.pointer (some ⟨b,m*20,none⟩))):=Mj zo c7.tag rfl;have a3:=b4.J e6;generalize w4.setCell ⟨pb,0,none⟩ (.pointer (some ⟨b,m*20,none⟩))=w5 at *;refine zh ?_
 apply af ((kE _ _ a3));have d9:=f3.U a3 zo zo;have a9:=d3.J (a3.mono (λ_ h=>.inr (by rw[h];omega)) a6);have d5:Mg (λq=>T<=q) O w O5 w5:=((e7.mono (λ_ h=>by rw[h];exact L6 _) zo).J (d7.mono (λ_ h=>by rw[h];omega) zo)).J (a3.mono (λ_ h=>by rw[h];omega) zo);have b9:=h.blk.U d5 hi zo;have r2:w5.cell? ⟨pb,0,none⟩=some (.pointer (some ⟨b,m*20,none⟩)):=b8.cell 0 rfl;have a':=h.size;have e1:∀(W:ix) (d8:Array ln) (a0:List ln),My O5 W i b d8 80->(∀j u,a0[j]? = some u->d8[m*20+3+j]? = some u)->∀(j:Nat) (u:ln),a0[j]? = some u->W.cell? (((⟨b,m*20,none⟩:Addr).add 3).add j)=some u:=λW d8 a0 hB hc j u hu=>by rw[tt,tt];exact hB.cell (m*20+3+j) (hc j u hu)
 apply Md zk;refine zh ?_
 apply zv (eo rfl rfl);have d0:∀W,My O5 W i b (cs.setIfInBounds (m*20+1) (.int .i32 1)) 80->Mg (λq=>q=i) O5 w5 O5 W->MX Mc 27 ([]++(#[nP mb,nP pb]:Array ln).toList) W λ_ W'=>∃O' a5,My O' W' i b a5 80/\m*20+1<a5.size/\a5[m*20+1]? = some (.int .i32 1)/\O'=O5/\Mg (λq=>q=i) O5 w5 O5 W'/\∃a0 e W0,a0.length=17/\a0.all L9=true/\a5=vZ (cs.setIfInBounds (m*20+1) (.int .i32 1)) (m*20) a0/\Nf B O5 W0/\Nf B O W0/\Nw W0.heap.size W' (.tuple #[.agg a0.toArray,nI e]) (dw (eX m)).li (dw (eX m)).lk (dw (eX m)).ts:=λW a8 a4=>by
  apply Pr (xn m hm B O5 O W i b pb mb (T+2) T (m*20) rfl (cs.setIfInBounds (m*20+1) (.int .i32 1)) ((g'.U e6).U a4) (hR.U ((a9.J (a4.mono (λ_ h=>.inl h) a6)).priv hT hi)) hi zo zo a8 (by simpa using a') ((c9.U a3 zo zo).U a4 zo zo) (b8.U a4 zo zo));rintro v W' ⟨a0,e,W0,g1,g2,g3,g4,g5,g6,g7⟩;have hz:m*20+3+a0.length<=(cs.setIfInBounds (m*20+1) (.int .i32 1)).size:=by simp[a',g1];omega
  exact⟨O5,_,g3,by rw[uF hz];simp[a'];omega,by rw[zi hz,ap zo,N7 zo],rfl,a4.J g4,a0,e,W0,g1,g2,rfl,g5,g6,g7⟩
 rcases h.place m hm with⟨h0,h1⟩|⟨h0,a0,g0,f6⟩
 ·apply zc call26 (xL O5 i b (m*20) cs 80 w5 hi b9 h0 h1 27 [] #[nP mb,nP pb] call27 (λO' W' a5=>O'=O5/\Mg (λq=>q=i) O5 w5 O5 W'/\∃a0 e W0,a0.length=17/\a0.all L9=true/\a5=vZ (cs.setIfInBounds (m*20+1) (.int .i32 1)) (m*20) a0/\Nf B O5 W0/\Nf B O W0/\Nw W0.heap.size W' (.tuple #[.agg a0.toArray,nI e]) (dw (eX m)).li (dw (eX m)).lk (dw (eX m)).ts) (λW a8 a4=>d0 W a8 a4));rintro v w9 ⟨O',W',a5,a8,⟨hO,a4,a0,e0,W0,a1,b0,rfl,b5,b6,hC⟩,rfl⟩;obtain rfl:O5=O':=hO.symm;have e3:=(a8.drew.set (m*20) (.int .u32 1)).set (m*20+1) (.int .i32 0);have f9:Mg (λq=>q=i) O5 W' O5 W'.drew:=(MM b7 O5 W').drew;have f8:Mg (λq=>q=i) O5 W'.drew O5 (W'.drew.setCell ⟨b,m*20,none⟩ (.int .u32 1)):=Mj b7 a8.tag rfl;have f7:Mg (λq=>q=i) O5 (W'.drew.setCell ⟨b,m*20,none⟩ (.int .u32 1)) O5 ((W'.drew.setCell ⟨b,m*20,none⟩ (.int .u32 1)).setCell ⟨b,m*20+1,none⟩ (.int .i32 0)):=Mj b7 a8.tag rfl;have e5:=(f9.J f8).J f7;have d6:=a4.J e5;have d':(vZ (cs.setIfInBounds (m*20+1) (.int .i32 1)) (m*20) a0).size=80:=by rw[uF (by simp[a',a1];omega)];simpa using a'
  have a2:∀x,x≠m*20->x≠m*20+1->(((vZ (cs.setIfInBounds (m*20+1) (.int .i32 1)) (m*20) a0).setIfInBounds (m*20) (.int .u32 1)).setIfInBounds (m*20+1) (.int .i32 0))[x]? = if x<m*20+3 then cs[x]? else if x<m*20+3+a0.length then a0[x-(m*20+3)]? else cs[x]?:=λx h1 h2=>by
   rw[M9 zo,M9 zo,zi (by simp[a',a1];omega),M9 zo]
  have c8:(((vZ (cs.setIfInBounds (m*20+1) (.int .i32 1)) (m*20) a0).setIfInBounds (m*20) (.int .u32 1)).setIfInBounds (m*20+1) (.int .i32 0))[m*20]? = some (.int .u32 1):=by
   rw[M9 zo,N7 (by rw[d'];omega)]
  have e':(((vZ (cs.setIfInBounds (m*20+1) (.int .i32 1)) (m*20) a0).setIfInBounds (m*20) (.int .u32 1)).setIfInBounds (m*20+1) (.int .i32 0)).size=80:=by rw[NH,NH,d']
  generalize (W'.drew.setCell ⟨b,m*20,none⟩ (.int .u32 1)).setCell ⟨b,m*20+1,none⟩ (.int .i32 0)=w6 at *;generalize ((vZ (cs.setIfInBounds (m*20+1) (.int .i32 1)) (m*20) a0).setIfInBounds (m*20) (.int .u32 1)).setIfInBounds (m*20+1) (.int .i32 0)=cs6 at *;have e2:∀j u,a0[j]? = some u->cs6[m*20+3+j]? = some u:=λj u hu=>by
   have hj:j<a0.length:=(NF.1 hu).1;rw[a2 _ zo zo,am zo,ap zo,show m*20+3+j-(m*20+3)=j from by omega];exact hu
  have c5:=e1 w6 cs6 a0 e3 e2;have r3:w6.cell? ⟨pb,0,none⟩=some (.pointer (some ⟨b,m*20,none⟩)):=(b8.U d6 zo zo).cell 0 rfl;have a7:=Mh d9 d6 zo zo;refine zh ?_;apply zv (ai (us:=a0) c5 (Nb _) (by rw[a1];exact Mn _) rfl);apply bL (us:=a0.toArray) a7 (show a0.toArray.size=17 from by simpa using a1) (by rw[show a0.toArray.size=17 from by simpa using a1];exact Mn _) (by simpa using b0) rfl rfl rfl;have c6:=N0 (us:=a0.toArray) a7;have b2:Mg (λq=>q=T+1) O5 w6 O5 (MU w6 rb a0.toArray):=Ma zo a7.tag rfl;have d1:=Mh e3 b2 hi zo;have d2:=(a9.J (Q2 d6 (λ_ h=>.inl h) a6)).J (b2.mono (λ_ h=>.inr (by rw[h];omega)) a6);have b1:=d2.priv hT hi;have e8:=(hC.U b5 e5).U b5 b2;refine zh ?_;refine bE (us:=a0) rfl rfl rfl (λj u hu=>by simpa using c6.V j u (by simpa using hu)) (Nb _) (by rw[a1];exact Mn _) ⟨cs6,a0,rfl,?_,?_,b1⟩
  ·have g8:TabS O (w6.setRow rb a0.toArray) m a0:=⟨a1,b0,e0,W0.heap.size,λS O'' w'' u=>e8.U b6 u⟩
   refine⟨d1.fgt h.blk.tag,e',λm' c'=>?_⟩
   by_cases em:m'=m
   ·subst em;exact .inr ⟨c8,a0,g8,e2⟩
   rcases h.place m' c' with⟨p0,p1⟩|⟨p0,t',p1,p2⟩
   ·refine .inl ⟨?_,?_⟩
    ·rw[a2 _ zo zo]
     split
     ·exact p0
     rw[am zo];exact p0
    rw[a2 _ zo zo]
    split
    ·exact p1
    rw[am zo];exact p1
   refine .inr ⟨?_,t',p1.U b1,λj u hu=>?_⟩
   ·rw[a2 _ zo zo]
    split
    ·exact p0
    rw[am zo];exact p0
   have hj:j<t'.length:=(NF.1 hu).1;have hl:=p1.1;rw[a2 _ zo zo]
   split
   ·exact p2 j u hu
   rw[am zo];exact p2 j u hu
  exact⟨a1,b0,e0,W0.heap.size,λS O'' w'' u=>e8.U b6 u⟩
 apply zc call26 (xM b (m*20) w5 (b9.cell (m*20) h0) _);rintro v w9 b3;rw[b3];clear b3 w9;obtain⟨a1,b0,e0,B0,hK⟩:=g0;have c5:=e1 w5 cs a0 b9 f6;have d4:Mg (λq=>q=i) O5 w5 O5 w5:=MM b7 O5 w5;have r3:w5.cell? ⟨pb,0,none⟩=some (.pointer (some ⟨b,m*20,none⟩)):=(b8.U d4 zo zo).cell 0 rfl;have a7:=Mh d9 d4 zo zo;refine zh ?_
 apply zv (ai (us:=a0) c5 (Nb _) (by rw[a1];exact Mn _) rfl);apply bL (us:=a0.toArray) a7 (show a0.toArray.size=17 from by simpa using a1) (by rw[show a0.toArray.size=17 from by simpa using a1];exact Mn _) (by simpa using b0) rfl rfl rfl
 have c6:=N0 (us:=a0.toArray) a7;have b2:Mg (λq=>q=T+1) O5 w5 O5 (MU w5 rb a0.toArray):=Ma zo a7.tag rfl;have d1:=Mh b9 b2 hi zo;have d2:=(a9.J (Q2 d4 (λ_ h=>.inl h) a6)).J (b2.mono (λ_ h=>.inr (by rw[h];omega)) a6);have b1:=d2.priv hT hi;refine zh ?_;refine bE (us:=a0) rfl rfl rfl (λj u hu=>by simpa using c6.V j u (by simpa using hu)) (Nb _) (by rw[a1];exact Mn _) ⟨cs,a0,rfl,⟨d1.fgt h.blk.tag,h.size,λm' c'=>(h.place m' c').imp id (fun⟨p0,t',p1,p2⟩=>⟨p0,t',p1.U b1,p2⟩)⟩,⟨a1,b0,e0,B0,hK.U b1⟩,b1⟩
abbrev stS(m:Nat):St:=dw (eX m)
abbrev KL:Qg:=⟨0,0,0,0,[],⟨0,[],[],[],[]⟩,[],⟨0,[],[],[],[]⟩,[]⟩
def JO(w:ix):TabV w (.agg tab0) KL:=
 have e:∀ {α:Type} (enc:α->List ln) (w:ix),Sl enc 1 w nS ([]:List α):=λenc w=>⟨⟨none,0,rfl,L6 _,zd,λh=>absurd rfl h⟩,λi hi=>absurd hi (L5 i)⟩
 ⟨nS,dO,dO,rfl,e _ w,⟨_,_,_,_,_,rfl,e _ w,e _ w,e _ w,e _ w,e _ w⟩,⟨_,_,_,_,_,rfl,e _ w,e _ w,e _ w,e _ w,e _ w⟩⟩
def TabS.made{O:Nat->Nat}{w:ix}{m:Nat}{a3:List ln}(h:TabS O w m a3):∃a b a1 a0 gv lc rc,PK (stS m).li (stS m).lk (stS m).ts a b a1 a0/\a3=fp (cC (stS m).li (stS m).lk (stS m).ts a b a1 a0).ig (cC (stS m).li (stS m).lk (stS m).ts a b a1 a0).kp (cC (stS m).li (stS m).lk (stS m).ts a b a1 a0).br (cC (stS m).li (stS m).lk (stS m).ts a b a1 a0).rules gv lc rc/\PL w gv (cC (stS m).li (stS m).lk (stS m).ts a b a1 a0).groups/\Qb w lc (cC (stS m).li (stS m).lk (stS m).ts a b a1 a0).left (cC (stS m).li (stS m).lk (stS m).ts a b a1 a0).lt/\Qb w rc (cC (stS m).li (stS m).lk (stS m).ts a b a1 a0).right (cC (stS m).li (stS m).lk (stS m).ts a b a1 a0).rt:=by
 obtain⟨h1,h2,e,B0,hK⟩:=h;obtain⟨_,hr,ha,hb⟩:=GV (B3 m)
 rcases hK.now.made with⟨e',a4,hv,a2⟩|⟨a,b,a1,a0,gv,lc,rc,hM,hv,k1,k2,k3,hn⟩
 ·exfalso
  rcases a2 with⟨_,h1⟩|⟨_,_,h1|h1⟩
  ·rw[hr]at h1;cases h1
  ·rw[h1]at ha;cases ha
  rw[h1]at hb;cases hb
 refine⟨a,b,a1,a0,gv,lc,rc,hM,?_,k1,k2,k3⟩;simp only[NI,P9,NZ,NW,NV,and_true,true_and]at hv;exact hv.1
def ui(m:Int)(hm:¬(0<=m/\m<4))(b:Nat)(w:ix):MX Mc 9 [nP b,nI m] w λv w'=>v=.tuple #[.agg tab0,.bool false]/\MZ w w':=by
 apply L0 func9 ntmps9 rfl rfl;refine zh ?_
 apply aQ (aA w) 1 zo rfl rfl;intro mb w1 O1 a5 a7 a8 b0;apply aw a8 2 zo (MW _) rfl
 intro rb w2 O2 a0 a2 a9 a';have c0:=(a5.U a2 zd zd).cell 0 rfl;refine zh ?_;refine zvH (eE PX rfl rfl) ?_;apply ay (d:=9) rfl (b':=false) rfl;refine zh ?_;apply zc call25 (qx m w2);rintro v w9 ⟨rfl,a1⟩
 rw[a1,show(decide (0<=m)&&decide (m<4))=false from by
  by_cases h:0<=m
  ·rw[decide_eq_true h,decide_eq_false (λe=>hm ⟨h,e⟩)];rfl
  rw[decide_eq_false h];rfl]
 clear a1 w9;refine zh ?_;refine zTH rfl rfl ?_;apply zv (Nm (cells:=tab0) GT (MW _) rfl rfl);apply zsa (us:=tab0) a0 (Mn _);have a6:Mg (λq=>1<=q) (λ_=>0) w O2 (w2.setRow rb tab0):=((a7.mono (λ_ h=>zo) zd).J (a2.mono (λ_ h=>zo) zd)).J (Ma zd a0.tag zd);refine zh ?_;refine bE rfl rfl rfl (a0.setRow (us:=tab0)).V (Nb _) (Mn _) ⟨rfl,a6.ext⟩
def jO(m:Int):Bool:=decide (0<=m)&&decide (m<4)
def AnsS(O:Nat->Nat)(w:ix)(m:Int)(a0:List ln):Prop:=a0.length=17/\a0.all L9=true/\((jO m=true/\TabS O w m.toNat a0)\/(jO m=false/\a0=tab0.toList))
def AnsS.U{O O':Nat->Nat}{w w':ix}{m:Int}{a0:List ln}{S:Nat->Prop}(h:AnsS O w m a0)(u:Mg S O w O' w'):AnsS O' w' m a0:=⟨h.1,h.2.1,h.2.2.imp (λh=>⟨h.1,h.2.U u⟩) id⟩
def uj(m:Int)(B:Nat)(O:Nat->Nat)(w:ix)(i b:Nat)(cs:Array ln)(hR:Nf B O w)(hi:i≠0)(h:ShO O w i b cs):
  MX Mc 9 [nP b,nI m] w λv w'=>∃a2 a1,v=.tuple #[.agg a1.toArray,.bool (jO m)]/\ShO O w' i b a2/\AnsS O w' m a1/\Mg (λq=>q=i) O w O w':=by
 by_cases hm:0<=m/\m<4
 ·obtain⟨n,rfl⟩:∃n:Nat,m=(n:Int):=⟨m.toNat,zo⟩
  have a0:jO (n:Int)=true:=by unfold jO;rw[decide_eq_true hm.1,decide_eq_true hm.2];rfl
  apply Pr (jJ n zo B O w i b cs hR hi h);rintro v w' ⟨a2,a1,rfl,h1,h2,h3⟩;exact⟨a2,a1,by rw[a0],h1,⟨h2.1,h2.2.1,.inl ⟨a0,h2⟩⟩,h3⟩
 have a0:jO m=false:=by
  unfold jO
  by_cases h:0<=m
  ·rw[decide_eq_true h,decide_eq_false (λe=>hm ⟨h,e⟩)];rfl
  rw[decide_eq_false h];rfl
 apply Pr (ui m hm b w);rintro v w' ⟨rfl,hE⟩;have hU:Mg (λq=>q=i) O w O w':=ae (λe=>hi e.symm) O hE;exact⟨cs,tab0.toList,by rw[a0],h.U (ae (S:=λ_=>False) (λh=>h) O hE) hi (λh=>h),⟨rfl,rfl,.inr ⟨a0,rfl⟩⟩,hU⟩
def pD(w:ix)(hT:lP w):MX Mc 7 [] w λv w'=>v=.bool true/\MZ w w':=by
 apply L0 func7 ntmps7 rfl rfl;refine zh ?_
 apply zc call8 (mU w.heap.size (λ_=>0) w 1 zd (aA w));rintro v w1 ⟨b,O1,cs,rfl,b9,b7,a',d2⟩;apply zc call9 (jJ 3 zd w.heap.size O1 w1 1 b cs a' zd b9)
 rintro v w2 ⟨d3,a0,rfl,c',a9,a8⟩;obtain⟨a4,b5,_⟩:=id a9;refine zh ?_;apply aw (a'.U a8) 2 zo (MW _) rfl;intro tb w3 O3 a3 b6 d0 d1;apply bL (us:=a0.toArray) a3 (show a0.toArray.size=17 from by simpa using a4) (by rw[show a0.toArray.size=17 from by simpa using a4];exact Mn _) (by simpa using b5) rfl rfl rfl;have b2:=a3.setRow (us:=a0.toArray);have a7:Mg (λq=>q=2) O1 w2 O3 (w3.setRow tb a0.toArray):=b6.J (Ma zd a3.tag rfl);have a1:Mg (λq=>1<=q) (λ_=>0) w O3 (w3.setRow tb a0.toArray):=((b7.mono (λ_ h=>zo) zd).J (a8.mono (λ_ h=>zo) zd)).J (a7.mono (λ_ h=>zo) zd);have b8:=a9.U a7;generalize w3.setRow tb a0.toArray=w4 at *;obtain⟨a,bb,c9,c8,gv,lc,rc,hM,b1,k1,k2,k3⟩:=b8.made;have hi:=hM.inv;have a5:=hM.breaks [18,29,18] zd;rw[show iT (stS 3).li (stS 3).lk [18,29,18] (stS 3).ts=[true,false,true,true]from Bn]at a5;generalize cC (stS 3).li (stS 3).lk (stS 3).ts a bb c9 c8=t at *;refine zh ?_;apply ay (d:=9) rfl (b':=true) rfl;refine zh ?_;refine zvH (ai (us:=a0) (λj u hu=>by simpa using b2.V j u (by simpa using hu)) (Nb _) (by rw[a4];exact Mn _) rfl) ?_;apply cE M0 (Mk _) (zeroValue3 _) encI [18,29,18] rfl rfl rfl rfl zk (by simp) rfl;intro dv w5 b4 a2;rw[b1];refine zh ?_
 apply zc call11 (jQ w5 t gv lc rc (k1.ext a2) (k2.ext a2) (k3.ext a2) hi.ok hi.right (jD hT (a1.ext.J a2)) [18,29,18] dv b4 zd);rintro bv w6 ⟨a6,c7⟩;rw[a5]at a6;refine zh ?_
 apply cE L8 (M8 _) (zeroValue4 _) dD [true,false,true,true] rfl rfl rfl rfl zk (by simp) rfl;intro ev w7 b3 b0;refine zh ?_
 apply zc call12 (oX [true,false,true,true] [true,false,true,true] bv ev w7 (a6.ext b0) b3);rintro v w8 ⟨rfl,c6⟩;refine zh ?_
 refine ah rfl rfl ⟨rfl,(((a1.ext.J a2).J c7).J b0).J c6⟩
end Go.Proofs.YteolbhblkgjbhaaGreatDoor
section
namespace Go.VL
def zp[Inhabited α](h:i<n):nth (l.take n) i=nth l i:=by
 by_cases h2:i<l.length
 ·rw[aD (by simp;omega),aD h2,List.getElem_take]
 rw[NM zo]
def zu[Inhabited α](l:List α)(n i:Nat):nth (l.drop n) i=nth l (n+i):=by
 induction n generalizing l with
 |zero=>rw[Nz,NQ]
 |succ n ih=>
  cases l with
  |nil=>simp[nth]
  |cons a l=>rw[List.drop_succ_cons,ih,show n+1+i=(n+i)+1 by omega,aX]
def jF(l:List α)(a b:Nat):List α:=(l.take b).drop a
def nM(h:b<=l.length):(jF l a b).length=b-a:=by unfold jF;simp;omega
def yV[Inhabited α](h:a+i<b):nth (jF l a b) i=nth l (a+i):=by unfold jF;rw[zu,zp h]
def gz{α:Type}[Inhabited α]{p:α → Bool}: ∀ {r:List α} {k:Nat}, k ≤ r.length → (∀i, i < k → p (nth r i) = true) → (k = r.length ∨ p (nth r k) = false) → (r.takeWhile p).length = k
  | [], k, h, _, _ => by have : k = 0 := by simpa using h
                         subst this; rfl
  |a :: r, 0, _, _, h3 => by
    rcases h3 with h3 | h3
    · simp at h3
    · rw[ar]at h3; rw[List.takeWhile_cons_of_neg (by rw[h3]; decide)]; rfl
  |a :: r, k + 1, h, h2, h3 => by
    have h0 := h2 0 (by omega)
    rw[ar]at h0
    rw[Nx h0, Mz, gz (k := k) (by simpa using h) (λi hi => by have := h2 (i + 1) (by omega); rwa[aX]at this) (by
      rcases h3 with h3 | h3
      · exact .inl (by simpa using h3)
      · rw[aX]at h3; exact .inr h3)]
def tw(p:α->Bool)(l:List α)(a b:Nat):Nat:=a+((jF l a b).takeWhile p).length
def xj[Inhabited α](h1:a<=k)(h2:k<=b)(h3:b<=l.length)(h4:∀i,a<=i->i<k->p (nth l i)=true)(h5:k=b\/p (nth l k)=false):tw p l a b=k:=by
 unfold tw
 rw[gz (k:=k-a) (by rw[nM h3];omega) (λi hi=>by rw[yV zo];exact h4 _ zo zo) (by
  rcases h5 with h5|h5
  ·exact .inl (by rw[nM h3];omega)
  by_cases e:k=b
  ·exact .inl (by rw[nM h3];omega)
  exact .inr (by rw[yV zo,show a+(k-a)=k by omega];exact h5))]
 omega
def tV(h:a<=b)(h3:b<=l.length):a<=tw p l a b/\tw p l a b<=b:=by
 unfold tw;have:=(List.takeWhile_sublist p (l:=jF l a b)).length_le;rw[nM h3]at this;omega
def Ii[Inhabited α](h:a<b)(h3:b<=l.length)(hp:p (nth l a)=true):a<tw p l a b:=by
 unfold tw;have e:jF l a b=nth l a::jF l (a+1) b:=by
  unfold jF;rw[Mm (by simp;omega),<-aD,zp zo]
 rw[e,Nx hp,Mz];omega
end Go.VL
namespace Go.Proofs.YteolbhblkgjbhaaGreatDoor
open Go.VL Go.Proofs
set_option maxRecDepth 10000
abbrev T3:=UInt8×List UInt8×Nat
def lJ(x:T3):List ln:=[.int .u8 (x.1.toNat:Int),.string (bs x.2.1),nI (x.2.2:Nat)]
def signL:List UInt8:=[40,41,124,42,43,63,126,94]
def B2(c:UInt8):UInt8:=if signL.contains c=true then c else 1
def Fh(l:List UInt8):Nat->Nat->List T3
 |0,_=>[]
 |n+1,a=>
  if l.length<=a then [(0,[],l.length)]
  else if nth l a=32 then Fh l n (a+1)
  else if ak (nth l a)=true then(97,jF l a (tw ak l a l.length),a)::Fh l n (tw ak l a l.length)
  else(B2 (nth l a),[],a)::Fh l n (a+1)
def yR(l:List UInt8):List T3:=Fh l (l.length+1) 0
abbrev PG:=List T3->Nat->Option (Nd×Nat)
def qI(kn:Kn)(s:List UInt8):Option Nd:=
 if s=[97,110,121]then some (.mk 1 0 [])
 else match kn.reverse.find? (Bv s)with
  |some m=>some m.2
  |none=>(my s).map λc=>.mk 0 (c:Nat) []
def DG(al:Option PG)(kn:Kn):PG:=λts t=>
 if(nth ts t).1=97 then(qI kn (nth ts t).2.1).map λx=>(x,t+1)
 else if(nth ts t).1=126 then(if t+1<ts.length/\(nth ts (t+1)).1=97 then(my (nth ts (t+1)).2.1).map λc=>(.mk 2 (c:Nat) [],t+2)else none)
 else if(nth ts t).1=94 then some (.mk 3 0 [],t+1)
 else if(nth ts t).1=40 then(match al with
  |none=>none
  |some f=>match f ts (t+1)with
   |none=>none
   |some (x,u)=>if u<ts.length/\(nth ts u).1=41 then some (x,u+1)else none)
 else none
def AJ(al:Option PG)(kn:Kn):PG:=λts t=>
 if t<ts.length then(match DG al kn ts t with
  |none=>none
  |some (x,u)=>if u<ts.length then(match opM (nth ts u).1 with
   |some k=>some (.mk (6+(k:Nat)) 0 [x],u+1)
   |none=>some (x,u))else none)
 else none
def Jt(c:UInt8):Bool:=c==97||c==126||c==94||c==40
def Fx(al:Option PG)(kn:Kn)(ts:List T3):Nat->List Nd->Nat->Option (Nd×Nat)
 |0,_,_=>none
 |n+1,acc,t=>match AJ al kn ts t with
  |none=>none
  |some (x,u)=>if u<ts.length then(if Jt (nth ts u).1=true then Fx al kn ts n (acc++[x]) u else some (oneM 4 (acc++[x]),u))else none
def G6(al:Option PG)(kn:Kn)(ts:List T3):Nat->List Nd->Nat->Option (Nd×Nat)
 |0,_,_=>none
 |n+1,acc,t=>match Fx al kn ts (ts.length+1) [] t with
  |none=>none
  |some (x,u)=>if u<ts.length then(if(nth ts u).1=124 then G6 al kn ts n (acc++[x]) (u+1)else some (oneM 5 (acc++[x]),u))else none
def Bq(kn:Kn):Nat->PG
 |0=>λts t=>G6 none kn ts (ts.length+1) [] t
 |d+1=>λts t=>G6 (some (Bq kn d)) kn ts (ts.length+1) [] t
def IJ(kn:Kn)(l:List UInt8):Option Nd:=
 if 4096<l.length then none else
 match Bq kn 20 (yR l) 0 with
 |some (t,u)=>if u<(yR l).length/\(nth (yR l) u).1=0/\nsz t<=2000 then some t else none
 |none=>none
def bA(b:UInt8):Bool:=b==32
def ny(b:UInt8):Bool:=!(b==33) && !(b==47)
def GQ(l:List Int)(c:Int):List Int:=
 if(l.dropWhile (λx=>decide (x<c))).head? = some c then l else l.takeWhile (λx=>decide (x<c))++[c]++l.dropWhile (λx=>decide (x<c))
def vd(l:List UInt8)(b:Nat):Nat->Nat->List Int->Option (List Int)
 |0,_,_=>none
 |n+1,a,acc=>
  if b<=a then some acc
  else if ak (nth l a)=true then(match my (jF l a (tw ak l a b))with
   |none=>none
   |some c=>vd l b n (tw bA l (tw ak l a b) b) (GQ acc (c:Nat)))
  else none
def ve(l:List UInt8)(a b:Nat):Option (List Int):=match vd l b (l.length+1) (tw bA l a b) []with
 |some (x::r)=>some (x::r)
 |_=>none
def wordsG:List (List UInt8):=[[108,101,116],[105,103,110,111,114,101],[107,101,101,112],[97,110,121]]
def Jq(kn:Kn)(l:List UInt8)(a b:Nat):Option Kn:=
 if ak (nth l (tw bA l a b))=true/\tw bA l a b<b then
  (if(my (jF l (tw bA l a b) (tw ak l (tw bA l a b) b))).isSome=true\/wordsG.contains (jF l (tw bA l a b) (tw ak l (tw bA l a b) b))=true\/kn.any (λm=>m.1==jF l (tw bA l a b) (tw ak l (tw bA l a b) b))=true then none
  else if tw bA l (tw ak l (tw bA l a b) b) b<b/\nth l (tw bA l (tw ak l (tw bA l a b) b) b)=61 then
   (IJ kn (jF l (tw bA l (tw ak l (tw bA l a b) b) b+1) b)).map λn=>kn++[(jF l (tw bA l a b) (tw ak l (tw bA l a b) b),n)]
  else none)
 else none
def uf(kn:Kn)(l:List UInt8)(a b:Nat):Option Nd:=if tw bA l a b=b then some (.mk 9 0 [])else IJ kn (jF l a b)
def Az(kn:Kn)(ts:List R3)(l:List UInt8)(a b:Nat):Option (List R3):=
 if ts.length=40 then none
 else if tw ny l a b<b then
  match uf kn l a (tw ny l a b),uf kn l (tw ny l a b+1) b with
  |some x,some y=>if bz y=true/\du y=0 then some (ts++[(x,y,nth l (tw ny l a b)==47)])else none
  |_,_=>none
 else none
def J6(l:List UInt8)(kn:Kn)(st:St)(a b:Nat):Option (Kn×St):=
 if jF l a (tw ak l a b)=[108,101,116]then(Jq kn l (tw ak l a b) b).map λk=>(k,st)
 else if jF l a (tw ak l a b)=[105,103,110,111,114,101]then(if st.hi=true then none else(ve l (tw ak l a b) b).map λx=>(kn,{ st with li:=x,hi:=true }))
 else if jF l a (tw ak l a b)=[107,101,101,112]then(if st.hk=true then none else(ve l (tw ak l a b) b).map λx=>(kn,{ st with lk:=x,hk:=true }))
 else(Az kn st.ts l a b).map λts=>(kn,{ st with ts:=ts })
def pY(b:UInt8):Bool:=!(b==10)
def uQ(b:UInt8):Bool:=!(b==35)
def jP(l:List UInt8):Nat->Kn->St->Nat->Option St
 |0,_,_,_=>none
 |n+1,kn,st,f=>
  if l.length<f then some st
  else if tw bA l f (tw uQ l f (tw pY l f l.length))=tw uQ l f (tw pY l f l.length)then jP l n kn st (tw pY l f l.length+1)
  else match J6 l kn st (tw bA l f (tw uQ l f (tw pY l f l.length))) (tw uQ l f (tw pY l f l.length))with
   |none=>none
   |some (kn',st')=>jP l n kn' st' (tw pY l f l.length+1)
def AU(l:List UInt8):Option St:=if 4096<l.length then none else jP l (l.length+2) [] st0 0
def xx(l:List UInt8):Bool:=match AU l with
 |some st=>eqI st.li (dw l).li&&(eqI st.lk (dw l).lk&&(decide (st.ts.length=(dw l).ts.length)&&KB (λi=>JS (nth st.ts i) (nth (dw l).ts i)) st.ts.length))
 |none=>false
def JW:xx kQ=true:=by decide +kernel
def JV:xx kP=true:=by decide +kernel
def JU:xx kO=true:=by decide +kernel
def JT:xx iu=true:=by decide +kernel
end Go.Proofs.YteolbhblkgjbhaaGreatDoor
end
namespace Go.Proofs.YteolbhblkgjbhaaGreatDoor
def qC(c:Int)(w:ix):MX Mc 142 [nI c] w λv w'=>v=.string (bs (xV c))/\MZ w w':=by
 apply L0 func142 ntmps142 rfl rfl;refine zh ?_
 refine cx (λw1=>_=w1) (decide ((35:Int)<c)) 2 rfl rfl rfl rfl rfl rfl ?_ ?_
 ·intro a1;refine zh ?_;refine nE 5 3 rfl a1
 rintro _ rfl;refine zh ?_;refine zC ?_ ?_
 ·intro hc;simp only[Mv,decide_eq_true_eq]at hc;have hn:xV c=[]:=by unfold xV;rw[am zo]
  refine zh ?_;refine ah rfl rfl ⟨by rw[hn];rfl,LY _⟩
 intro hc;simp only[N9,decide_eq_false_iff_not]at hc;have a2:c.toNat<namesL.length:=by rw[mA];omega
 have hn:xV c=nth namesL c.toNat:=by unfold xV;rw[ap zo]
 refine zh ?_;apply cE P2 (PY _) (Qd _) encS namesL rfl rfl rfl rfl zk (by simp) rfl
 intro sv w1 a0 a3;have m1:=a0.ld a2;refine zh ?_;refine zvH (RV.indexAddr a0 P2 (PY _) rfl rfl c.toNat zo a2) ?_;refine ah rfl rfl ⟨by rw[hn],a3⟩
def uR{c:Nat}(h:c<36):xV (c:Int)=nth namesL c:=by unfold xV;rw[ap zo,Int.toNat_natCast]
def DA{a b:UInt8}(h:¬a=b):((a.toNat:Int)==(b.toNat:Int))=false:=by
 simp only[beq_eq_false_iff_ne,ne_eq,Int.natCast_inj];exact λe=>h (UInt8.toNat_inj.1 e)
def oF(s:List UInt8)(w:ix):MX Mc 259 [.string (bs s)] w λv w'=>v=nI (qU namesL s)/\MZ w w':=by
 apply L0 func259 ntmps259 rfl rfl;refine zh ?_
 apply zlp (λy:Nat×ix=>[(0,.string (bs s)),(3,nI y.1)]) (λy=>y.2) (λy=>y.1<=36/\MZ w y.2/\∀i,i<y.1->(nth namesL i==s)=false) (λy=>36-y.1) (0,w) ⟨L1 _,LY _,λi hi=>absurd hi (L5 i)⟩;rintro⟨c,w1⟩ ⟨hc,hE,a2⟩;dsimp only at hc hE a2 ⊢;refine zh ?_
 refine zC ?_ ?_
 ·intro a1;replace a1:c<36:=dT a1;refine zh ?_;apply zc call142 (qC (c:Int) w1);rintro v w2 ⟨rfl,a4⟩;rw[uR a1];refine zh ?_;refine zvH (bP rfl rfl) ?_;refine zC ?_ ?_
  ·intro hy;have a0:c<namesL.length:=by rw[mA];exact a1
   have hf:namesL.findIdx? (· == s)=some c:=MG.2 ⟨a0,by rw[<-aD a0];exact hy,λj hj=>by rw[<-aD zo,a2 j hj];decide⟩;refine zh ?_;refine ah rfl rfl ⟨by unfold qU;rw[hf],hE.J a4⟩
  intro hy;refine zh ?_;refine zxd (c+1,w2) ⟨a1,hE.J a4,λi hi=>(L4.1 hi).elim (a2 i) (λe=>by rw[e];exact hy)⟩
 intro a3;replace a3:36<=c:=dF a3;have hf:namesL.findIdx? (· == s)=none:=MY.2 λx hx=>by
  obtain⟨j,hj,rfl⟩:=cu hx;exact a2 j (by have:namesL.length=36:=rfl;omega)
 refine zh ?_;refine ah rfl rfl ⟨by unfold qU;rw[hf],hE⟩
def oE(s:List UInt8)(w:ix):MX Mc 103 [.string (bs s)] w λv w'=>v=nI (qU namesL s)/\MZ w w':=by
 apply L0 func103 ntmps103 rfl rfl;refine zh ?_
 apply zlp (λy:Nat×ix=>[(0,.string (bs s)),(3,nI y.1)]) (λy=>y.2) (λy=>y.1<=36/\MZ w y.2/\∀i,i<y.1->(nth namesL i==s)=false) (λy=>36-y.1) (0,w) ⟨L1 _,LY _,λi hi=>absurd hi (L5 i)⟩;rintro⟨c,w1⟩ ⟨hc,hE,a2⟩;dsimp only at hc hE a2 ⊢;refine zh ?_
 refine zC ?_ ?_
 ·intro a1;replace a1:c<36:=dT a1;refine zh ?_;apply zc call142 (qC (c:Int) w1);rintro v w2 ⟨rfl,a4⟩;rw[uR a1];refine zh ?_;refine zvH (bP rfl rfl) ?_;refine zC ?_ ?_
  ·intro hy;have a0:c<namesL.length:=by rw[mA];exact a1
   have hf:namesL.findIdx? (· == s)=some c:=MG.2 ⟨a0,by rw[<-aD a0];exact hy,λj hj=>by rw[<-aD zo,a2 j hj];decide⟩;refine zh ?_;refine ah rfl rfl ⟨by unfold qU;rw[hf],hE.J a4⟩
  intro hy;refine zh ?_;refine zxd (c+1,w2) ⟨a1,hE.J a4,λi hi=>(L4.1 hi).elim (a2 i) (λe=>by rw[e];exact hy)⟩
 intro a3;replace a3:36<=c:=dF a3;have hf:namesL.findIdx? (· == s)=none:=MY.2 λx hx=>by
  obtain⟨j,hj,rfl⟩:=cu hx;exact a2 j (by have:namesL.length=36:=rfl;omega)
 refine zh ?_;refine ah rfl rfl ⟨by unfold qU;rw[hf],hE⟩
def GS:cI Mc 96 #[(0,1),(1,1),(2,1)]:=⟨_,underlying96,λw=>by kernel_rfl⟩
def FJ:cI Mc 237 #[(0,3),(3,1),(4,1),(5,1)]:=⟨_,underlying237,λw=>by kernel_rfl⟩
def IG:cI Mc 240 #[(0,1),(1,1),(2,1)]:=⟨_,underlying240,λw=>by kernel_rfl⟩
def K9:Elem Mc 234 240 3 32:=⟨underlying234,by kernel_rfl,zd⟩
def mT(c:UInt8)(i:Nat):UInt8:=if(signL.take i).contains c=true then c else 1
def om{c:UInt8}(h:i<8):mT c (i+1)=if(nth signL i==c)=true then c else mT c i:=by
 unfold mT;have:signL.take (i+1)=signL.take i++[nth signL i]:=bd (by have:signL.length=8:=rfl;omega);rw[this]
 by_cases e:nth signL i=c
 ·rw[e];simp
 have:(c==nth signL i)=false:=by simpa using λh=>e h.symm
 simp[e];have h2:¬c=nth signL i:=λh=>e h.symm
 simp[h2]
def Fi(l:List UInt8)(B:Nat)(O:Nat->Nat)(w:ix)(hR:Nf B O w)(hl:l.length<=4096):MX Mc 143 [.string (bs l)] w λv w'=>MZ w w'/\Sl lJ 3 w' v (yR l)/\Ni O w' v:=by
 obtain⟨T,e0,hT⟩:=hR.bound;have d':∀b,¬T<=O b:=λb=>by have:=hT b;omega
 have b1:¬(λq:Nat=>T<=q) 0:=λe=>zo
 apply L0 func143 ntmps143 rfl rfl;refine zh ?_
 apply zlp (λy:Nat×Nat×List T3×ln×(Nat->Nat)×World=>[(0,.string (bs l)),(3,y.2.2.2.1),(4,nI (y.2.1:Nat))]) (λy=>y.2.2.2.2.2) (λy=>y.2.1<=l.length/\l.length<y.1+y.2.1/\y.2.2.1.length<=y.2.1/\y.2.2.1++Fh l y.1 y.2.1=yR l/\MB lJ 240 3 y.2.2.2.2.1 y.2.2.2.2.2 T y.2.2.2.1 y.2.2.1/\Mg (λq=>T<=q) O w y.2.2.2.2.1 y.2.2.2.2.2/\Nf B y.2.2.2.2.1 y.2.2.2.2.2) (λy=>y.1) (l.length+1,0,[],nS,O,w) ⟨L1 _,by dsimp only;omega,L1 _,rfl,Nj _ _ _ _ _ _,MM b1 _ _,hR⟩;rintro⟨n,a,c',lv,O1,w1⟩ ⟨ha,hn,d8,hM,a5,hU,b7⟩;dsimp only at ha hn d8 hM a5 hU b7 ⊢;obtain⟨n,rfl⟩:∃m,n=m+1:=⟨n-1,zo⟩
 refine zh ?_;refine zvH (bS LZ rfl) ?_
 refine zC ?_ ?_
 ·intro b5;replace b5:a<l.length:=dT b5;rw[Fh,am zo]at hM;refine zh ?_;refine zvH (bZ LZ rfl rfl _ rfl zo) ?_
  by_cases c5:nth l a=32
  ·rw[ap c5]at hM;refine zTH rfl ((by rw[c5];rfl)) ?_;refine zxd (n,a+1,c',lv,O1,w1) ⟨b5,by dsimp only;omega,by dsimp only;omega,hM,a5,hU,b7⟩
  rw[am c5]at hM;apply aH rfl ((eN _ 32 zd c5));apply PD;apply aa;apply Py;apply NO;apply zv (M1 rfl);apply zv (Po rfl);apply Pe;apply aa;apply Py;refine ia (λz:Nat=>[(0,.string (bs l)),(3,lv),(4,nI (a:Nat)),(5,.int .u8 ((nth l a).toNat:Int)),(6,nI (z:Nat))]) (λz:Nat=>w1) (λz:Nat=>a<=z/\z<=l.length/\(∀i,a<=i->i<z->ak (nth l i)=true)/\tw ak l a l.length=z) ?_ ?_
  ·intro Qm hN;apply Pz;apply zlp (λk:Nat=>[(0,.string (bs l)),(3,lv),(4,nI (a:Nat)),(5,.int .u8 ((nth l a).toNat:Int)),(6,nI (k:Nat))]) (λk=>w1) (λk=>a<=k/\k<=l.length/\∀i,a<=i->i<k->ak (nth l i)=true) (λk=>l.length-k) a ⟨L6 _,ha,λi h1 h2=>zo⟩;rintro k ⟨a',a8,a7⟩;apply Py;apply Py;apply NO;apply zv (M1 rfl);apply zv (M1 rfl);apply zv (bS LZ rfl);apply zv (RV.lss rfl rfl);apply zv (M1 rfl)
   by_cases a1:k<l.length
   ·obtain⟨c,hc⟩:∃c,c=nth l k:=⟨_,rfl⟩
    have d2:=λh i h1 h2=>(L4.1 h2).elim (a7 i h1) (λe=>by rw[e,<-hc];exact h)
    have a3:=λh=>xj a' a8 (L6 _) a7 (.inr (by rw[<-hc];exact h))
    apply ay (d:=25) rfl (b':=true) (decide_eq_true zo);apply bt rfl
    apply zv (M1 rfl);apply bt rfl
    apply zv (M1 rfl);apply bt rfl
    apply zv (bZ LZ rfl rfl _ rfl zo);apply bt rfl
    apply zv (PS rfl rfl);apply bt rfl
    apply zv (M1 rfl);rw[<-hc]
    by_cases h1:65<=c.toNat
    ·apply ay (d:=30) rfl (b':=true) (decide_eq_true zo);apply bt rfl
     apply zv (M1 rfl);apply bt rfl
     apply zv (M1 rfl);apply bt rfl
     apply zv (bZ LZ rfl rfl _ rfl zo);apply bt rfl
     apply zv (RV.leq rfl rfl);apply bt rfl
     apply zv (aT rfl rfl);apply bt rfl
     apply zv (M1 rfl);rw[<-hc]
     by_cases h2:c.toNat<=90
     ·have a6:ak c=true:=by simp[ak,h1,h2]
      apply ay (d:=36) rfl (b':=true) (decide_eq_true zo);apply NU rfl rfl rfl
      apply NU rfl rfl rfl;apply NU rfl rfl rfl
      apply NU rfl rfl rfl;apply NU rfl rfl rfl
      apply bR rfl rfl;apply bR rfl rfl
      apply bR rfl rfl;apply bR rfl rfl
      apply NU rfl rfl rfl;apply bt rfl
      apply zv (aT rfl rfl);apply zv (aT rfl rfl)
      apply Pe;apply aa
      apply aM rfl rfl;apply PD
      apply aa;apply Pz
      apply NO;apply zv (M1 rfl)
      apply zv (Nk rfl rfl (N6 zo));apply zv (Po rfl)
      apply Pe;apply au
      refine zxd (k+1) ⟨zo,a1,d2 a6⟩
     apply ay (d:=36) rfl (b':=false) (decide_eq_false zo);apply bt rfl
     apply zv (M1 rfl);apply bt rfl
     apply zv (M1 rfl);apply bt rfl
     apply zv (bZ LZ rfl rfl _ rfl zo);apply bt rfl
     apply zv (PS rfl rfl);apply bt rfl
     apply zv (M1 rfl);rw[<-hc]
     by_cases h3:97<=c.toNat
     ·apply ay (d:=41) rfl (b':=true) (decide_eq_true zo);apply bt rfl
      apply zv (M1 rfl);apply bt rfl
      apply zv (M1 rfl);apply bt rfl
      apply zv (bZ LZ rfl rfl _ rfl zo);apply bt rfl
      apply zv (RV.leq rfl rfl);apply bt rfl
      apply zv (aT rfl rfl);apply bt rfl
      apply zv (aV rfl rfl);apply zv (aT rfl rfl)
      apply Pe;apply aa
      rw[<-hc]
      by_cases h4:c.toNat<=122
      ·have a6:ak c=true:=by simp[ak,h3,h4]
       apply aM rfl ((decide_eq_true zo));apply PD
       apply aa;apply Pz
       apply NO;apply zv (M1 rfl)
       apply zv (Nk rfl rfl (N6 zo));apply zv (Po rfl)
       apply Pe;apply au
       refine zxd (k+1) ⟨zo,a1,d2 a6⟩
      have a6:ak c=false:=by simp[ak,h2,h4]
      apply aH rfl ((decide_eq_false zo));apply WC.exit
      apply aB;apply aB
      apply aJ;exact dA (hN k ⟨a',a8,a7,a3 a6⟩) ⟨rfl,rfl,rfl,rfl,rfl,trivial⟩ rfl
     have a6:ak c=false:=by simp[ak,h2,h3]
     apply ay (d:=41) rfl (b':=false) (decide_eq_false zo);refine zh ?_
     refine zFH rfl rfl ?_;exact dA (hN k ⟨a',a8,a7,a3 a6⟩) ⟨rfl,rfl,rfl,rfl,rfl,trivial⟩ rfl
    have a6:ak c=false:=by
     have:¬97<=c.toNat:=zo;simp[ak,h1,this]
    apply ay (d:=30) rfl (b':=false) (decide_eq_false zo);refine zh ?_
    refine zvH (bZ LZ rfl rfl _ rfl zo) ?_;apply ay (d:=36) rfl (b':=false) rfl
    rw[<-hc];apply ay (d:=41) rfl (b':=false) (decide_eq_false zo);refine zh ?_;refine zFH rfl rfl ?_;exact dA (hN k ⟨a',a8,a7,a3 a6⟩) ⟨rfl,rfl,rfl,rfl,rfl,trivial⟩ rfl
   obtain rfl:k=l.length:=zo;apply ay (d:=25) rfl (b':=false) (decide_eq_false zo);refine zh ?_;refine zFH rfl rfl ?_;exact dA (hN l.length ⟨a',a8,a7,xj a' a8 (L6 _) a7 (.inl rfl)⟩) ⟨rfl,rfl,rfl,rfl,rfl,trivial⟩ rfl
  rintro k ⟨a',a8,a7,d1⟩;refine zh ?_
  by_cases b9:ak (nth l a)=true
  ·have e4:a<k:=by rw[<-d1];exact Ii b5 (L6 _) b9
   rw[ap b9,d1]at hM;refine zTH rfl ((decide_eq_true zo)) ?_;refine zvH (cm LZ rfl rfl rfl a k rfl rfl a' a8) ?_;apply zv (aI IG (Ns _) rfl (by first|rfl|(simp only[Mw,MJ];rfl)) rfl rfl);apply Nl K9 a5 b7 (((97,jF l a k,a):T3)) (λ_=>rfl) rfl rfl rfl (by simp[L9,lJ]) zo zo zo zd rfl rfl;intro d0 w2 O2 a0 b2 b6;refine zh ?_;refine zxd (n,k,c'++[(97,jF l a k,a)],d0,O2,w2) ⟨a8,by dsimp only;omega,by simp;omega,by rw[<-hM];simp,a0,hU.J (b2.mono (λ_ h=>by rw[h];omega) b1),b6⟩
  obtain rfl:a=k:=by
   rcases Nat.lt_or_ge a k with h|h
   ·exact absurd (a7 a (L6 _) h) b9
   omega
  rw[am b9]at hM;refine zFH rfl ((decide_eq_false zo)) ?_;apply zv (Nm (cells:=(lJ (1,[],a)).toArray) IG (Ns _) rfl rfl);apply aw b7 (T+1) zo (Ns _) rfl;intro tb wa O2 b8 d9 e1 e5;apply zsa (us:=(lJ (1,[],a)).toArray) b8 (sizeOf240 _);have d5:My O2 (wa.setRow tb (lJ (1,[],a)).toArray) (T+1) tb (lJ (1,[],a)).toArray 240:=b8.setRow;have b2:Mg (λq=>q=T+1) O1 w1 O2 (wa.setRow tb (lJ (1,[],a)).toArray):=d9.J (Ma zo b8.tag rfl);have b6:=e1.U (Ma (S:=λq=>q=T+1) (us:=(lJ (1,[],a)).toArray) zo b8.tag rfl);generalize wa.setRow tb (lJ (1,[],a)).toArray=w2 at *;have a0:=a5.U b2 zo zo;refine zh ?_;apply zlp (λz:Nat×ix=>[(0,.string (bs l)),(3,lv),(4,nI (a:Nat)),(5,.int .u8 ((nth l a).toNat:Int)),(7,nP tb),(8,nI (z.1:Nat))]) (λz=>z.2) (λz=>z.1<=8/\My O2 z.2 (T+1) tb #[.int .u8 ((mT (nth l a) z.1).toNat:Int),.string (bs []),nI (a:Nat)] 240/\Mg (λq=>T+1=q) O2 w2 O2 z.2) (λz=>8-z.1) (0,w2) ⟨L1 _,d5,MM zo _ _⟩;rintro⟨i,w3⟩ ⟨hi,b0,a9⟩;dsimp only at hi b0 a9 ⊢;refine zh ?_;refine zC ?_ ?_
  ·intro a2;replace a2:i<8:=dT a2;refine zh ?_;refine zvH (bZ LZ rfl rfl _ rfl zo) ?_
   by_cases hs:nth signL i=nth l a
   ·have a4:mT (nth l a) (i+1)=nth l a:=by rw[om a2,hs];simp
    refine zTH rfl ((by rw[show nth [40,41,124,42,43,63,126,94] i=nth l a from hs];simp)) ?_;apply ao (j:=0) b0 rfl (sizeOf5 _) rfl rfl rfl rfl
    have c9:Mg (λq=>T+1=q) O2 w3 O2 (w3.setCell ⟨tb,0,none⟩ (.int .u8 ((nth l a).toNat:Int))):=Mj zo b0.tag rfl;refine zh ?_;refine zxd (i+1,w3.setCell ⟨tb,0,none⟩ (.int .u8 ((nth l a).toNat:Int))) ⟨a2,by dsimp only;rw[a4];exact (b0.set 0 (.int .u8 ((nth l a).toNat:Int))),a9.J c9⟩
   have a4:mT (nth l a) (i+1)=mT (nth l a) i:=by rw[om a2,am (by simpa using hs)]
   refine zFH rfl ((DA hs)) ?_;refine zxd (i+1,w3) ⟨a2,by dsimp only;rw[a4];exact b0,a9⟩
  intro c6;obtain rfl:i=8:=dF c6;have d6:mT (nth l a) 8=B2 (nth l a):=rfl;rw[d6]at b0;refine zh ?_;apply zv (ai (us:=lJ (B2 (nth l a),[],a)) b0.V (isAgg240 _) (sizeOf240 _) rfl);apply Nl K9 (a0.U a9 zo zo) (b6.U a9) (((B2 (nth l a),[],a):T3)) (λ_=>rfl) rfl rfl rfl (by simp[L9,lJ]) zo zo zo zd rfl rfl;intro d3 w4 O4 b3 c9 e2;refine zh ?_;refine zxd (n,a+1,c'++[(B2 (nth l a),[],a)],d3,O4,w4) ⟨b5,by dsimp only;omega,by simp;omega,by rw[<-hM];simp,b3,((hU.J (b2.mono (λ_ h=>by rw[h];omega) b1)).J (a9.mono (λ_ h=>zo) b1)).J (c9.mono (λ_ h=>by rw[h];omega) b1),e2⟩
 intro d7;obtain rfl:a=l.length:=dF d7;rw[Fh,ap (L6 _)]at hM;refine zh ?_;apply zv (bS LZ rfl);apply zv (aI IG (Ns _) rfl (by first|rfl|(simp only[Mw,MJ];rfl)) rfl rfl);apply Nl K9 a5 b7 (((0,[],l.length):T3)) (λ_=>rfl) rfl rfl rfl (by simp[L9,lJ]) zo zo zo zd rfl rfl;intro d0 w2 O2 a0 b2 b6;have a9:=hU.J (b2.mono (λ_ h=>by rw[h];omega) b1);rw[hM]at a0;refine zh ?_;refine ah rfl rfl ⟨aP a9 d',a0.sl,a0.freeT e0 hT b6 a9⟩
end Go.Proofs.YteolbhblkgjbhaaGreatDoor
