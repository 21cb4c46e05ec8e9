/- Texts that the proof of this statement needs, merged and shortened. -/
import Derived.Test.YtcfhbfflgnbacaaGreatDoorQTableMakes5
set_option linter.defProp false
open Go renaming Value->ix,World->L3,TypeId->MX,Addr->NO,Program->PB,Operand->PT
open List renaming length_singleton->ka,mem_singleton->ln,mem_cons->Lk,eq_nil_of_length_eq_zero->Lm,length_append->Lo,append_nil->Lr,not_mem_nil->Lu,all_cons->LK,length_cons->LL,range->M0,getElem?_append_right->M1,append_assoc->M4,length_map->M5,mem_append->Mp,map_congr_left->Mr,take_length->Mt,drop_eq_getElem_cons->Mv,map_append->Mz,length->MH,mem_map->MK,mem_range->MO,getElem?_eq_some_iff->MQ,getElem?_append_left->MR,take_append_drop->N1,getElem?_toArray->N2,length_pos_iff->N9,getElem_range->Nc,findIdx?_eq_some_iff_getElem->Ni,size_toArray->Nk,flatMap_cons->Nl,getElem_map->Nv,all_eq_true->Nw,take_left'->Nx,nil_append->Ny,exists_cons_of_ne_nil->ND,take_of_length_le->NL,foldl_append->P4,flatMap_nil->P5,ext_getElem->P6,drop_length->P7,cons_append->P8,any_eq_true->P9,length_set->Ph,foldl_cons->Pi,append_inj->Pj,all_append->Pk,take_zero->Po,replicate->Pp,drop_zero->Pq,drop_drop->Pr,all_nil->PC,drop->PP
open Nat renaming zero_le->Li,not_lt_zero->M6,le_refl->M7,add_sub_cancel_left->MD,or_lt_two_pow->MG,pow_lt_pow_right->MI,div_eq_of_lt->MV,lt_of_lt_of_le->Ng,lt_of_le_of_lt->Nh,zero_add->Np,testBit_or->NH,lt_succ_iff_lt_or_eq->NI,add_assoc->NJ,testBit_two_pow_mul->NK,le_trans->NN,pow_le_pow_right->NU,one_mul->NV,testBit_two_pow->NZ,add_sub_cancel->P3,and_le_right->Pg,two_pow_pos->Pn,add_zero->PE,add_mul->PI
open Go.Proofs.Tryz renaming underlying22->Lj,sizeOf3->Lz,underlying50->LU,sizeOf106->Mq,zeroValue35->Ms,prog->Mu,sizeOf22->Mw,sizeOf35->ME,sizeOf33->MM,sizeOf78->N5,zeroValue106->N6,underlying31->N7,sizeOf28->Nz,isAgg35->NA,isAgg33->NB,isAgg106->NC,sizeOf52->NM,underlying104->NS,sizeOf4->P1,isAgg78->P2,zeroValue95->Pb,zeroValue78->Pc,zeroValue30->Pd,sizeOf95->Pe,call23->Pu,isAgg52->Px,sizeOf50->PK,sizeOf30->PL,call42->PM,underlying65->PQ,zeroValue52->PX,zeroValue33->PY,call81->Q3,call60->Q4,call31->Q5
open Go.VL.Ext renaming refl->Ll
open Go.VL.Ret renaming enter->Ln
open Go.VL.Upd renaming setRow->Lp,J->LD,mono->MF,set->N8,refl->Nm
open Go.VL.WH renaming one->Lq,done->MC,leaf->MZ,two->NQ
open Go.Value renaming oneCell'->Ls,int->PH
open Go.VL.RowT renaming U->Ly,nil->MN
open Bool renaming and_eq_true->LN,or_eq_true->MA,false_or->MT,true_and->Nb
open Go.VL renaming Upd->M8,Ext->N4,RowT->Nf,Rng->Nn,Ints->Nq,BlkO->Ns,Ret->NG,NewV->NT,Free->PW
open Go.Proofs.YtcfhbfflgnbacaaGreatDoor renaming RightD->M9,PSt->Pv,RowsN->PA,StarP->PN,LgA->Q0,Cls->Q2,LgS->Q7
open Go.VL.Free renaming U->My
open UInt8 renaming ofNat->MB,toNat->Py
open Classical renaming byContradiction->MJ
open Option renaming none->MP,some->No,getD_some->NY
open Int renaming le_refl->MS,toNat_natCast->Nr
open Go.VL.Sl renaming ext->MU
open Go.VL.RV renaming build->MW,extract->N0,move->Pf,load->Q6
open Go.Lib renaming ctz->MY,deBruijn64tab->Pa,lowest_bit->Pw,ctzFrom->PJ
open Go.VL.WL renaming push->Na,storeAt->Nj
open Go.VL.WC renaming still->Nu,tail->PG
open Go.Addr renaming add->NF
open Go.VL.WS renaming nil->NP
open Go.VL.BlkO renaming setRow->NR,U->Ps
open Go.IntKind renaming wrap_u64->NW,u64->Q8
open Go.VL.QF renaming of->NX
open Go.World renaming setCell->Pm
open Go.Proofs renaming TabAt->Pz
open Go.VL.Rng renaming U->PD
open Go.Instr renaming fill->PF
open Option.some renaming injEq->PO
open Go.Value.agg renaming inj->PS
open List.cons renaming injEq->PU,inj->PV
open Go.Proofs.YtcfhbfflgnbacaaGreatDoor.Rw9 renaming add->PZ
open Go.Builtin renaming append_->Q9
set_option maxRecDepth 10000
open Go.VL Go.Proofs Go.Proofs.Tryz
variable {α:Type}{se:Bool}{w w':L3}{tabs:List (List (List Nat))}{rows:List (List Nat)}{A a:List (List Nat)×List Nat}{ks:List (List UInt8)}{l li lk ms:List Int}{L M:List Int->Prop}{a0 g r:List Nat}{s:List UInt8}{cs lc rc:List ix}{E T:MX}{B b c i j k m many n p q:Nat}{O O' tl:Nat->Nat}{nx:Nat->Nat->Nat}{S:Nat->Prop}{gv v wv':ix}{enc:α->List ix}
namespace Go.Proofs.YtcfhbfflgnbacaaGreatDoor
def Bh(nv tv:ix)(rows:List (List Nat))(a3:List Nat)(w:L3)(hn:PA w nv rows)(a':Sl fq 1 w tv a3)(hr:M9 rows a3):
  NG Mu 75 [.agg #[nv,tv]] w λv w'=>v=.bool true/\N4 w w':=by
 have b4:=hr.le;have b1:=hr.pos;have a9:=hr.tl;apply Ln func75 ntmps75 rfl rfl;refine zh ?_;apply aI (aw w) 1 zo rfl rfl;intro xb w1 O1 a0 b6 b7 a6;obtain⟨vs,hv,a7,a8⟩:=hn.ext a6;have b3:=a'.ext a6;have c0:w1.cell? (nA xb 0)=some nv:=a0.cell 0 rfl;have c1:w1.cell? (nA xb 1)=some tv:=a0.cell 1 rfl;refine zh ?_;rw[a7];apply ax (d:=12) rfl (b':=true) ((decide_eq_true zo));refine zh ?_;apply ax (d:=16) rfl (b':=true) ((decide_eq_true zo));refine zh ?_;rw[show((a3.length:Int)==(rows.length:Int))=true from by rw[beq_iff_eq];omega];apply zlp (λz:Nat=>[(1,nP xb),(3,nI (rows.length:Nat)),(4,.bool true),(5,nI (z:Nat))]) (λz=>w1) (λz=>z<=rows.length) (λz=>rows.length-z) 0 (Li _);intro i hi;refine zh ?_
 by_cases a5:i<rows.length
 ·apply ax (d:=26) rfl (b':=true) ((decide_eq_true zo));refine zh ?_
  apply bp rfl rfl;obtain⟨a1,b0⟩:=hr.row i a5;have a4:=a8 i a5;have m1:w1.cell? (adr nv 1 i)=some (nth vs i):=by have:=hv.cell (i:=i) (j:=0) zo rfl;rwa[ar]at this
  refine zh ?_;rw[a1,show(((37:Nat):Int)==37)=true from rfl];apply zlp (λy:Nat=>[(1,nP xb),(3,nI (rows.length:Nat)),(4,.bool true),(5,nI (i:Nat)),(6,nI (y:Nat))]) (λy=>w1) (λy=>y<=37) (λy=>37-y) 0 (Li _)
  intro k hk;refine zh ?_;rw[a1];refine zC ?_ ?_
  ·intro a2;replace a2:k<37:=dT a2;have hx:=b0 k a2;have m2:w1.cell? (adr (nth vs i) 1 k)=some (nI ((nth (nth rows i) k:Nat):Int)):=by have:=a4.cell (i:=k) (j:=0) zo rfl;rwa[ar]at this
   have b2:nth (nth rows i) k<rows.length:=hx;refine zh ?_;apply ax (d:=49) rfl (b':=true) rfl;refine zh ?_;apply ax (d:=60) rfl (b':=true) ((decide_eq_true zo));refine zh ?_;rw[show decide (((nth (nth rows i) k:Nat):Int)<((rows.length:Nat):Int))=true from decide_eq_true zo];refine zxd (k+1) a2
  intro b5;refine zh ?_;refine zxd (i+1) a5
 obtain rfl:i=rows.length:=zo;apply ax (d:=26) rfl (b':=false) ((decide_eq_false zo));refine zh ?_;refine zFH rfl rfl ?_;refine af rfl rfl ⟨rfl,a6⟩
def yw[Inhabited α](f:Nat->α)(h:q<n):nth ((M0 n).map f) q=f q:=by
 rw[cz (by simpa using h),aB (by simpa using h)];simp
def I2(f:Nat->α)(x:α):((M0 n).map f).set q x=(M0 n).map λj=>if j=q then x else f j:=by
 refine P6 (by simp) λj h1 h2=>?_
 rw[List.getElem_set];simp only[Nv,Nc]
 by_cases e:q=j
 ·rw[ap e,ap e.symm]
 rw[am e,am λe'=>e e'.symm]
structure Mx(O:Nat->Nat)(w:L3)(ov:ix)(vs:List ix)(n k:Nat)(F:Nat->Nat->Int):Prop where
 row:Nf sn 22 1 O w 2 ov vs
 len:vs.length=n
 at_:∀t,t<k->Nf encI 3 1 O w (10+t) (nth vs t) ((M0 n).map (F t))
section
variable{O O':Nat→Nat}{w w':L3}{ov:ix}{vs:List ix}{n k:Nat}{F G:Nat→Nat→Int}
def Mx.U{P:Nat->Prop}(h:Mx O w ov vs n k F)(u:M8 P O w O' w')(h2:¬P 2)(hk:∀t,t<k->¬P (10+t)):Mx O' w' ov vs n k F:=
 ⟨h.row.U u zd h2,h.len,λt ht=>(h.at_ t ht).U u zo (hk t ht)⟩
def Mx.drew(h:Mx O w ov vs n k F):Mx O w.drew ov vs n k F:=⟨h.row.drew,h.len,λt ht=>(h.at_ t ht).drew⟩
def Mx.eq(h:Mx O w ov vs n k F)(e:∀p q,p<k->q<n->F p q=G p q):Mx O w ov vs n k G:=
 ⟨h.row,h.len,λt ht=>by rw[<-Mr λq hq=>e t q ht (MO.1 hq)];exact h.at_ t ht⟩
def Mx.c0(h:Mx O w ov vs n k F)(hp:p<n):w.cell? (adr ov 1 p)=some (nth vs p):=by
 have:=h.row.sl.cell (i:=p) (j:=0) (by rw[h.len];exact hp) rfl;rwa[ar]at this
def Mx.c1(h:Mx O w ov vs n k F)(hp:p<k)(hq:q<n):w.cell? (adr (nth vs p) 1 q)=some (nI (F p q)):=by
 have:=(h.at_ p hp).sl.cell (i:=q) (j:=0) (by simpa using hq) rfl;rwa[ar,yw _ hq]at this
def Mx.put(h:Mx O w ov vs n k F)(x:Int)(hr:Nf encI 3 1 O w' (10+p) (nth vs p) (((M0 n).map (F p)).set q x))(u:M8 (λj=>j=10+p) O w O w'):Mx O w' ov vs n k λp' q'=>if p'=p/\q'=q then x else F p' q':=
 ⟨h.row.U u zd zo,h.len,λt ht=>by
  by_cases e:t=p
  ·subst e;rw[I2]at hr;rw[Mr λq' _=>show(if t=t/\q'=q then x else F t q')=(if q'=q then x else F t q')from by simp];exact hr
  rw[Mr λq' _=>show(if t=p/\q'=q then x else F t q')=F t q' from am λh=>e h.1]
  exact(h.at_ t ht).U u zo zo⟩
end
def MxV(B:Nat)(w:L3)(v:ix)(n:Nat)(F:Nat->Nat->Int):Prop:=∃vs,Sl sn 1 w v vs/\NT B v/\vs.length=n/\∀p,p<n->Sl encI 1 w (nth vs p) ((M0 n).map (F p))/\NT B (nth vs p)
def Mx.val{ov:ix}{vs:List ix}{F:Nat->Nat->Int}(h:Mx O w ov vs n n F)(r:Nn B O w):MxV B w ov n F:=
 ⟨vs,h.row.sl,h.row.newV zd r,h.len,λp hp=>⟨(h.at_ p hp).sl,(h.at_ p hp).newV zo r⟩⟩
def ug(nx:Nat->Nat->Nat)(tl:Nat->Nat)(r p q m:Nat):Int:=if 0<=eu nx tl r p q then eu nx tl r p q else if((M0 m).any λm=>decide (0<=eu nx tl r (nx p m) (nx q m)))=true then(r:Int)+1 else -1
def KN(nx:Nat->Nat->Nat)(tl:Nat->Nat)(r p q:Nat):ug nx tl r p q 0=eu nx tl r p q:=by
 have:=AQ nx tl r p q;unfold ug
 split
 ·rfl
 simp;omega
def JE(nx:Nat->Nat->Nat)(tl:Nat->Nat)(r p q:Nat):ug nx tl r p q 37=eu nx tl (r+1) p q:=rfl
def JD{r:Nat}(hm:m<=37)(h:0<=ug nx tl r p q m):ug nx tl r p q 37=ug nx tl r p q m:=by
 unfold ug at h ⊢
 by_cases h0:0<=eu nx tl r p q
 ·rw[ap h0,ap h0]
 rw[am h0]at h;rw[am h0,am h0]
 by_cases h1:((M0 m).any λm=>decide (0<=eu nx tl r (nx p m) (nx q m)))=true
 ·rw[ap h1,ap];rw[P9]at h1 ⊢;obtain⟨x,hx,h2⟩:=h1;exact⟨x,MO.2 (by have:=MO.1 hx;omega),h2⟩
 rw[am h1]at h;omega
def GX{r:Nat}(h:ug nx tl r p q m<0):ug nx tl r p q m = -1/\eu nx tl r p q = -1/\ug nx tl r p q (m+1)=if 0<=eu nx tl r (nx p m) (nx q m)then(r:Int)+1 else -1:=by
 have hl:=AQ nx tl r p q;unfold ug at h ⊢
 by_cases h0:0<=eu nx tl r p q
 ·rw[ap h0]at h;omega
 rw[am h0]at h;rw[am h0,am h0]
 by_cases h1:((M0 m).any λm=>decide (0<=eu nx tl r (nx p m) (nx q m)))=true
 ·rw[ap h1]at h;omega
 refine⟨am h1,zo,?_⟩;rw[List.range_succ,List.any_append,Bool.eq_false_iff.2 h1,MT];simp
def zl(nv tv:ix)(rows:List (List Nat))(a0:List Nat)(w:L3)(hn:PA w nv rows)(f3:Sl fq 1 w tv a0)(hr:M9 rows a0):
  NG Mu 74 [.agg #[nv,tv]] w λv w'=>N4 w w'/\MxV w.heap.size w' v rows.length (eu (nxD rows) (nth a0) rows.length):=by
 have j0:=hr.le;have h7:=hr.pos;have h3:=hr.tl;have h9:=hr.nx;obtain⟨n,g8⟩:∃n,n=rows.length:=⟨_,rfl⟩
 have hz:¬(λq:Nat=>2<=q) 0:=zd;apply Ln func74 ntmps74 rfl rfl;refine zh ?_;apply aI (aw w) 1 zo rfl rfl;intro xb w1 O1 d0 i5 i7 j3;obtain⟨vn,hv,h0,e'⟩:=hn;have c0:w1.cell? (nA xb 0)=some nv:=d0.cell 0 rfl;refine zh ?_;refine zvH (aM hv.sh LU rfl) ?_;rw[h0,<-g8];apply qy AJ nS zk rfl i7 2 zd n rfl rfl rfl rfl zo zo rfl;intro w2 O2 ov f7 i4 i6 j2;have fx:∀O' W,M8 (λq=>2<=q) O1 w1 O' W->W.cell? (nA xb 0)=some nv/\W.cell? (nA xb 1)=some tv:=λO' W u=>⟨(d0.U u zd zd).cell 0 rfl,(d0.U u zd zd).cell 1 rfl⟩
 have fE:∀O' W,M8 (λq=>2<=q) O1 w1 O' W->N4 w W:=λO' W u=>((i5.mono (S':=λq=>1<=q) (λq h=>zo) zd).J (u.mono (λq h=>zo) zd)).ext
 have g2:=i4.mono (S':=λq=>2<=q) (λq h=>zo) hz;have b8:∀W,N4 w W->∀p,p<n->W.cell? (adr tv 1 p)=some (.int .u64 ((nth a0 p:Nat):Int)):=λW e p hp=>by
  have:=(f3.ext e).cell (i:=p) (j:=0) zo rfl;rwa[ar]at this
 have b9:∀W,N4 w W->∀p,p<n->W.cell? (adr nv 1 p)=some (nth vn p)/\∀m,m<37->W.cell? (adr (nth vn p) 1 m)=some (nI ((nxD rows p m:Nat):Int)):=λW e p hp=>⟨by
  have:=(hv.ext e).cell (i:=p) (j:=0) zo rfl;rwa[ar]at this,λm hm=>by
  have:=((e' p zo).ext e).cell (i:=m) (j:=0) (by rw[(hr.row p zo).1];exact hm) rfl;rwa[ar]at this⟩
 have g7:∀p m,p<n->m<37->nxD rows p m<n:=λp m hp hm=>by rw[g8]at hp ⊢;exact h9 p m hp hm
 refine zh ?_;apply zlp (λz:Nat×(Nat->Nat)×World×List ix=>[(1,nP xb),(3,nI (n:Nat)),(4,ov),(5,nI (z.1:Nat))]) (λz=>z.2.2.1) (λz=>z.1<=n/\M8 (λq=>2<=q) O1 w1 z.2.1 z.2.2.1/\Nn w.heap.size z.2.1 z.2.2.1/\Mx z.2.1 z.2.2.1 ov z.2.2.2 n z.1 (eu (nxD rows) (nth a0) 0)) (λz=>n-z.1) (0,O2,w2,Pp n nS) ⟨Li _,g2,i6,⟨f7,by simp,λt ht=>absurd ht (M6 t)⟩⟩
 rintro⟨p,O3,w3,b6⟩ ⟨hp,g0,g4,e5⟩;dsimp only at hp g0 g4 e5 ⊢;have i2:=e5.len;refine zh ?_;refine zC ?_ ?_
 ·intro a6;replace a6:p<n:=dT a6;refine zh ?_;apply cY mE (val:=λx:Int=>nI x) (0:Int) zk (λ_=>rfl) g4 (10+p) zo n rfl rfl rfl rfl zo zo rfl;intro w4 O4 rv i9 d9 d8 e3 j1;have c':=e5.U d8 zo (λt ht=>zo);apply zv (ai c'.row.sl.sh LU (Mw _) rfl rfl p rfl zo);apply Nj c'.row p zo rv (Mw _) d9.one zd rfl rfl rfl rfl;intro w5 f6 c8;have f4:=d9.U c8 zo zo;have e1:=e3.U c8;have g3:=(g0.J (d8.mono (λ_ h=>zo) hz)).J (c8.mono (λ_ h=>zo) hz);have i1:(b6.set p rv).length=n:=by rw[Ph];exact i2
  have i0:nth (b6.set p rv) p=rv:=by rw[bm zo,ap rfl]
  have f':∀t,t<p->Nf encI 3 1 O4 w5 (10+t) (nth (b6.set p rv) t) ((M0 n).map (eu (nxD rows) (nth a0) 0 t)):=λt ht=>by
   rw[bm zo,am zo];exact(c'.at_ t ht).U c8 zo zo
  generalize b6.set p rv=vs5 at *
  have e4:Mx O4 w5 ov vs5 n (p+1) λp' q'=>if p'<p\/q'<0 then eu (nxD rows) (nth a0) 0 p' q' else 0:=⟨f6,i1,λt ht=>by
   by_cases e:t=p
   ·subst e;rw[i0,Mr λq' _=>show(if t<t\/q'<0 then eu (nxD rows) (nth a0) 0 t q' else 0)=(λ_=>(0:Int)) q' from am zo,List.map_const',List.length_range];exact f4
   rw[Mr λq' _=>show(if t<p\/q'<0 then eu (nxD rows) (nth a0) 0 t q' else 0)=eu (nxD rows) (nth a0) 0 t q' from ap zo]
   exact f' t zo⟩
  refine zh ?_;apply zlp (λy:Nat×L3=>[(1,nP xb),(3,nI (n:Nat)),(4,ov),(5,nI (p:Nat)),(6,nI (y.1:Nat))]) (λy=>y.2) (λy=>y.1<=n/\M8 (λq=>2<=q) O1 w1 O4 y.2/\Nn w.heap.size O4 y.2/\Mx O4 y.2 ov vs5 n (p+1) (λp' q'=>if p'<p\/q'<y.1 then eu (nxD rows) (nth a0) 0 p' q' else 0)) (λy=>n-y.1) (0,w5) ⟨Li _,g3,e1,e4⟩
  rintro⟨q,w6⟩ ⟨hq,d5,d6,b5⟩;dsimp only at hq d5 d6 b5 ⊢;refine zh ?_;refine zC ?_ ?_
  ·intro a8;replace a8:q<n:=dT a8;have c5:=b5.at_ p zo;have m0:=b5.c0 a6;refine zh ?_;refine zvH (ai b5.row.sl.sh LU (Mw _) rfl rfl p rfl zo) ?_;apply zv (ai c5.sl.sh Lj (Lz _) rfl rfl q rfl (by simp;omega));apply Nj (val:=λx:Int=>nI x) c5 q (by simp;omega) (-1:Int) (Lz _) rfl zo rfl rfl rfl rfl;intro w7 a7 b4;have a4:=b5.put (-1) a7 b4;have c9:=d6.U b4;have b7:=d5.J (b4.mono (λ_ h=>zo) hz);have a9:=fx _ _ b7;have e7:=fE _ _ b7;have t1:=b8 _ e7 p a6;have t2:=b8 _ e7 q a8;refine zh ?_;apply Nu zk zk;refine zh ?_;refine zwH (RV.ld (by first|exact a9.2|exact t1|exact t2) rfl) ?_;apply zw (ai f3.sh N7 (Nz _) rfl rfl p rfl zo);refine zwH (RV.ld (by first|exact a9.2|exact t1|exact t2) rfl) ?_;refine zwH (RV.ld (by first|exact a9.2|exact t1|exact t2) rfl) ?_;apply zw (ai f3.sh N7 (Nz _) rfl rfl q rfl zo);refine zwH (RV.ld (by first|exact a9.2|exact t1|exact t2) rfl) ?_;apply NP;refine zh ?_;refine zC ?_ ?_
   ·intro hd;have hd:nth a0 p≠nth a0 q:=by intro e;rw[e]at hd;simp at hd
    have a5:=(a4.drew).at_ p zo;have m8:=a4.drew.c0 a6;refine zh ?_;refine zvH (ai a4.row.sl.sh LU (Mw _) rfl rfl p rfl zo) ?_;apply zv (ai a5.sl.sh Lj (Lz _) rfl rfl q rfl (by simp;omega));apply Nj (val:=λx:Int=>nI x) a5 q (by simp;omega) (0:Int) (Lz _) rfl zo rfl rfl rfl rfl;intro w9 a' d4;have g5:=a4.drew.put 0 a' d4;refine zh ?_;refine zxd (q+1,w9) ⟨a8,b7.drew.J (d4.mono (λ_ h=>zo) hz),c9.drew.U d4,g5.eq λp' q' c6 d7=>by dsimp only;by_cases e:p'=p/\q'=q;(obtain⟨rfl,rfl⟩:=e;rw[ap ⟨rfl,rfl⟩,ap zo];unfold eu;rw[am hd]);(rw[am e,am e];by_cases e2:p'<p\/q'<q;(rw[ap e2,ap zo]);(rw[am e2,am zo]))⟩
   intro hd;have hd:nth a0 p=nth a0 q:=by
    have:((nth a0 p:Nat):Int)=((nth a0 q:Nat):Int):=by simpa using hd
    omega
   refine zh ?_;refine zxd (q+1,w7.drew) ⟨a8,b7.drew,c9.drew,a4.drew.eq λp' q' c6 d7=>by dsimp only;by_cases e:p'=p/\q'=q;(obtain⟨rfl,rfl⟩:=e;rw[ap ⟨rfl,rfl⟩,ap zo];unfold eu;rw[ap hd]);(rw[am e];by_cases e2:p'<p\/q'<q;(rw[ap e2,ap zo]);(rw[am e2,am zo]))⟩
  intro f9;have f5:q=n:=dF f9;subst f5;refine zh ?_;refine zxd (p+1,O4,w6,vs5) ⟨a6,d5,d6,b5.eq λp' q' c6 d7=>ap (.inr d7)⟩
 intro e8;have e6:p=n:=dF e8;rw[e6]at e5;clear e6 e8 hp;refine zh ?_;apply zlp (λz:Nat×L3=>[(1,nP xb),(3,nI (n:Nat)),(4,ov),(7,nI ((z.1:Nat)+1:Int))]) (λz=>z.2) (λz=>z.1<=n/\M8 (λq=>2<=q) O1 w1 O3 z.2/\Nn w.heap.size O3 z.2/\Mx O3 z.2 ov b6 n n (eu (nxD rows) (nth a0) z.1)) (λz=>n-z.1) (0,w3) ⟨Li _,g0,g4,e5⟩;rintro⟨r,w4⟩ ⟨h5,d8,e3,c'⟩;dsimp only at h5 d8 e3 c' ⊢;refine zh ?_;refine zC ?_ ?_
 ·intro f8;replace f8:r<n:=dT f8;refine zh ?_;apply zlp (λy:Nat×L3=>[(1,nP xb),(3,nI (n:Nat)),(4,ov),(7,nI ((r:Nat)+1:Int)),(8,nI (y.1:Nat))]) (λy=>y.2) (λy=>y.1<=n/\M8 (λq=>2<=q) O1 w1 O3 y.2/\Nn w.heap.size O3 y.2/\Mx O3 y.2 ov b6 n n (λp' q'=>if p'<y.1 then eu (nxD rows) (nth a0) (r+1) p' q' else eu (nxD rows) (nth a0) r p' q')) (λy=>n-y.1) (0,w4) ⟨Li _,d8,e3,c'.eq λp' q' _ _=>(am (M6 p')).symm⟩;rintro⟨p,w5⟩ ⟨h8,c8,e1,e4⟩;dsimp only at h8 c8 e1 e4 ⊢;refine zh ?_;refine zC ?_ ?_
  ·intro a6;replace a6:p<n:=dT a6;refine zh ?_;apply zlp (λx:Nat×L3=>[(1,nP xb),(3,nI (n:Nat)),(4,ov),(7,nI ((r:Nat)+1:Int)),(8,nI (p:Nat)),(9,nI (x.1:Nat))]) (λx=>x.2) (λx=>x.1<=n/\M8 (λq=>2<=q) O1 w1 O3 x.2/\Nn w.heap.size O3 x.2/\Mx O3 x.2 ov b6 n n (λp' q'=>if p'<p\/p'=p/\q'<x.1 then eu (nxD rows) (nth a0) (r+1) p' q' else eu (nxD rows) (nth a0) r p' q')) (λx=>n-x.1) (0,w5) ⟨Li _,c8,e1,e4.eq λp' q' _ _=>by dsimp only;by_cases e:p'<p;(rw[ap e,ap (.inl e)]);(rw[am e,am zo])⟩;rintro⟨q,w6⟩ ⟨h6,d5,d6,b5⟩;dsimp only at h6 d5 d6 b5 ⊢;refine zh ?_;refine zC ?_ ?_
   ·intro a8;replace a8:q<n:=dT a8;obtain⟨F,hF⟩:∃F:Nat->Nat->Int,F=λp' q'=>if p'<p\/p'=p/\q'<q then eu (nxD rows) (nth a0) (r+1) p' q' else eu (nxD rows) (nth a0) r p' q':=⟨_,rfl⟩
    have i8:∀p' q',F p' q'=eu (nxD rows) (nth a0) r p' q'\/F p' q'=eu (nxD rows) (nth a0) (r+1) p' q':=λp' q'=>by
     rw[hF];dsimp only
     by_cases e:p'<p\/p'=p/\q'<q
     ·rw[ap e];exact .inr rfl
     rw[am e];exact .inl rfl
    have g6:F p q=eu (nxD rows) (nth a0) r p q:=by rw[hF];exact am zo
    rw[<-hF]at b5;refine zh ?_;apply zlp (λu:Nat×L3=>[(1,nP xb),(3,nI (n:Nat)),(4,ov),(7,nI ((r:Nat)+1:Int)),(8,nI (p:Nat)),(9,nI (q:Nat)),(10,nI (u.1:Nat))]) (λu=>u.2) (λu=>u.1<=37/\M8 (λq=>2<=q) O1 w1 O3 u.2/\Nn w.heap.size O3 u.2/\Mx O3 u.2 ov b6 n n (λp' q'=>if p'=p/\q'=q then ug (nxD rows) (nth a0) r p q u.1 else F p' q')) (λu=>37-u.1) (0,w6) ⟨Li _,d5,d6,b5.eq λp' q' _ _=>by dsimp only;by_cases e:p'=p/\q'=q;(obtain⟨rfl,rfl⟩:=e;rw[ap ⟨rfl,rfl⟩,KN,g6]);(rw[am e])⟩;rintro⟨m,w7⟩ ⟨g9,b4,c9,a4⟩;dsimp only at g9 b4 c9 a4 ⊢;have m0:=a4.c0 a6;have m1:=a4.c1 a6 a8;rw[ap ⟨rfl,rfl⟩]at m1;have a7:=a4.at_ p a6;have g':37=m\/0<=ug (nxD rows) (nth a0) r p q m->Mx O3 w7 ov b6 n n (λp' q'=>if p'<p\/p'=p/\q'<q+1 then eu (nxD rows) (nth a0) (r+1) p' q' else eu (nxD rows) (nth a0) r p' q'):=λhh=>by
     have hv:ug (nxD rows) (nth a0) r p q m=eu (nxD rows) (nth a0) (r+1) p q:=by
      rw[<-JE]
      rcases hh with rfl|hh
      ·rfl
      exact(JD g9 hh).symm
     refine a4.eq λp' q' _ _=>?_
     by_cases e:p'=p/\q'=q
     ·obtain⟨rfl,rfl⟩:=e;rw[ap ⟨rfl,rfl⟩,ap zo,hv]
     rw[am e,hF];dsimp only
     by_cases e2:p'<p\/p'=p/\q'<q
     ·rw[ap e2,ap zo]
     rw[am e2,am zo]
    refine zh ?_
    by_cases c7:m<37
    ·apply ax (d:=72) rfl (b':=true) ((decide_eq_true zo));refine zh ?_
     refine zvH (ai a4.row.sl.sh LU (Mw _) rfl rfl p rfl (by rw[a4.len];exact a6)) ?_;refine zvH (ai a7.sl.sh Lj (Lz _) rfl rfl q rfl (by simp;omega)) ?_
     refine zC ?_ ?_
     ·intro d3;replace d3:ug (nxD rows) (nth a0) r p q m<0:=of_decide_eq_true d3;obtain⟨v1,v2,v3⟩:=GX d3;have e7:=fE _ _ b4;have a9:=fx _ _ b4;obtain⟨a1,a2⟩:=b9 _ e7 p a6;obtain⟨b1,b2⟩:=b9 _ e7 q a8;have a3:=a2 m c7;have b3:=b2 m c7;have c6:=g7 p m a6 c7;have d7:=g7 q m a8 c7;have d1:=a4.c0 c6;have d2:=a4.c1 c6 d7;have d':=a4.at_ _ c6;have hx:(if nxD rows p m=p/\nxD rows q m=q then ug (nxD rows) (nth a0) r p q m else F (nxD rows p m) (nxD rows q m))=eu (nxD rows) (nth a0) r (nxD rows p m) (nxD rows q m)\/(if nxD rows p m=p/\nxD rows q m=q then ug (nxD rows) (nth a0) r p q m else F (nxD rows p m) (nxD rows q m))=eu (nxD rows) (nth a0) (r+1) (nxD rows p m) (nxD rows q m):=by
       by_cases e:nxD rows p m=p/\nxD rows q m=q
       ·rw[ap e,e.1,e.2,v1,v2];exact .inl rfl
       rw[am e];exact i8 _ _
      have e0:=JC hx;have i':=a4.len;refine zh ?_;apply Nu zk zk;generalize (if nxD rows p m=p/\nxD rows q m=q then ug (nxD rows) (nth a0) r p q m else F (nxD rows p m) (nxD rows q m))=xx at *;refine zh ?_;refine zwH (RV.ld (by first|exact a9.1|exact a1|exact a3|exact b1|exact b3|exact d1|exact d2) rfl) ?_;apply zw (ai hv.sh LU (Mw _) rfl rfl p rfl zo);refine zwH (RV.ld (by first|exact a9.1|exact a1|exact a3|exact b1|exact b3|exact d1|exact d2) rfl) ?_;apply zw (ai (e' p zo).sh Lj (Lz _) rfl rfl m rfl (by rw[(hr.row p zo).1];exact c7));apply zw (RV.ld (by first|exact a9.1|exact a1|exact a3|exact b1|exact b3|exact d1|exact d2) rfl);apply zw (ai a4.row.sl.sh LU (Mw _) rfl rfl (nxD rows p m) rfl zo);refine zwH (RV.ld (by first|exact a9.1|exact a1|exact a3|exact b1|exact b3|exact d1|exact d2) rfl) ?_;refine zwH (RV.ld (by first|exact a9.1|exact a1|exact a3|exact b1|exact b3|exact d1|exact d2) rfl) ?_;apply zw (ai hv.sh LU (Mw _) rfl rfl q rfl zo);refine zwH (RV.ld (by first|exact a9.1|exact a1|exact a3|exact b1|exact b3|exact d1|exact d2) rfl) ?_;apply zw (ai (e' q zo).sh Lj (Lz _) rfl rfl m rfl (by rw[(hr.row q zo).1];exact c7));apply zw (RV.ld (by first|exact a9.1|exact a1|exact a3|exact b1|exact b3|exact d1|exact d2) rfl)
      apply zw (ai d'.sl.sh Lj (Lz _) rfl rfl (nxD rows q m) rfl (by simp;omega));refine zwH (RV.ld (by first|exact a9.1|exact a1|exact a3|exact b1|exact b3|exact d1|exact d2) rfl) ?_
      apply NP;refine zh ?_
      refine aT (λw1=>_=w1) (decide (xx<(r:Int)+1)) 3 rfl rfl rfl rfl rfl rfl ?_ ?_
      ·intro g1;refine zh ?_;refine nE 107 4 rfl g1
      rintro _ rfl;refine zh ?_;refine zC ?_ ?_
      ·intro hc;rw[LN]at hc;have h1:=of_decide_eq_true hc.1;have h2:=of_decide_eq_true hc.2;have e9:=e0.1 ⟨h1,h2⟩;rw[ap e9]at v3;have a5:=a7.drew;have m8:=a4.drew.c0 a6;refine zh ?_;refine zvH (ai a4.row.sl.sh LU (Mw _) rfl rfl p rfl zo) ?_;apply zv (ai a5.sl.sh Lj (Lz _) rfl rfl q rfl (by simp;omega));apply Nj (val:=λx:Int=>nI x) a5 q (by simp;omega) ((r:Int)+1) (Lz _) rfl zo rfl rfl rfl rfl;intro w9 a' d4;have g5:=a4.drew.put ((r:Int)+1) a' d4;refine zh ?_;refine zxd (m+1,w9) ⟨c7,b4.drew.J (d4.mono (λ_ h=>zo) hz),c9.drew.U d4,g5.eq λp' q' _ _=>by dsimp only;by_cases e:p'=p/\q'=q;(rw[ap e,ap e,v3]);(rw[am e,am e,am e])⟩
      intro hc;have h':¬0<=eu (nxD rows) (nth a0) r (nxD rows p m) (nxD rows q m):=λhy=>by
       obtain⟨h1,h2⟩:=e0.2 hy;rw[decide_eq_true h1,decide_eq_true h2]at hc
       cases hc
      rw[am h',<-v1]at v3;refine zh ?_;refine zxd (m+1,w7.drew) ⟨c7,b4.drew,c9.drew,by dsimp only;rw[v3];exact a4.drew⟩
     intro b0;have b0:0<=ug (nxD rows) (nth a0) r p q m:=dF b0;refine zh ?_;refine zxd (q+1,w7) ⟨a8,b4,c9,g' (.inr b0)⟩
    apply ax (d:=72) rfl (b':=false) ((decide_eq_false zo));refine zh ?_
    refine zFH rfl rfl ?_;refine zxd (q+1,w7) ⟨a8,b4,c9,g' (.inl zo)⟩
   intro f9;have f5:q=n:=dF f9;subst f5;refine zh ?_;refine zxd (p+1,w6) ⟨a6,d5,d6,b5.eq λp' q' _ d7=>by dsimp only;by_cases e:p'<p\/p'=p/\q'<q;(rw[ap e,ap zo]);(rw[am e,am zo])⟩
  intro e8;have e6:p=n:=dF e8;subst e6;refine zh ?_;refine zxd (r+1,w5) ⟨f8,c8,e1,e4.eq λp' q' c6 _=>ap c6⟩
 intro i3;have h4:r=n:=dF i3;rw[h4]at c';refine zh ?_;refine af rfl rfl ⟨fE _ _ d8,c'.val e3⟩
def Ml{cl:Nat->Nat}{F:List Nat}{t:Nat}(hk:k<=F.length)(a1:∀j,j<k->cl (nth F j)≠cl t)(hh:k=F.length\/cl (nth F k)=cl t):fnI cl F t=k/\fnF cl F t=if k=F.length then F++[t]else F:=by
 have a0:vX cl F t=if k=F.length then none else some k:=by
  by_cases e:k=F.length
  ·rw[ap e];unfold vX;rw[List.findIdx?_eq_none_iff];intro x hx;obtain⟨j,hj,rfl⟩:=cd hx;simpa using a1 j zo
  rw[am e];have a2:k<F.length:=zo;unfold vX;rw[Ni];refine⟨a2,by rw[<-aB a2];simpa using hh.resolve_left e,λj hj=>?_⟩;have:=a1 j hj;rw[aB (by omega:j<F.length)]at this;simpa using this
 unfold fnI fnF;rw[a0]
 by_cases e:k=F.length
 ·rw[ap e,ap e];exact⟨e.symm,rfl⟩
 rw[am e,am e];exact⟨rfl,rfl⟩
abbrev S10(q:Nat):Prop:=q=3\/q=4\/q=5\/q=6\/10<=q
def yI(nv tv:ix)(rows:List (List Nat))(a8:List Nat)(w:L3)(hn:PA w nv rows)(k3:Sl fq 1 w tv a8)(hr:M9 rows a8)(cl:Nat->Nat)(p9:Q2 cl (rows,a8)):
  NG Mu 35 [.agg #[nv,tv]] w λv w'=>N4 w w'/\∃nv' tv',v=.agg #[nv',tv']/\RowsG w.heap.size w' nv' (aV cl rows a8).1/\Sl fq 1 w' tv' (aV cl rows a8).2/\NT w.heap.size tv':=by
 have s0:=hr.le;have i1:=hr.pos;have o9:=hr.tl;have j3:=hr.nx;have hz:¬S10 0:=by unfold S10;omega
 have e3:¬(λq:Nat=>1<=q) 0:=zd;obtain⟨vn,hv,o7,k1⟩:=hn;have l7:∀p q,p<rows.length->q<rows.length->(0<=eu (nxD rows) (nth a8) rows.length p q↔cl p≠cl q):=λp q hp hq=>by
  have h1:=DZ (tl:=nth a8) j3 i1 p q hp hq;have h2:=p9 p q hp hq;rw[Fi]
  constructor
  ·intro h e;rw[h1.2 (h2.1 e)]at h
   cases h
  intro h
  cases hd:eU (nxD rows) (nth a8) rows.length p q with
  |true=>rfl
  |false=>exact absurd (h2.2 (h1.1 hd)) h
 apply Ln func35 ntmps35 rfl rfl;refine zh ?_
 apply aI (aw w) 1 zo rfl rfl;intro xb w1 O1 k0 n7 r8 s5;apply au r8 7 zo (PX _) rfl
 intro cb w2 O2 l6 l' m5 s4;have h3:=k0.U l' zd zd;have e0:=((n7.mono (S':=λq=>1<=q) (λq h=>zo) e3).J (l'.mono (λq h=>zo) e3)).ext;refine zh ?_;apply zv (ah (us:=[nv,tv]) h3.V (Px _) (NM _) rfl);apply zc call74 (zl nv tv rows a8 w2 ⟨vn,hv.ext e0,o7,λi hi=>(k1 i hi).ext e0⟩ (k3.ext e0) hr);rintro av w3 ⟨n',va,n4,k9,o8,f5⟩;generalize eu (nxD rows) (nth a8) rows.length=A at *;have j5:M8 (λ_=>False) O2 w2 O2 w3:=aa (λh=>h) O2 n';have l3:=k9.free n4 (λx _=>by simp) m5;have l4:∀p,p<rows.length->PW O2 w3 (nth va p):=λp hp=>(f5 p hp).2.free (f5 p hp).1 (λx _=>by simp) m5
 have f4:=h3.U j5 zd (λh=>h);have l5:=l6.U j5 zd (λh=>h);have r7:=m5.U j5;have r9:=e0.J n';have i9:M8 (λq=>1<=q) (λ_=>0) w O2 w3:=((n7.mono (λq h=>zo) e3).J (l'.mono (λq h=>zo) e3)).J (j5.mono (λ_ h=>h.elim) e3);refine zh ?_;apply bd gE (enc:=aL) r7 3 zd (0:Nat) rfl rfl rfl zd rfl;intro o5 w4 O4 k7 p' r6;refine zh ?_;apply au r6 4 zo (PX _) rfl;intro ob w5 O5 k8 n6 q' s3;have k6:=k7.U n6 zd zd;have l9:M8 S10 O2 w3 O5 w5:=(p'.mono (λq h=>by unfold S10;omega) hz).J (n6.mono (λq h=>by unfold S10;omega) hz);have i':∀O' W,M8 S10 O2 w3 O' W->∀p,p<rows.length->Sl sn 1 W av va/\W.cell? (adr av 1 p)=some (nth va p)/\Sl encI 1 W (nth va p) ((M0 rows.length).map (A p))/\∀q,q<rows.length->W.cell? (adr (nth va p) 1 q)=some (nI (A p q)):=λO' W u p hp=>by
  have h1:=n4.U l3 u;have h2:=(f5 p hp).1.U (l4 p hp) u;refine⟨h1,?_,h2,λq hq=>?_⟩
  ·have:=h1.cell (i:=p) (j:=0) zo rfl;rwa[ar]at this
  have:=h2.cell (i:=q) (j:=0) (by simpa using hq) rfl;rwa[ar,yw _ hq]at this
 have fE:∀O' W,M8 S10 O2 w3 O' W->N4 w W:=λO' W u=>(i9.J (u.mono (λq h=>by unfold S10 at h;omega) e3)).ext
 have g':∀W,N4 w W->∀p,p<rows.length->W.cell? (adr nv 1 p)=some (nth vn p)/\∀m,m<37->W.cell? (adr (nth vn p) 1 m)=some (nI ((nxD rows p m:Nat):Int)):=λW e p hp=>⟨by
  have:=(hv.ext e).cell (i:=p) (j:=0) zo rfl;rwa[ar]at this,λm hm=>by
  have:=((k1 p hp).ext e).cell (i:=m) (j:=0) (by rw[(hr.row p hp).1];exact hm) rfl;rwa[ar]at this⟩
 refine zh ?_;apply zlp (λz:Nat×(Nat->Nat)×World×List Nat×ix×ix×ix×List ix×List (List Nat)×List Nat=>[(1,nP xb),(2,nP cb),(3,av),(4,z.2.2.2.2.1),(5,nP ob),(6,nI (z.1:Nat))]) (λz=>z.2.2.1) (λz=>M8 S10 O2 w3 z.2.1 z.2.2.1/\Nn w.heap.size z.2.1 z.2.2.1/\Nf aL 3 1 z.2.1 z.2.2.1 3 z.2.2.2.2.1 z.2.2.2.1/\Ns z.2.1 z.2.2.1 4 ob #[z.2.2.2.2.2.1,z.2.2.2.2.2.2.1] 52/\Rw9 z.2.1 z.2.2.1 z.2.2.2.2.2.1 z.2.2.2.2.2.2.2.1 z.2.2.2.2.2.2.2.2.1/\Nf fq 28 1 z.2.1 z.2.2.1 6 z.2.2.2.2.2.2.1 z.2.2.2.2.2.2.2.2.2/\LI cl (nxD rows) (nth a8) rows.length z.1 z.2.2.2.1 z.2.2.2.2.2.2.2.2.1 z.2.2.2.2.2.2.2.2.2/\fg cl (nxD rows) (nth a8) (rows.length+1-z.1) z.1 z.2.2.2.1 z.2.2.2.2.2.2.2.2.1 z.2.2.2.2.2.2.2.2.2=aV cl rows a8) (λz=>rows.length-z.1) (0,O5,w5,[0],o5,nS,nS,[],[],[]) ⟨l9,q',k6,k8,⟨MN _ _ _ _ _ _,rfl,λk hk=>absurd hk (M6 k)⟩,MN _ _ _ _ _ _,mS i1,rfl⟩
 rintro⟨i,O9,w9,F,o6,g4,f3,n0,c7,g9⟩ ⟨j7,m0,f8,f9,c9,d8,e',g7⟩;dsimp only at j7 m0 f8 f9 c9 d8 e' g7 ⊢;have s2:=e'.reps.len;have p2:=e'.rl;have o':=e'.tln;have p1:=c9.len;refine zh ?_;refine zvH (aM f8.sl.sh Lj rfl) ?_;refine zC ?_ ?_
 ·intro f';replace f':i<F.length:=by have:=of_decide_eq_true f';omega
  obtain⟨fu,l2⟩:∃fu,rows.length+1-i=fu+1:=⟨rows.length-i,zo⟩
  rw[l2,fg,ap f']at g7;have l1:rows.length+1-(i+1)=fu:=zo;have m9:=e'.next f' j3;obtain⟨p,hp⟩:∃p,p=nth F i:=⟨_,rfl⟩
  have i2:p<rows.length:=by rw[hp];exact e'.reps.lt _ (aJ f')
  rw[<-hp]at g7 m9;have l0:=λm=>oO (p:=p) e'.reps (λm hm=>j3 p m i2 hm) m
  have j1:¬(0=3\/0=10+i):=zo;refine zh ?_;apply zlp (λy:Nat×(Nat->Nat)×World×ix×ix=>[(1,nP xb),(2,nP cb),(3,av),(4,y.2.2.2.1),(5,nP ob),(6,nI (i:Nat)),(7,y.2.2.2.2),(8,nI (y.1:Nat))]) (λy=>y.2.2.1) (λy=>y.1<=37/\M8 (λq=>q=3\/q=10+i) O9 w9 y.2.1 y.2.2.1/\Nn w.heap.size y.2.1 y.2.2.1/\Nf aL 3 1 y.2.1 y.2.2.1 3 y.2.2.2.1 (gh cl (nxD rows) p F y.1).1/\Nf aL 3 1 y.2.1 y.2.2.1 (10+i) y.2.2.2.2 (gh cl (nxD rows) p F y.1).2) (λy=>37-y.1) (0,O9,w9,o6,nS) ⟨Li _,Nm j1 _ _,m0,f8,MN _ _ _ _ _ _⟩;rintro⟨j,O10,j0,b0,rv⟩ ⟨hj,c5,g3,a6,a0⟩;dsimp only at hj c5 g3 a6 a0 ⊢;have g6:=l0 j hj;have i6:=g6.len;have i5:=g6.reps.len;have b8:=j7.J (c5.mono (S':=S10) (λq h=>by unfold S10;omega) hz);refine zh ?_;refine zC ?_ ?_
  ·intro g0;replace g0:j<37:=dT g0;obtain⟨to,k2⟩:∃to,to=nxD rows p j:=⟨_,rfl⟩
   have f6:to<rows.length:=by rw[k2];exact j3 p j i2 g0
   have e1:gh cl (nxD rows) p F (j+1)=(fnF cl (gh cl (nxD rows) p F j).1 to,(gh cl (nxD rows) p F j).2++[fnI cl (gh cl (nxD rows) p F j).1 to]):=by rw[k2];rfl
   obtain⟨qF,i0⟩:=g6.pre;have g5:nth (gh cl (nxD rows) p F j).1 i=p:=by rw[i0,az,ap f',hp]
   have b1:i<(gh cl (nxD rows) p F j).1.length:=by rw[i0];simp;omega
   have e9:=g6.reps.lt;generalize gh cl (nxD rows) p F j=RQ at *;obtain⟨Fj,rj⟩:=RQ;dsimp only at a6 a0 i6 i5 e1 g5 b1 e9;have x0:j0.cell? (nA xb 0)=some nv:=(f4.U b8 zd (by unfold S10;omega)).cell 0 rfl;have m1:j0.cell? (adr b0 1 i)=some (nI (p:Int)):=by have:=a6.sl.cell (i:=i) (j:=0) b1 rfl;rw[ar,g5]at this;exact this
   obtain⟨m2,m3⟩:=g' _ (fE _ _ b8) p i2;have m4:=m3 j g0;rw[<-k2]at m4;refine zh ?_;apply Nu zk zk;refine zh ?_;refine zwH (ai a6.sl.sh Lj (Lz _) rfl rfl i rfl b1) ?_;refine zwH (ai hv.sh LU (Mw _) rfl rfl p rfl zo) ?_;refine zwH (ai (k1 p i2).sh Lj (Lz _) rfl rfl j rfl (by rw[(hr.row p i2).1];exact g0)) ?_;apply NP;refine zh ?_;have b5:=a6.drew;have e5:=a0.drew;have n5:=c5.drew;have hU3d:=b8.drew;have n9:=g3.drew;generalize j0.drew=e2 at *;apply zlp (λx:Nat=>[(1,nP xb),(2,nP cb),(3,av),(4,b0),(5,nP ob),(6,nI (i:Nat)),(7,rv),(8,nI (j:Nat)),(9,nI (to:Nat)),(10,nI (x:Nat))]) (λx=>e2) (λx=>x<=Fj.length/\∀t,t<x->cl (nth Fj t)≠cl to) (λx=>Fj.length-x) 0 ⟨Li _,λt ht=>absurd ht (M6 t)⟩;rintro k ⟨hk,n3⟩;refine zh ?_;refine zvH (aM b5.sl.sh Lj rfl) ?_;have h0:(k=Fj.length\/cl (nth Fj k)=cl to)->fnI cl Fj to=k/\fnF cl Fj to=if k=Fj.length then Fj++[to]else Fj:=λhh=>Ml hk n3 hh
   by_cases j4:k<Fj.length
   ·apply ax (d:=39) rfl (b':=true) ((decide_eq_true zo));obtain⟨o,j2⟩:∃o,o=nth Fj k:=⟨_,rfl⟩
    have n2:o<rows.length:=by rw[j2];exact e9 _ (aJ j4)
    have n1:e2.cell? (adr b0 1 k)=some (nI (o:Int)):=by have:=b5.sl.cell (i:=k) (j:=0) j4 rfl;rw[ar,<-j2]at this;exact this
    obtain⟨a1,a2,a3,a4⟩:=i' _ _ hU3d o n2;have a5:=a4 to f6;have ha:=l7 o to n2 f6;refine zh ?_;refine zvH (ai b5.sl.sh Lj (Lz _) rfl rfl k rfl j4) ?_;refine zvH (ai a3.sh Lj (Lz _) rfl rfl to rfl (by simpa using f6)) ?_;refine zC ?_ ?_
    ·intro hc;have p4:cl (nth Fj k)≠cl to:=by rw[<-j2];exact ha.1 (by have:=of_decide_eq_true hc;omega)
     refine zh ?_;refine zxd (k+1) ⟨j4,λt ht=>(NI.1 ht).elim (n3 t) (λe=>by rw[e];exact p4)⟩
    intro hc;have p0:cl (nth Fj k)=cl to:=by
     rw[<-j2];refine MJ λh=>?_
     have:=ha.2 h;have:=of_decide_eq_false hc;omega
    obtain⟨k',i4⟩:=h0 (.inr p0);rw[am zo]at i4;refine zh ?_;refine zvH (aM b5.sl.sh Lj rfl) ?_;refine zFH rfl ((by rw[beq_eq_false_iff_ne];omega)) ?_;apply Na gE e5 n9 ((k:Nat)) (λ_=>rfl) rfl rfl rfl (by simp[Ls]) zo zo zo zd rfl rfl;intro j9 b9 O12 b4 a' d7;refine zh ?_;refine zxd (j+1,O12,b9,b0,j9) ((by dsimp only;rw[e1,k',i4];exact⟨g0,n5.J (a'.mono (λq h=>.inr h) j1),d7,b5.U a' zd zo,b4⟩))
   obtain rfl:k=Fj.length:=zo;obtain⟨k',i4⟩:=h0 (.inl rfl);rw[ap rfl]at i4;apply ax (d:=39) rfl (b':=false) ((decide_eq_false zo));refine zh ?_;refine zFH rfl rfl ?_;refine zvH (aM b5.sl.sh Lj rfl) ?_;refine zTH rfl ((by rw[beq_iff_eq])) ?_;apply Na gE b5 n9 ((to:Nat)) (λ_=>rfl) rfl rfl rfl (by simp[Ls]) zo zo zo zd rfl rfl;intro j' b9 O12 a7 a' d7;have b4:=e5.U a' zo zo;refine zh ?_;apply Na gE b4 d7 ((Fj.length:Nat)) (λ_=>rfl) rfl rfl rfl (by simp[Ls]) zo zo zo zd rfl rfl;intro j8 o3 O13 f7 i8 m7;refine zh ?_;refine zxd (j+1,O13,o3,j',j8) ((by dsimp only;rw[e1,k',i4];exact⟨g0,(n5.J (a'.mono (λq h=>.inl h) j1)).J (i8.mono (λq h=>.inr h) j1),m7,a7.U i8 zd zo,f7⟩))
  intro p6;obtain rfl:j=37:=dF p6;obtain⟨qF,i0⟩:=g6.pre;have g5:nth (gh cl (nxD rows) p F 37).1 i=p:=by rw[i0,az,ap f',hp]
  have b1:i<(gh cl (nxD rows) p F 37).1.length:=by rw[i0];simp;omega
  generalize s1:gh cl (nxD rows) p F 37=RQ at *;obtain⟨F2,r2⟩:=RQ;dsimp only at g6 i6 i5 a6 a0 g7 m9 g5 b1;have e7:=f9.U c5 zd zo;have c':=c9.U c5 zo (λk hk=>zo);have h7:=d8.U c5 zd zo;obtain⟨ra,rc,p3,_⟩:=a0.sl.shape;subst p3;have d0:j0.cell? (nA ob 0)=some g4:=e7.cell 0 rfl;refine zh ?_;apply Na AJ c'.row g3 ((.slice ra r2.length rc:ix)) (λ_=>rfl) rfl rfl rfl (by simp[Ls]) zo zo zo zd rfl rfl;intro b3 e2 O11 e8 d' m8;have h':Rw9 O11 e2 b3 (n0++[.slice ra r2.length rc]) (c7++[r2]):=PZ e8 c'.len (λk hk=>(c'.at_ k hk).U d' zo zo) (by rw[p2];exact a0.U d' zo zo);have d6:=e7.U d' zd zd;refine zh ?_;apply aj (j:=0) d6 rfl (PK _) e8.one rfl rfl rfl;have a':M8 (λj=>j=4) O11 e2 O11 (e2.setCell ⟨ob,0,none⟩ b3):=N8 zd d6.tag rfl;have e6:Ns O11 (e2.setCell ⟨ob,0,none⟩ b3) 4 ob #[b3,f3] 52:=d6.set 0 _;generalize e2.setCell ⟨ob,0,none⟩ b3=b9 at *;have b7:=(d'.mono (S':=λq=>q=4\/q=5) (λ_ h=>.inr h) zd).J (a'.mono (λ_ h=>.inl h) zd);have h9:=h'.U a' zd (λk hk=>zo);have h6:=h7.U b7 zd zd;have a7:=a6.U b7 zd zd;have d7:=m8.U a';have b2:=b8.J (b7.mono (λq h=>by unfold S10;omega) hz);have r':=fE _ _ b2;refine zh ?_;have d1:b9.drew.cell? (nA xb 1)=some tv:=(f4.U b2 zd (by unfold S10;omega)).cell 1 rfl;have d2:b9.drew.cell? (adr b0 1 i)=some (nI (p:Int)):=by have:=a7.sl.cell (i:=i) (j:=0) b1 rfl;rw[ar,g5]at this;exact this
  have h5:=k3.ext r';have d3:b9.drew.cell? (adr tv 1 p)=some (.int .u64 ((nth a8 p:Nat):Int)):=by have:=h5.cell (i:=p) (j:=0) zo rfl;rwa[ar]at this
  have d4:b9.drew.cell? (nA ob 1)=some f3:=e6.cell 1 rfl;have l8:M8 (λ_=>False) O11 b9 O11 b9.drew:=aa (λh=>h) O11 (Ll b9).drew
  have kk:∀O' W,M8 (λq=>q=4\/q=6) O11 b9 O' W->W.cell? (nA xb 1)=some tv/\W.cell? (adr b0 1 i)=some (nI (p:Int))/\W.cell? (adr tv 1 p)=some (.int .u64 ((nth a8 p:Nat):Int)):=λO' W u=>⟨((f4.U b2 zd (by unfold S10;omega)).U u zd zd).cell 1 rfl,by have:=(a7.U u zd zd).sl.cell (i:=i) (j:=0) b1 rfl;rw[ar,g5]at this;exact this,by
   have:=(k3.ext (fE _ _ (b2.J (u.mono (λq h=>by unfold S10;omega) hz)))).cell (i:=p) (j:=0) zo rfl;rwa[ar]at this⟩
  apply aN (λW=>W.cell? (nA xb 1)=some tv/\W.cell? (adr b0 1 i)=some (nI (p:Int))/\W.cell? (adr tv 1 p)=some (.int .u64 ((nth a8 p:Nat):Int))) 14 rfl zk;refine zin ⟨d1,d2,d3⟩ λzS=>?_
  apply zrf 0 rfl zS rfl;apply zrf 2 rfl zS rfl
  apply zt 3 rfl zS (λw1 c8=>RV.ld (by first|exact c8.1|exact c8.2.1|exact c8.2.2) rfl);apply zrm 4 rfl zS rfl
  apply zrm 5 rfl zS rfl;apply zr 6 rfl zS (λ_=>ai a7.sl.sh Lj (Lz _) rfl rfl i rfl b1)
  apply zt 7 rfl zS (λw1 c8=>RV.ld (by first|exact c8.1|exact c8.2.1|exact c8.2.2) rfl);apply zr 8 rfl zS (λ_=>ai h5.sh N7 (Nz _) rfl rfl p rfl zo)
  apply zt 9 rfl zS (λw1 c8=>RV.ld (by first|exact c8.1|exact c8.2.1|exact c8.2.2) rfl);apply bU 1 10 iP (enc:=fq) (nth a8 p) rfl rfl zk zk zk zk (λW hE=>Q6 (hE.cell d4) (isAgg31 _) rfl) (λW hE=>⟨hE.cell d1,hE.cell d2,hE.cell d3⟩) rfl rfl rfl zd rfl rfl rfl rfl rfl
  intro o4 o0 h8 m';have d9:M8 (λ_=>False) O11 b9 O11 o0:=l8.J (aa (λh=>h) O11 m');apply Lq 11 zk rfl;apply aC iP (h6.U d9 zd (λh=>h)) (d7.U d9) h8 (by simp) rfl rfl (by simp) (by simp[Ls]) (by rw[ka];omega) (by rw[ka];omega) zd rfl;intro c6 g8 O15 e4 i7 m6;have b6:M8 (λq=>q=4\/q=6) O11 b9 O15 g8:=(d9.mono (λ_ h=>h.elim) zd).J (i7.mono (λ_ h=>.inr h) zd);have d5:=(e6.U d9 zd (λh=>h)).U i7 zd zd;refine zh ?_;apply ae ((kk _ _ b6));apply zrf 12 rfl ((kk _ _ b6)) rfl;apply Lq 13 zk rfl;apply aj (j:=1) d5 rfl (sizeOf31 _) e4.one rfl rfl rfl;have g2:M8 (λj=>j=4) O15 g8 O15 (g8.setCell ⟨ob,1,none⟩ c6):=N8 zd d5.tag rfl;have i3:Ns O15 (g8.setCell ⟨ob,1,none⟩ c6) 4 ob #[b3,c6] 52:=d5.set 1 _;generalize g8.setCell ⟨ob,1,none⟩ c6=w16 at *;have a9:=b6.J (g2.mono (λ_ h=>.inl h) zd);refine zh ?_;apply ae ((kk _ _ a9));apply MC zk;refine zh ?_;refine zxd (i+1,O15,w16,F2,b0,b3,c6,n0++[.slice ra r2.length rc],c7++[r2],g9++[nth a8 p]) ⟨b2.J (a9.mono (λq h=>by unfold S10;omega) hz),m6.U g2,a7.U a9 zd zd,i3,h9.U a9 zd (λk hk=>zo),e4.U g2 zd zd,m9,by dsimp only;rw[l1];exact g7⟩
 intro p7;have p5:=e'.le;obtain rfl:i=F.length:=dF p7;have k5:aV cl rows a8=(c7,g9):=by
  rw[<-g7];obtain⟨fu,l2⟩:∃fu,rows.length+1-F.length=fu+1:=⟨rows.length-F.length,zo⟩
  rw[l2,fg,am zo]
 have o1:=c9.row.one;have o2:=d8.one;have g1:=l5.U j7 zd (by unfold S10;omega);refine zh ?_;apply zv (ah (us:=[g4,f3]) f9.V (Px _) (NM _) rfl);apply zsb (us:=#[g4,f3]) g1 (NM _) (by simp only[LK,o1,o2];rfl);have p8:=g1.setRow (us:=#[g4,f3]);have j6:M8 (λj=>j=7) O9 w9 O9 (w9.setRow cb #[g4,f3]):=Lp zd g1.tag rfl;have k4:=c9.U j6 zd (λk hk=>zo);have h4:=d8.U j6 zd zd;have n8:=m0.U j6;rw[k5];refine zh ?_;refine aO rfl rfl p8.V (Px _) (NM _) ⟨((i9.J (j7.mono (λq h=>by unfold S10 at h;omega) e3)).J (j6.mono (λq h=>zo) e3)).ext,g4,f3,rfl,k4.rows n8,h4.sl,h4.newV zd n8⟩
def Fl(tabs:List (List (List Nat)))(a b:Nat):Bool:=tabs.all λrows=>rows.all λr=>nth r a==nth r b
def JI(h:∀rows∈tabs,∀r∈rows,∀m:Nat,m<37->nth r m<=999){a:Nat}(ha:a<37)(hb:b<37):Fl tabs a b=true↔lA tabs a=lA tabs b:=by
 have e:Fl tabs a b=true↔∀rows∈tabs,∀r∈rows,nth r a=nth r b:=by
  unfold Fl;simp only[Nw,beq_iff_eq]
 rw[e];exact⟨JA,λhc=>oX (λrows hr r a0=>⟨h rows hr r a0 a ha,h rows hr r a0 b hb⟩) hc⟩
def Jc{S:List (List UInt8)}(h:NuI ks m S r)(hk:k<m)(he:nth ks k=s):pK S s=nth r k:=by
 obtain⟨h1,h2⟩:=h.lt k hk;rw[he]at h2;unfold pK
 cases hf:xN S s with
 |none=>exact absurd (by rw[<-h2];exact aJ h1) (vT hf)
 |some q=>
  obtain⟨q1,q2⟩:=ju hf;rw[NY];rw[aB q1]at q2;rw[aB h1]at h2;exact vq h.nd q1 h1 (by rw[q2,h2])
def Jb{S:List (List UInt8)}(h:NuI ks m S r)(a0:∀k,k<m->nth ks k≠s):pK S s=S.length:=by
 unfold pK
 cases hf:xN S s with
 |none=>rfl
 |some q=>
  obtain⟨q1,q2⟩:=ju hf;obtain⟨j,hj,e⟩:=h.hit q q1;have:=(h.lt j hj).2;rw[e,q2]at this;exact absurd this.symm (a0 j hj)
def JL(S:List (List UInt8))(s:List UInt8):(xP S s).length=max S.length (pK S s+1):=by
 unfold xP pK
 cases hf:xN S s with
 |none=>simp
 |some q=>
  have:=(ju hf).1;simp;omega
def Lh:cC Mu 95 #[(0,1),(1,1),(2,1)]:=⟨_,underlying95,λw=>by kernel_rfl⟩
def rI(l:List Int)(sv:ix)(w:L3)(h:Sl encI 1 w sv l): NG Mu 40 [sv] w λv w' => v = .int .i64 ((fZ l:Nat):Int) ∧ w' = w := by
  have hl := h.len_le
  apply Ln func40 ntmps40 rfl rfl
  refine zh ?_
  apply zlp (λz:Nat×Nat => [(0, sv), (3, .int .i64 z.2), (4, .int .i64 z.1)]) (λz => w) (λz => z.1 ≤ l.length ∧ z.2 ≤ z.1 ∧ iA (l.drop z.1) z.2 = iA l 0) (λz => l.length - z.1) (0, 0) ⟨Li _, M7 _, rfl⟩
  rintro⟨i, n⟩ ⟨hi, hn, heq⟩
  dsimp only at hi hn heq ⊢
  refine zh ?_
  refine zC ?_ ?_
  · intro hlt
    replace hlt:i < l.length := by have := of_decide_eq_true hlt; omega
    have m1:w.cell? (adr sv 1 i) = some (.int .i64 (nth l i)) := by have := h.cell (i := i) (j := 0) hlt rfl; rwa[ar]at this
    rw[Mv hlt, ← aB hlt, iA]at heq
    have hz:nth l i < 0 ∨ (n:Int) < nth l i → fZ l = 0 := λh0 => by
      rw[ap h0]at heq
      unfold fZ; rw[← heq]; split <;> rfl
    refine zh ?_
    by_cases h0:nth l i < 0
    · rw[hz (.inl h0)]
      apply ax (d := 16) rfl (b' := true) ((decide_eq_true h0))
      refine zh ?_
      refine zTH rfl rfl ?_
      refine af rfl rfl ⟨rfl, rfl⟩
    · skip
      apply ax (d := 16) rfl (b' := false) ((decide_eq_false h0))
      refine zh ?_
      refine zC ?_ ?_
      · intro h1
        replace h1:(n:Int) < nth l i := of_decide_eq_true h1
        rw[hz (.inr h1)]
        refine zh ?_
        refine af rfl rfl ⟨rfl, rfl⟩
      · intro h1
        replace h1:¬(n:Int) < nth l i := of_decide_eq_false h1
        rw[am (λh => h.elim h0 h1)]at heq
        refine zh ?_
        refine zvH (fY rfl rfl) ?_
        rw[show max (n:Int) (nth l i + 1) = ((max n ((nth l i).toNat + 1):Nat):Int)from by omega]
        refine zxd (i + 1, max n ((nth l i).toNat + 1)) ⟨hlt, by dsimp only; omega, heq⟩
  · intro hge
    obtain rfl:i = l.length := by have := of_decide_eq_false hge; omega
    rw[P7, iA]at heq
    refine zh ?_
    refine zC ?_ ?_
    · intro hne
      refine zh ?_
      refine af rfl rfl ⟨by unfold fZ; rw[am (λe => by rw[e]at hne; simp at hne)]; rfl, rfl⟩
    · intro he
      replace he : l.length = 37 := by have : (l.length : Int) = 37 := by simpa using he
                                       omega
      refine zh ?_
      refine af rfl rfl ⟨by unfold fZ; rw[ap he, ← heq], rfl⟩
def Fk{a:Nat}(h:i<tabs.length):Fl (tabs.take (i+1)) a b=(Fl (tabs.take i) a b&&(nth tabs i).all λr=>nth r a==nth r b):=by
 unfold Fl;rw[aG h,Pk];simp
def zp(ds:List (ix×ix))(tabs:List (List (List Nat)))(a4:List (List Nat))(sv:ix)(a b:Nat)(w:L3)(h:TabsD w sv ds tabs a4)(ha:a<37)(hb:b<37):
  NG Mu 36 [sv,nI (a:Nat),nI (b:Nat)] w λv w'=>v=.bool (Fl tabs a b)/\N4 w w':=by
 have d8:=h.l1;have b9:=h.sl;have d9:=b9.len_le;apply Ln func36 ntmps36 rfl rfl;refine zh ?_;apply zlp (λz:Nat×L3=>[(0,sv),(1,nI (a:Nat)),(2,nI (b:Nat)),(7,nI (z.1:Nat))]) (λz=>z.2) (λz=>z.1<=ds.length/\N4 w z.2/\Fl (tabs.take z.1) a b=true) (λz=>ds.length-z.1) (0,w) ⟨Li _,Ll w,rfl⟩;rintro⟨i,w1⟩ ⟨hi,a',a0⟩;dsimp only at hi a' a0 ⊢;have h1:=h.ext a';have c5:=h1.sl;refine zh ?_;refine zC ?_ ?_
 ·intro a2;replace a2:i<ds.length:=dT a2;obtain⟨b4,b8,a8⟩:=h1.at_ i a2;obtain⟨rows,b0⟩:∃rows,rows=nth tabs i:=⟨_,rfl⟩
  have a7:=Fk (tabs:=tabs) (i:=i) (a:=a) (b:=b) zo;rw[a0,Nb]at a7;have c7:=a8.le;rw[<-b0]at b4 a8 a7 c7;refine zh ?_;apply zv (ah (us:=yW (nth ds i)) (λj u hu=>c5.cell a2 hu) (Px _) (NM _) rfl);apply zc call75 (Bh (nth ds i).1 (nth ds i).2 rows (nth a4 i) w1 b4 b8 a8);rintro _ w2 ⟨rfl,d5⟩;have b2:=a'.J d5;refine zh ?_;refine zFH rfl rfl ?_;apply zlp (λy:Nat×L3=>[(0,sv),(1,nI (a:Nat)),(2,nI (b:Nat)),(7,nI (i:Nat)),(8,nI (y.1:Nat))]) (λy=>y.2) (λy=>y.1<=rows.length/\N4 w y.2/\((rows.take y.1).all λr=>nth r a==nth r b)=true) (λy=>rows.length-y.1) (0,w2) ⟨Li _,b2,rfl⟩;rintro⟨k,w3⟩ ⟨hk,a6,a1⟩;dsimp only at hk a6 a1 ⊢;have h3:=h.ext a6;have b':=h3.sl;obtain⟨b3,d6,d7⟩:=h3.at_ i a2;rw[<-b0]at b3;obtain⟨vs,b7,b5,b6⟩:=b3;have d0:w3.cell? ((adr sv 2 i).add 0)=some (nth ds i).1:=b'.cell (i:=i) (j:=0) a2 rfl;refine zh ?_;rw[b5];refine zC ?_ ?_
  ·intro a3;replace a3:k<rows.length:=dT a3;have a5:=b6 k a3;obtain⟨d',_⟩:=a8.row k a3;have d1:w3.cell? (adr (nth ds i).1 1 k)=some (nth vs k):=by have:=b7.cell (i:=k) (j:=0) zo rfl;rwa[ar]at this
   have d2:w3.cell? (adr (nth vs k) 1 a)=some (nI ((nth (nth rows k) a:Nat):Int)):=by have:=a5.cell (i:=a) (j:=0) zo rfl;rwa[ar]at this
   have d3:w3.cell? (adr (nth vs k) 1 b)=some (nI ((nth (nth rows k) b:Nat):Int)):=by have:=a5.cell (i:=b) (j:=0) zo rfl;rwa[ar]at this
   refine zh ?_;apply Nu zk zk
   refine zh ?_;apply NP
   refine zh ?_;refine zC ?_ ?_
   ·intro a9;have a9:nth (nth rows k) a≠nth (nth rows k) b:=λe=>by rw[e]at a9;simp at a9
    have c6:Fl tabs a b=false:=by
     cases hc:Fl tabs a b with
     |false=>rfl
     |true=>
      unfold Fl at hc;have:=Nw.1 (Nw.1 hc _ (aJ (by omega:i<tabs.length))) (nth rows k) (by rw[<-b0];exact aJ a3);exact absurd (by simpa using this) a9
    rw[c6];refine zh ?_;refine af rfl rfl ⟨rfl,a6.drew⟩
   intro b1;have b1:nth (nth rows k) a=nth (nth rows k) b:=by
    have:((nth (nth rows k) a:Nat):Int)=((nth (nth rows k) b:Nat):Int):=by simpa using b1
    omega
   refine zh ?_;refine zxd (k+1,w3.drew) ⟨a3,a6.drew,by dsimp only;rw[aG a3,Pk,a1];simp[b1]⟩
  intro c';have c8:k=rows.length:=by have:=of_decide_eq_false c';omega
  rw[c8,Mt]at a1;rw[a1]at a7;refine zh ?_;refine zxd (i+1,w3) ⟨a2,a6,a7⟩
 intro d4;have c9:i=tabs.length:=dF d4;rw[c9,Mt]at a0;rw[a0];refine zh ?_;refine af rfl rfl ⟨rfl,a'⟩
def Gk(a b:Nat):max (a:Int) ((b:Int)+1)=((max a (b+1):Nat):Int):=zo
def Je(S:List (List UInt8))(s:List UInt8):pK S s<=S.length:=by
 unfold pK
 cases hf:xN S s with
 |none=>exact M7 _
 |some q=>exact Nat.le_of_lt (ju hf).1
def vU(ds:List (ix×ix))(tabs:List (List (List Nat)))(a3:List (List Nat))(sv:ix)(w:L3)(h:TabsD w sv ds tabs a3):
  NG Mu 11 [sv] w λv w'=>Sl aL 1 w' v (bB tabs)/\N4 w w'/\NT w.heap.size v:=by
 obtain⟨ks,b9⟩:∃ks,ks=(M0 37).map (lA tabs):=⟨_,rfl⟩
 have hk:∀j,j<37->nth ks j=lA tabs j:=λj hj=>by rw[b9,yw _ hj]
 have d1:∀rows∈tabs,∀r∈rows,∀m:Nat,m<37->nth r m<=999:=λrows a4 r hr m hm=>by
  obtain⟨i,hi,rfl⟩:=cd a4;obtain⟨_,_,hR⟩:=h.at_ i (by rw[<-h.l1];exact hi);obtain⟨j,hj,rfl⟩:=cd hr;have h1:=(hR.row j hj).2 m hm;have h2:=hR.le;show nxD (nth tabs i) j m<=999;have e0:nxD (nth tabs i) j m<(nth tabs i).length:=h1;omega
 have hG:bB tabs=(cI ks 37).2:=by rw[b9,bB]
 have b3:=pJ ks;have b2:=lW ks;rw[hG];apply Ln func11 ntmps11 rfl rfl;refine zh ?_;apply zlp (λz:Nat×(Nat->Nat)×World×ix=>[(0,sv),(3,z.2.2.2),(4,nI ((cI ks z.1).1.length:Nat)),(5,nI (z.1:Nat))]) (λz=>z.2.2.1) (λz=>z.1<=37/\M8 (λq=>q=1) (λ_=>0) w z.2.1 z.2.2.1/\Nn w.heap.size z.2.1 z.2.2.1/\Nf aL 3 1 z.2.1 z.2.2.1 1 z.2.2.2 (cI ks z.1).2) (λz=>37-z.1) (0,(λ_=>0),w,nS) ⟨Li _,Nm zd _ _,aw w,MN _ _ _ _ _ _⟩;rintro⟨m,O1,w1,gv⟩ ⟨hm,b5,b6,a0⟩;dsimp only at hm b5 b6 a0 ⊢;have hI:=b3 m;have d7:=hI.len;have d6:=(b2 m).2;refine zh ?_;refine zC ?_ ?_
 ·intro a2;replace a2:m<37:=dT a2;have a':cI ks (m+1)=(xP (cI ks m).1 (nth ks m),(cI ks m).2++[pK (cI ks m).1 (nth ks m)]):=rfl;have c5:=JL (cI ks m).1 (nth ks m);generalize cI ks m=RT at *;obtain⟨S,r⟩:=RT;dsimp only at a0 hI d7 d6 a' c5;dsimp only;refine zh ?_;rw[show((m:Int)-1)=((m:Nat):Int)-1 from rfl];apply zlp (λy:Nat×Nat×L3=>[(0,sv),(3,gv),(4,nI (S.length:Nat)),(5,nI (m:Nat)),(6,nI (y.2.1:Nat)),(7,nI ((y.1:Int)-1))]) (λy=>y.2.2) (λy=>y.1<=m/\N4 w1 y.2.2/\((y.2.1=S.length/\∀k,y.1<=k->k<m->nth ks k≠nth ks m)\/(y.2.1=pK S (nth ks m)/\∃k,k<m/\nth ks k=nth ks m))) (λy=>y.1) (m,S.length,w1) ⟨M7 _,Ll _,.inl ⟨rfl,λk h1 h2=>by dsimp only at h1;omega⟩⟩;rintro⟨k1,g,w2⟩ ⟨c8,a8,hg⟩;dsimp only at c8 a8 hg ⊢;have a7:M8 (λ_=>False) O1 w1 O1 w2:=aa (λh=>h) O1 a8;have a5:=a0.U a7 zd (λh=>h);have c6:=b5.J (a7.mono (λ_ h=>h.elim) zd);have d5:=b6.U a7;refine zh ?_;refine zC ?_ ?_
  ·intro b';replace b':1<=k1:=by have:=of_decide_eq_true b';omega
   obtain⟨k,rfl⟩:∃k,k1=k+1:=⟨k1-1,zo⟩
   rw[show(((k+1:Nat):Int)-1)=(k:Int)from by omega];have b4:=JI d1 (a:=k) (b:=m) zo a2;rw[<-hk k zo,<-hk m a2]at b4;refine zh ?_;apply zc call36 (zp ds tabs a3 sv k m w2 (h.ext c6.ext) zo a2);rintro _ w3 ⟨rfl,b7⟩;have d2:M8 (λ_=>False) O1 w1 O1 w3:=a7.J (aa (λh=>h) O1 b7);have a1:=a0.U d2 zd (λh=>h);refine zh ?_;refine zC ?_ ?_
   ·intro a9;have a6:=b4.1 a9;have c9:=Jc hI (k:=k) zo a6;have m1:w3.cell? (adr gv 1 k)=some (nI ((nth r k:Nat):Int)):=by have:=a1.sl.cell (i:=k) (j:=0) zo rfl;rwa[ar]at this
    refine zh ?_;refine zvH (ai a1.sl.sh Lj (Lz _) rfl rfl k rfl zo) ?_
    refine zxd (k,nth r k,w3) ⟨by dsimp only;omega,a8.J b7,.inr ⟨c9.symm,k,zo,a6⟩⟩
   intro b8;have a6:nth ks k≠nth ks m:=λe=>by rw[b4.2 e]at b8;cases b8
   refine zh ?_;refine zxd (k,g,w3) ⟨by dsimp only;omega,a8.J b7,hg.imp (λh=>⟨h.1,λj h1 h2=>by by_cases e:j=k;(rw[e];exact a6);(exact h.2 j (by dsimp only at h1;omega) h2)⟩) (λh=>h)⟩
  intro b1;have d':k1=0:=dF b1;have c':g=pK S (nth ks m):=by
   rcases hg with⟨h1,h2⟩|⟨h1,_⟩
   ·rw[h1];exact(Jb hI λk hk=>h2 k zo hk).symm
   exact h1
  subst c';have d9:=Je S (nth ks m);refine zh ?_;apply Na gE a5 d5 ((pK S (nth ks m):Nat)) (λ_=>rfl) rfl rfl rfl (by simp[Ls]) zo zo zo zd rfl rfl;intro d8 w3 O3 a1 d3 d4;refine zh ?_;refine zvH (fY rfl rfl) ?_;have c7:max ((S.length:Nat):Int) ((pK S (nth ks m):Nat)+1:Int)=((xP S (nth ks m)).length:Nat):=by rw[c5];exact Gk _ _
  rw[c7];rw[show xP S (nth ks m)=(cI ks (m+1)).1 from by rw[a']];refine zxd (m+1,O3,w3,d8) ((by dsimp only;rw[a'];exact⟨a2,c6.J d3,d4,a1⟩))
 intro d0;have b0:m=37:=dF d0;rw[b0]at a0;refine zh ?_;refine af rfl rfl ⟨a0.sl,b5.ext,a0.newV zd b6⟩
def JS(B:Nat)(w:L3)(v:ix)(gv tv:ix)(rows:List (List Nat)):Prop:=∃nv,v=.tuple #[.agg #[gv,nv,tv],.bool true]/\RowsG B w nv rows
def Bu(g:List Nat)(many:Nat)(gv nv tv:ix)(rows:List (List Nat))(g1:List Nat)(w:L3)(hg:GrpI g many)(d4:Sl aL 1 w gv g)(hn:PA w nv rows)(g':Sl fq 1 w tv g1)(hr:M9 rows g1) 
  (hc:∀i j,i<37->j<37->nth g i=nth g j->∀r∈rows,nth r i=nth r j) :
  NG Mu 37 [gv,.agg #[nv,tv]] w λv w'=>N4 w w'/\JS w.heap.size w' v gv tv (rows.map (lz g many)):=by
 have i8:=hr.le;have i9:=hg.len;have i7:=hg.le;have c6:¬(λq:Nat=>1<=q) 0:=zd;obtain⟨vn,hv,g9,e1⟩:=hn;have o1:=d4.one;have o2:=g'.one;apply Ln func37 ntmps37 rfl rfl;refine zh ?_;apply aI (aw w) 1 zo rfl rfl;intro xb w1 O1 e0 h8 i5 j2;apply au i5 7 zo (Pb _) rfl;intro cb w2 O2 f6 g7 i4 j1;have c9:=e0.U g7 zd zd;have x1:w2.cell? (nA xb 1)=some tv:=c9.cell 1 rfl;refine zh ?_;apply zv (aH (cells:=#[gv,nS,tv]) Lh (Pb _) rfl (by simp only[LK,PC,o1,o2];rfl) rfl rfl);apply au i4 4 zo (Pb _) rfl;intro ob w3 O3 b3 h7 i3 j0;apply zsb (us:=#[gv,nS,tv]) b3 (Pe _) (by simp only[LK,o1,o2];rfl);have e':=b3.setRow (us:=#[gv,nS,tv]);have g6:M8 (λq=>q=4) O3 w3 O3 (w3.setRow ob #[gv,nS,tv]):=Lp zd b3.tag rfl;generalize w3.setRow ob #[gv,nS,tv]=w4 at *;have b8:=h7.J g6;have d':=c9.U b8 zd zd;have f5:=f6.U b8 zd zd;have i2:=i3.U g6;have d6:M8 (λq=>1<=q) (λ_=>0) w O3 w4:=((h8.mono (λq h=>zo) c6).J (g7.mono (λq h=>zo) c6)).J (b8.mono (λq h=>zo) c6);have c8:¬(λq:Nat=>q=4\/q=5\/10<=q) 0:=zd;have fE:∀O' W,M8 (λq=>q=4\/q=5\/10<=q) O3 w4 O' W->N4 w W:=λO' W u=>(d6.J (u.mono (λq h=>zo) c6)).ext
 have fx:∀O' W,M8 (λq=>q=4\/q=5\/10<=q) O3 w4 O' W->W.cell? (nA xb 0)=some nv:=λO' W u=>(d'.U u zd zd).cell 0 rfl
 have a':∀W,N4 w W->∀m,m<37->W.cell? (adr gv 1 m)=some (nI ((nth g m:Nat):Int)):=λW e m hm=>by
  have:=(d4.ext e).cell (i:=m) (j:=0) zo rfl;rwa[ar]at this
 have a9:∀W,N4 w W->∀p,p<rows.length->W.cell? (adr nv 1 p)=some (nth vn p)/\∀m,m<37->W.cell? (adr (nth vn p) 1 m)=some (nI ((nth (nth rows p) m:Nat):Int)):=λW e p hp=>⟨by
  have:=(hv.ext e).cell (i:=p) (j:=0) zo rfl;rwa[ar]at this,λm hm=>by
  have:=((e1 p hp).ext e).cell (i:=m) (j:=0) (by rw[(hr.row p hp).1];exact hm) rfl;rwa[ar]at this⟩
 refine zh ?_;apply zlp (λz:Nat×(Nat->Nat)×World×ix×List ix=>[(0,gv),(3,nP xb),(4,nP cb),(6,nP ob),(7,nI (z.1:Nat))]) (λz=>z.2.2.1) (λz=>z.1<=rows.length/\M8 (λq=>q=4\/q=5\/10<=q) O3 w4 z.2.1 z.2.2.1/\Nn w.heap.size z.2.1 z.2.2.1/\Ns z.2.1 z.2.2.1 4 ob #[gv,z.2.2.2.1,tv] 95/\Rw9 z.2.1 z.2.2.1 z.2.2.2.1 z.2.2.2.2 ((rows.take z.1).map (lz g many))) (λz=>rows.length-z.1) (0,O3,w4,nS,[]) ⟨Li _,Nm c8 _ _,i2,e',⟨MN _ _ _ _ _ _,rfl,λk hk=>absurd hk (M6 k)⟩⟩
 rintro⟨i,O5,w5,c5,g0⟩ ⟨hi,c7,f',b2,a2⟩;dsimp only at hi c7 f' b2 a2 ⊢;have g3:((rows.take i).map (lz g many)).length=i:=by simp;omega
 have h0:=a2.len;have j4:=fx _ _ c7;refine zh ?_;refine zvH (aM hv.sh LU rfl) ?_;rw[g9];refine zC ?_ ?_
 ·intro a6;replace a6:i<rows.length:=dT a6;have g5:∀a b,a<37->b<37->nth g a=nth g b->nth (nth rows i) a=nth (nth rows i) b:=λa b ha hb e=>hc a b ha hb e _ (aJ a6)
  obtain⟨j3,_⟩:=hr.row i a6;refine zh ?_;apply zc call40 (rI (ints g) gv w5 ((d4.ext (fE _ _ c7)).natIv));rintro _ wx ⟨rfl,g2⟩;rw[g2,hg.cnt];clear g2 wx;apply cY gE (val:=λn:Nat=>nI (n:Int)) (0:Nat) zk (λ_=>rfl) f' (10+i) zo many rfl rfl rfl rfl zo zo rfl;intro w6 O6 rv h3 d1 h6 i1 i';clear h3;have i6:¬(λq=>q=10+i) 0:=zo;refine zh ?_;apply zlp (λy:Nat×L3×List Nat=>[(0,gv),(3,nP xb),(4,nP cb),(6,nP ob),(7,nI (i:Nat)),(8,rv),(9,nI ((y.1:Int)-1))]) (λy=>y.2.1) (λy=>y.1<=37/\Nf aL 3 1 O6 y.2.1 (10+i) rv y.2.2/\M8 (λq=>q=10+i) O5 w5 O6 y.2.1/\Nn w.heap.size O6 y.2.1/\y.2.2.length=many/\∀a,y.1<=a->a<37->nth y.2.2 (nth g a)=nth (nth rows i) a) (λy=>y.1) (37,w6,Pp many 0) ⟨M7 _,d1,h6,i1,by simp,λa h1 h2=>by dsimp only at h1;omega⟩;rintro⟨j,w7,a8⟩ ⟨hj,a0,d5,f9,e8,a7⟩;dsimp only at hj a0 d5 f9 e8 a7 ⊢;have b7:=c7.J (d5.mono (S':=λq=>q=4\/q=5\/10<=q) (λq h=>zo) c8);have e7:=fE _ _ b7;refine zh ?_;refine zC ?_ ?_
  ·intro d8;replace d8:1<=j:=dT d8;obtain⟨m,rfl⟩:∃m,j=m+1:=⟨j-1,zo⟩
   rw[show(((m+1:Nat):Int)-1)=(m:Int)from by omega];have g4:=hg.lt m zo;have k1:=a' _ e7 m zo;have k2:=fx _ _ b7;obtain⟨k3,k4⟩:=a9 _ e7 i a6;have k5:=k4 m zo;refine zh ?_;apply PG 14 rfl rfl zk zk;refine zh ?_;refine zwH (ai d4.sh Lj (Lz _) rfl rfl m rfl zo) ?_;refine zwH (ai hv.sh LU (Mw _) rfl rfl i rfl zo) ?_;refine zwH (ai (e1 i a6).sh Lj (Lz _) rfl rfl m rfl zo) ?_;apply zw (ai a0.sl.sh Lj (Lz _) rfl rfl (nth g m) rfl zo);apply dX;apply Nj a0.drew (nth g m) zo (nth (nth rows i) m) (Lz _) rfl zo rfl rfl rfl rfl;intro w8 a1 b6;refine zh ?_;refine zxd (m,w8,a8.set (nth g m) (nth (nth rows i) m)) ⟨by dsimp only;omega,a1,d5.drew.J b6,f9.drew.U b6,by dsimp only;rw[Ph];exact e8,λa h1 h2=>?_⟩;dsimp only at h1 ⊢;rw[bm zo]
   split
   ·rename_i e;exact g5 m a zo h2 e.symm
   rename_i e;refine a7 a ?_ h2;have:a≠m:=λe2=>e (by rw[e2])
   omega
  intro f4;obtain rfl:j=0:=dF f4;have f3:=vu hg g5 e8 λa ha=>a7 a (Li _) ha
  have d2:=b2.U d5 zd zo;have b0:=a2.U d5 zo (λk hk=>by rw[g3]at hk;omega);obtain⟨ra,rc,e6,_⟩:=a0.sl.shape;subst e6;have d0:w7.cell? (nA ob 1)=some c5:=d2.cell 1 rfl;refine zh ?_;apply Na AJ b0.row f9 ((.slice ra a8.length rc:ix)) (λ_=>rfl) rfl rfl rfl (by simp[Ls]) zo zo zo zd rfl rfl;intro b' w8 O8 d3 b6 i0;have a1:=a0.U b6 zo zo;have e5:Rw9 O8 w8 b' (g0++[.slice ra a8.length rc]) ((rows.take i).map (lz g many)++[a8]):=PZ d3 b0.len (λk hk=>(b0.at_ k hk).U b6 zo zo) (by rw[g3];exact a1);have b1:=d2.U b6 zd zd;refine zh ?_;apply aj (j:=1) b1 rfl (PK _) d3.one rfl rfl rfl;have d9:M8 (λj=>j=4) O8 w8 O8 (w8.setCell ⟨ob,1,none⟩ b'):=N8 zd b1.tag rfl;have e9:Ns O8 (w8.setCell ⟨ob,1,none⟩ b') 4 ob #[gv,b',tv] 95:=b1.set 1 _;generalize w8.setCell ⟨ob,1,none⟩ b'=w9 at *;have c':=a1.U d9 zo zo;have e4:=e5.U d9 zd (λk hk=>zo);have h':=i0.U d9;have f8:=(b7.J (b6.mono (S':=λq=>q=4\/q=5\/10<=q) (λq h=>zo) c8)).J (d9.mono (λq h=>zo) c8);have es:(rows.take (i+1)).map (lz g many)=(rows.take i).map (lz g many)++[a8]:=by rw[aG a6,Mz,f3];rfl
  refine zh ?_;apply zlp (λx:Nat×L3=>[(0,gv),(3,nP xb),(4,nP cb),(6,nP ob),(7,nI (i:Nat)),(8,.slice ra a8.length rc),(10,nI (x.1:Nat))]) (λx=>x.2) (λx=>x.1<=37/\N4 w9 x.2) (λx=>37-x.1) (0,w9) ⟨Li _,Ll _⟩
  rintro⟨m,d7⟩ ⟨hm,b9⟩;dsimp only at hm b9 ⊢;have a4:M8 (λ_=>False) O8 w9 O8 d7:=aa (λh=>h) O8 b9;have a3:=c'.U a4 zo (λh=>h);have a5:=f8.J (a4.mono (λ_ h=>h.elim) c8);refine zh ?_;refine zC ?_ ?_
  ·intro b4;replace b4:m<37:=dT b4;have g8:=fE _ _ a5;have g4:=hg.lt m b4;have k1:=a' _ g8 m b4;have k2:=fx _ _ a5;obtain⟨k3,k4⟩:=a9 _ g8 i a6;have k5:=k4 m b4;have k6:d7.cell? (adr (.slice ra a8.length rc) 1 (nth g m))=some (nI ((nth (nth rows i) m:Nat):Int)):=by have:=a3.sl.cell (i:=nth g m) (j:=0) zo rfl;rw[ar,a7 m (Li _) b4]at this;exact this
   refine zh ?_;apply Nu zk zk
   refine zh ?_;refine zwH (ai d4.sh Lj (Lz _) rfl rfl m rfl zo) ?_
   refine zwH (ai a3.sl.sh Lj (Lz _) rfl rfl (nth g m) rfl zo) ?_;refine zwH (ai hv.sh LU (Mw _) rfl rfl i rfl zo) ?_
   refine zwH (ai (e1 i a6).sh Lj (Lz _) rfl rfl m rfl zo) ?_;apply NP
   refine zh ?_;refine zFH rfl ((by simp)) ?_
   refine zxd (m+1,d7.drew) ⟨b4,b9.drew⟩
  intro g4;refine zh ?_;refine zxd (i+1,O8,d7,b',g0++[.slice ra a8.length rc]) ⟨a6,a5,h'.U a4,e9.U a4 zd (λh=>h),by dsimp only;rw[es];exact e4.U a4 (λh=>h) (λ_ _ h=>h)⟩
 intro d8;have h4:i=rows.length:=dF d8;rw[h4,Mt]at a2;have b5:=f5.U c7 zd zd;have o3:=a2.row.one;refine zh ?_;apply zv (ah (us:=[gv,c5,tv]) b2.V (isAgg95 _) (Pe _) rfl);apply zsb (us:=#[gv,c5,tv]) b5 (Pe _) (by simp only[LK,o1,o2,o3];rfl);have h5:=b5.setRow (us:=#[gv,c5,tv]);have f7:M8 (λj=>j=7) O5 w5 O5 (w5.setRow cb #[gv,c5,tv]):=Lp zd b5.tag rfl;have e3:=a2.U f7 zd (λk hk=>zo);have h9:=f'.U f7;refine zh ?_;refine bz rfl rfl rfl h5.V (isAgg95 _) (Pe _) ⟨((d6.J (c7.mono (λq h=>zo) c6)).J (f7.mono (λq h=>zo) c6)).ext,c5,rfl,e3.rows h9⟩
def Mi:cC Mu 33 #[(0,5),(5,1)]:=⟨_,underlying33,λw=>by kernel_rfl⟩
def PartV(w:L3)(cs:List ix)(p:Pv)(tl:List Nat):Prop:=
 ∃uv bv kv nv tv,cs=[nI p.width,uv,bv,kv,nv,tv]/\Nq w uv p.usual/\Nq w bv p.base/\Nq w kv p.check/\Nq w nv p.next/\Sl fq 1 w tv tl
def PartV.ext{w w':L3}{cs:List ix}{p:Pv}{tl:List Nat}(h:PartV w cs p tl)(e:N4 w w'):PartV w' cs p tl:=by
 obtain⟨uv,bv,kv,nv,tv,h0,h1,h2,h3,h4,h5⟩:=h;exact⟨uv,bv,kv,nv,tv,h0,h1.ext e,h2.ext e,h3.ext e,h4.ext e,h5.ext e⟩
def JX(B:Nat)(cs:List ix):Prop:=∀v∈cs,NT B v
def _root_.Go.VL.NewV.slI{w0:L3}(h:NT w0.heap.size v)(hs:Nq w v l)(r:Nn B O w0)(u:M8 S O w O' w'):Nq w' v l:=hs.U (h.free hs (λx _=>by simp) r) u
def PartV.U{w0:L3}{p:Pv}{tl:List Nat}(h:PartV w cs p tl)(n:JX w0.heap.size cs)(r:Nn B O w0)(u:M8 S O w O' w'):PartV w' cs p tl:=by
 obtain⟨uv,bv,kv,nv,tv,rfl,h1,h2,h3,h4,h5⟩:=h;exact⟨uv,bv,kv,nv,tv,rfl,(n uv (by simp)).slI h1 r u,(n bv (by simp)).slI h2 r u,(n kv (by simp)).slI h3 r u,(n nv (by simp)).slI h4 r u,(n tv (by simp)).slU h5 r u⟩
def PartV.one{w:L3}{cs:List ix}{p:Pv}{tl:List Nat}(h:PartV w cs p tl):cs.length=6/\∀v∈cs,v.oneCell'=true:=by
 obtain⟨uv,bv,kv,nv,tv,rfl,h1,h2,h3,h4,h5⟩:=h;refine⟨rfl,λv hv=>?_⟩;simp only[Lk,Lu,or_false]at hv
 rcases hv with rfl|rfl|rfl|rfl|rfl|rfl
 ·rfl
 ·exact h1.one
 ·exact h2.one
 ·exact h3.one
 ·exact h4.one
 exact h5.one
def RowsN.pack(h:PA w v rows):Rows w v (rows.map ints):=by
 obtain⟨vs,h1,h2,h3⟩:=h
 exact⟨vs,h1,by rw[M5];exact h2,λi hi=>by
  rw[M5]at hi
  rw[cz hi];exact(h3 i hi).natIv⟩
def lP(g:List Nat)(many:Nat)(rows:List (List Nat)):List (List Int):=(rows.map (lz g many)).map ints
def cZ(g:List Nat)(many:Nat)(rows:List (List Nat)):Pv:=jc (many:Int) (lP g many rows)
def nc(hg:GrpI g many)(hr:M9 rows a0):cp (many:Int) (lP g many rows)=false:=by
 have h1:=hg.pos;have h2:=hg.le;have h3:=hr.le;unfold cp;have hl:(lP g many rows).length=rows.length:=by simp[lP]
 rw[decide_eq_false zo,decide_eq_false zo,decide_eq_false zo];simp only[MT];refine List.any_eq_false.2 λr a1=>?_
 obtain⟨q,hq,rfl⟩:=MK.1 a1;obtain⟨o,ho,rfl⟩:=MK.1 hq;obtain⟨j,hj,rfl⟩:=cd ho;obtain⟨r1,r2⟩:=hr.row j hj;unfold jC;rw[show(ints (lz g many (nth rows j))).length=many from by simp[oQ]];have a2:inB 0 65535 (ints (lz g many (nth rows j)))=true:=vS λn hn=>by
  obtain⟨x,hx,rfl⟩:=MK.1 hn;unfold lz at hx;obtain⟨k,hk,rfl⟩:=MK.1 hx
  cases hf:g.findIdx? (· == k)with
  |none=>simp only[Option.getD_none];have:=r2 0 zd;unfold nxD at *;omega
  |some q=>
   obtain⟨h1,_⟩:=Ni.1 hf;have a3:=hg.len;simp only[NY];have:=r2 q zo;omega
 rw[a2];simp
def Ae(g:List Nat)(many:Nat)(gv nv tv:ix)(rows:List (List Nat))(d4:List Nat)(w:L3)(hg:GrpI g many)(e':Sl aL 1 w gv g)(hn:PA w nv rows)(g0:Sl fq 1 w tv d4)(hr:M9 rows d4) 
  (hc:∀p,p<rows.length->∀i j,i<37->j<37->nth g i=nth g j->nth (nth rows p) i=nth (nth rows p) j) :
  NG Mu 26 [gv,.agg #[nv,tv]] w λv w'=>∃cs,v=.agg cs.toArray/\PartV w' cs (cZ g many rows) d4/\JX w.heap.size cs/\N4 w w':=by
 have a4:=nc hg hr;apply Ln func26 ntmps26 rfl rfl;refine zh ?_;apply aI (aw w) 1 zo rfl rfl;intro db w1 O1 e4 g' h4 h9;apply au h4 2 zo (PY _) rfl;intro cb w2 O2 e8 f8 b8 h8;have e3:=e4.U f8 zd zd;have b6:M8 (λq=>1<=q) (λ_=>0) w O2 w2:=(g'.mono (λ_ h=>zo) zd).J (f8.mono (λ_ h=>zo) zd);have b7:=b6.ext;refine zh ?_;apply zv (ah (us:=[nv,tv]) e3.V (P2 _) (N5 _) rfl);apply zc call59 (Gs g many gv nv tv rows d4 w2 hg (e'.ext b7) (hn.ext b7) (g0.ext b7) hr hc);rintro _ w3 ⟨d8,a6,a5,rfl,o1,o2,o3,c9,a',a9,h5⟩;have d6:M8 (λ_=>False) O2 w2 O2 w3:=aa (λh=>h) O2 h5;have e7:=e8.U d6 zd (λh=>h);have e9:=b6.J (d6.mono (λ_ h=>h.elim) zd);have h3:=b8.U d6;refine zh ?_;apply au h3 3 zo (zeroValue127 _) rfl;intro nb w4 O4 b3 g8 h2 h7;apply zsb (us:=#[d8,a6,a5]) b3 (sizeOf127 _) (by simp only[LK,o1,o2,o3];rfl);have b2:=b3.setRow (us:=#[d8,a6,a5]);have f7:M8 (λj=>j=3) O4 w4 O4 (w4.setRow nb #[d8,a6,a5]):=Lp zd b3.tag rfl;have a2:=g8.J f7;have g9:=(d6.mono (S':=λq=>q=3) (λ_ h=>h.elim) zd).J a2;have e6:=e7.U a2 zd zd;have g6:=c9.U b8 a2;have f':=a9.slU a' b8 a2;have h1:=h2.U f7;have b5:=e9.J (a2.mono (λ_ h=>zo) zd);generalize w4.setRow nb #[d8,a6,a5]=w5 at *;have h6:(rows.map (lz g many)).length=rows.length:=by simp
 refine zh ?_;have d1:w5.drew.cell? (nA nb 1)=some a6:=b2.cell 1 rfl;apply aN (λW=>W.cell? (nA nb 1)=some a6) 11 rfl zk
 apply zrm 0 rfl d1 rfl;apply zrf 2 rfl d1 rfl
 apply zt 3 rfl d1 (λw1 f9=>RV.ld f9 rfl);refine mO (λx:ix×ix×ix×ix×Int×Nat×(Nat->Nat)×World=>[(4,nP cb),(5,nP nb),(7,.pointer (some ⟨x.2.2.2.2.2.1,0,none⟩)),(21,.agg #[nI (cZ g many rows).width,x.1,x.2.1,x.2.2.1,x.2.2.2.1]),(22,nI x.2.2.2.2.1)]) (λx=>x.2.2.2.2.2.2.2) (λx=>Nq x.2.2.2.2.2.2.2 x.1 (cZ g many rows).usual/\Nq x.2.2.2.2.2.2.2 x.2.1 (cZ g many rows).base/\Nq x.2.2.2.2.2.2.2 x.2.2.1 (cZ g many rows).check/\Nq x.2.2.2.2.2.2.2 x.2.2.2.1 (cZ g many rows).next/\NT w5.heap.size x.1/\NT w5.heap.size x.2.1/\NT w5.heap.size x.2.2.1/\NT w5.heap.size x.2.2.2.1/\Ns x.2.2.2.2.2.2.1 x.2.2.2.2.2.2.2 4 x.2.2.2.2.2.1 #[nI 0,nS,nS,nS,nS] 30/\M8 (λq=>q=4) O4 w5 x.2.2.2.2.2.2.1 x.2.2.2.2.2.2.2/\Nn w.heap.size x.2.2.2.2.2.2.1 x.2.2.2.2.2.2.2/\PW x.2.2.2.2.2.2.1 x.2.2.2.2.2.2.2 x.1/\PW x.2.2.2.2.2.2.1 x.2.2.2.2.2.2.2 x.2.1/\PW x.2.2.2.2.2.2.1 x.2.2.2.2.2.2.2 x.2.2.1/\PW x.2.2.2.2.2.2.1 x.2.2.2.2.2.2.2 x.2.2.2.1) #[true,true,true,true,true,true,true,true,true,false,false] 2 ?_ ?_
 ·intro hN;have hR:=h1.drew;have hU:M8 (λq=>q=4) O4 w5 O4 w5.drew:=aa zd O4 (Ll w5).drew;have k0:∀O W,M8 (λq=>q=4) O4 w5 O W->W.cell? (nA nb 1)=some a6:=λO W u=>(b2.U u zd zd).cell 1 rfl
  have kg:∀O W,M8 (λq=>q=4) O4 w5 O W->Sl encI 1 W gv (ints g):=λO W u=>(e'.ext (b5.J (u.mono (λ_ h=>zo) zd)).ext).natIv
  have kn:∀O W,M8 (λq=>q=4) O4 w5 O W->Rows W a6 (lP g many rows):=λO W u=>(c9.U b8 (a2.mono (S':=λq=>q=3\/q=4) (λ_ h=>.inl h) zd |>.J (u.mono (λ_ h=>.inr h) zd))).rows.pack
  refine NQ 1 8 zk rfl rfl ?_ ?_ 
  ·apply zc Q5 (jL (ints g) gv _ (kg _ _ hU));rintro _ wa ⟨rfl,c8⟩;rw[c8,hg.cnt];clear c8 wa;refine zh ?_
   apply ae (k0 _ _ hU);refine NQ 4 8 zk rfl rfl ?_ ?_ 
   ·apply zc Q4 (pH (many:Int) (lP g many rows) a6 _ (kn _ _ hU));rintro _ wb ⟨pv,ep,rfl,fP,f5,d2,gP⟩;have gP:=gP a4;rw[a4,am zd]at fP;obtain⟨b9,b',d3,c7,c6,c5,n1,n2,n3,n4⟩:=gP;obtain⟨uv,bv,kv,a0,pe,f1,f2,f3,f4⟩:=fP;subst pe;obtain⟨rfl,rfl,rfl,rfl,rfl⟩:_=b9/\uv=b'/\bv=d3/\kv=c7/\a0=c6:=by simpa using c5
    have fU:=hU.size;have g1:=n1.free f1 (λx _=>by simp) hR;have g2:=n2.free f2 (λx _=>by simp) hR;have g3:=n3.free f3 (λx _=>by simp) hR;have g4:=n4.free f4 (λx _=>by simp) hR;have n1:=n1.mono fU;have n2:=n2.mono fU;have n3:=n3.mono fU;have n4:=n4.mono fU;have a7:=λO=>aa (S:=λ_=>False) (λh=>h) O d2
    have hU:=LD hU ((a7 _).mono (λ_ h=>h.elim) zd);have hR:=PD hR (a7 _)
    try have fC:=Ps fC (a7 _) zd (λh=>h)
    refine zh ?_;refine zaf (k0 _ _ hU) λzS=>?_
    apply zrm 5 rfl zS rfl;apply zr 6 rfl zS (λ_=>N0 rfl rfl)
    apply zr 7 rfl zS (λ_=>N0 rfl rfl);apply Lq 8 zk rfl
    apply au hR 4 zd (Pd _) rfl;intro pb wc Oc fC a1 d0 a3;have hU:=LD hU a1;have hR:=d0
    try have f1:=MU f1 a3
    try have f2:=MU f2 a3
    try have f3:=MU f3 a3
    try have f4:=MU f4 a3
    try have g1:=My g1 a1
    try have g2:=My g2 a1
    try have g3:=My g3 a1
    try have g4:=My g4 a1
    refine zh ?_;apply ae (k0 _ _ hU)
    exact MZ (hN (uv,bv,kv,a0,ep,pb,_,_) ⟨f1,f2,f3,f4,n1,n2,n3,n4,fC,hU,hR,g1,g2,g3,g4⟩) zk ⟨rfl,rfl,rfl,rfl,rfl,trivial⟩ rfl
   apply au hR 4 zd (Pd _) rfl;intro pb wc Oc fC a1 d0 a3;have hU:=LD hU a1;have hR:=d0
   try have f1:=MU f1 a3
   try have f2:=MU f2 a3
   try have f3:=MU f3 a3
   try have f4:=MU f4 a3
   try have g1:=My g1 a1
   try have g2:=My g2 a1
   try have g3:=My g3 a1
   try have g4:=My g4 a1
   refine zh ?_;apply ae (k0 _ _ hU)
   apply Lq 4 zk rfl;apply zc Q4 (pH (many:Int) (lP g many rows) a6 _ (kn _ _ hU))
   rintro _ wb ⟨pv,ep,rfl,fP,f5,d2,gP⟩;have gP:=gP a4;rw[a4,am zd]at fP;obtain⟨b9,b',d3,c7,c6,c5,n1,n2,n3,n4⟩:=gP;obtain⟨uv,bv,kv,a0,pe,f1,f2,f3,f4⟩:=fP;subst pe;obtain⟨rfl,rfl,rfl,rfl,rfl⟩:_=b9/\uv=b'/\bv=d3/\kv=c7/\a0=c6:=by simpa using c5
   have fU:=hU.size;have g1:=n1.free f1 (λx _=>by simp) hR;have g2:=n2.free f2 (λx _=>by simp) hR;have g3:=n3.free f3 (λx _=>by simp) hR;have g4:=n4.free f4 (λx _=>by simp) hR;have n1:=n1.mono fU;have n2:=n2.mono fU;have n3:=n3.mono fU;have n4:=n4.mono fU;have a7:=λO=>aa (S:=λ_=>False) (λh=>h) O d2
   have hU:=LD hU ((a7 _).mono (λ_ h=>h.elim) zd);have hR:=PD hR (a7 _)
   try have fC:=Ps fC (a7 _) zd (λh=>h)
   refine zh ?_;refine zaf (k0 _ _ hU) λzS=>?_
   apply zrm 5 rfl zS rfl;apply zr 6 rfl zS (λ_=>N0 rfl rfl)
   apply zr 7 rfl zS (λ_=>N0 rfl rfl);exact MZ (hN (uv,bv,kv,a0,ep,pb,_,_) ⟨f1,f2,f3,f4,n1,n2,n3,n4,fC,hU,hR,g1,g2,g3,g4⟩) zk ⟨rfl,rfl,rfl,rfl,rfl,trivial⟩ rfl
  apply au hR 4 zd (Pd _) rfl;intro pb wc Oc fC a1 d0 a3;have hU:=LD hU a1;have hR:=d0
  try have f1:=MU f1 a3
  try have f2:=MU f2 a3
  try have f3:=MU f3 a3
  try have f4:=MU f4 a3
  try have g1:=My g1 a1
  try have g2:=My g2 a1
  try have g3:=My g3 a1
  try have g4:=My g4 a1
  refine zh ?_;apply ae (k0 _ _ hU)
  apply Lq 1 zk rfl;apply zc Q5 (jL (ints g) gv _ (kg _ _ hU))
  rintro _ wa ⟨rfl,c8⟩;rw[c8,hg.cnt];clear c8 wa;refine zh ?_;apply ae (k0 _ _ hU);apply Lq 4 zk rfl;apply zc Q4 (pH (many:Int) (lP g many rows) a6 _ (kn _ _ hU));rintro _ wb ⟨pv,ep,rfl,fP,f5,d2,gP⟩;have gP:=gP a4;rw[a4,am zd]at fP;obtain⟨b9,b',d3,c7,c6,c5,n1,n2,n3,n4⟩:=gP;obtain⟨uv,bv,kv,a0,pe,f1,f2,f3,f4⟩:=fP;subst pe;obtain⟨rfl,rfl,rfl,rfl,rfl⟩:_=b9/\uv=b'/\bv=d3/\kv=c7/\a0=c6:=by simpa using c5
  have fU:=hU.size;have g1:=n1.free f1 (λx _=>by simp) hR;have g2:=n2.free f2 (λx _=>by simp) hR;have g3:=n3.free f3 (λx _=>by simp) hR;have g4:=n4.free f4 (λx _=>by simp) hR;have n1:=n1.mono fU;have n2:=n2.mono fU;have n3:=n3.mono fU;have n4:=n4.mono fU;have a7:=λO=>aa (S:=λ_=>False) (λh=>h) O d2
  have hU:=LD hU ((a7 _).mono (λ_ h=>h.elim) zd);have hR:=PD hR (a7 _)
  try have fC:=Ps fC (a7 _) zd (λh=>h)
  refine zh ?_;refine zaf (k0 _ _ hU) λzS=>?_
  apply zrm 5 rfl zS rfl;apply zr 6 rfl zS (λ_=>N0 rfl rfl)
  apply zr 7 rfl zS (λ_=>N0 rfl rfl);exact MZ (hN (uv,bv,kv,a0,ep,pb,_,_) ⟨f1,f2,f3,f4,n1,n2,n3,n4,fC,hU,hR,g1,g2,g3,g4⟩) zk ⟨rfl,rfl,rfl,rfl,rfl,trivial⟩ rfl
 rintro⟨uv,bv,kv,a0,ep,pb,O7,w7⟩ ⟨f1,f2,f3,f4,n1,n2,n3,n4,b0,a8,h0,g1,g2,g3,g4⟩;dsimp only at f1 f2 f3 f4 n1 n2 n3 n4 b0 a8 h0 g1 g2 g3 g4 ⊢;have q1:=f1.one;have q2:=f2.one;have q3:=f3.one;have q4:=f4.one;have e1:=b2.U a8 zd zd;have e5:=e6.U a8 zd zd;apply Lq 9 zk rfl;apply zsb (us:=#[nI (cZ g many rows).width,uv,bv,kv,a0]) b0 (PL _) (by simp only[LK,q1,q2,q3,q4];rfl);have e0:=b0.setRow (us:=#[nI (cZ g many rows).width,uv,bv,kv,a0]);have d7:M8 (λj=>j=4) O7 w7 O7 (w7.setRow pb #[nI (cZ g many rows).width,uv,bv,kv,a0]):=Lp zd b0.tag rfl;generalize w7.setRow pb #[nI (cZ g many rows).width,uv,bv,kv,a0]=w8 at *;have b1:=e1.U d7 zd zd;have b4:=e5.U d7 zd zd;have c':=a8.J d7;have d9:=a9.slU a' b8 ((a2.mono (S':=λq=>q=3\/q=4) (λ_ h=>.inl h) zd).J (c'.mono (λ_ h=>.inr h) zd));have d':=(a9.free a' (λx _=>by simp) b8).U ((a2.mono (S':=λq=>q=3\/q=4) (λ_ h=>.inl h) zd).J (c'.mono (λ_ h=>.inr h) zd));refine zh ?_;apply ae (b1.cell 1 rfl);have e2:w8.cell? (nA nb 2)=some a5:=b1.cell 2 rfl;apply zra 10 rfl (b1.cell 1 rfl) rfl;apply MC zk;refine zh ?_;apply zv (ah (us:=[nI (cZ g many rows).width,uv,bv,kv,a0]) e0.V (isAgg30 _) (PL _) rfl);obtain⟨ta,tc,g5,_⟩:=a'.shape;refine zh ?_;apply zv (MW (cells:=#[nI (cZ g many rows).width,uv,bv,kv,a0,a5]) Mi (PY _) rfl (by rw[g5];rfl))
 apply zsb (us:=#[nI (cZ g many rows).width,uv,bv,kv,a0,a5]) b4 (MM _) (by simp only[LK,q1,q2,q3,q4,o3];rfl);have g7:=b4.setRow (us:=#[nI (cZ g many rows).width,uv,bv,kv,a0,a5]);have f6:M8 (λj=>j=2) O7 w8 O7 (w8.setRow cb #[nI (cZ g many rows).width,uv,bv,kv,a0,a5]):=Lp zd b4.tag rfl;have hU8z:=(d7.mono (S':=λq=>q=2\/q=4) (λ_ h=>.inr h) zd).J (f6.mono (λ_ h=>.inl h) zd);have d5:=b5.size;refine zh ?_
 refine aO rfl rfl g7.V (NB _) (MM _) ⟨[nI (cZ g many rows).width,uv,bv,kv,a0,a5],rfl,⟨uv,bv,kv,a0,a5,rfl,f1.U g1 hU8z,f2.U g2 hU8z,f3.U g3 hU8z,f4.U g4 hU8z,d9.U d' f6⟩,λv hv=>?_,((b5.J (a8.mono (λ_ h=>zo) zd)).J (hU8z.mono (λ_ h=>zo) zd)).ext⟩;simp only[Lk,Lu,or_false]at hv
 rcases hv with rfl|rfl|rfl|rfl|rfl|rfl
 ·exact λa n c e=>by cases e
 ·exact n1.mono d5
 ·exact n2.mono d5
 ·exact n3.mono d5
 ·exact n4.mono d5
 exact a9.mono b6.size
end Go.Proofs.YtcfhbfflgnbacaaGreatDoor
namespace Go.VL
def fy{P:PB}{N:Nat}{ops:Array Oper}{Q:Exit->Act->L3->Prop}{a0:List Oper}{st:St}{t:MX}{p:String}{e:Array Edge}{x y:PT} 
     {cs us:Array ix}  (off:Nat) (a1:Array ix) (hb:Ns O w i b cs E) (a2:(cs.toList.take off++us.toList++cs.toList.drop (off+us.size)).toArray=a1) (hs:off+us.size<=cs.size) (hT:(sizeOf T).run P w=.ok us.size w) (h1:us.toList.all Ls=true)
  {q:NO} (hx:ev st x=some (.pointer (some q))) (hq:q=⟨b,off,none⟩) (hy:ev st y=some (.agg us))
  (h:WL P N ops Q a0 st (w.setRow b a1)):WL P N ops Q (⟨none,.store T x y,t,p,e,none⟩::a0) st w:=by
 subst a2;exact iI off hb hs hT h1 hx hq hy h
end Go.VL
namespace Go.Proofs.YtcfhbfflgnbacaaGreatDoor
def I5:cC Mu 35 #[(0,1),(1,1),(2,1),(3,1),(4,1),(5,6),(11,6)]:=⟨_,underlying35,λw=>by kernel_rfl⟩
structure TabM where
 ig:Nat
 kp:Nat
 br:Nat
 rules:Int
 groups:List Int
 left:Pv
 lt:List Nat
 right:Pv
 rt:List Nat
abbrev dY(ig kp br:Nat)(rules:Int)(gv:ix)(lc rc:List ix):List ix:=[.int .u64 (ig:Int),.int .u64 (kp:Int),.int .u64 (br:Int),nI rules,gv]++lc++rc
def TabV(w:L3)(v:ix)(t:TabM):Prop:=∃gv lc rc,v=.agg (dY t.ig t.kp t.br t.rules gv lc rc).toArray/\Nq w gv t.groups/\PartV w lc t.left t.lt/\PartV w rc t.right t.rt
def TabN(B:Nat)(v:ix):Prop:=∀cs:List ix,v=.agg cs.toArray->JX B cs
abbrev dW:List ix:=[nI 0,nS,nS,nS,nS,nS]
abbrev tab0:Array ix:=(dY 0 0 0 0 nS dW dW).toArray
def fj(ts:List R3):Nat->Nat
 |0=>0
 |i+1=>if(nth ts i).2.2=true then fj ts i ||| 2^i else fj ts i
def ud(ts:List R3):∀i,i<=40->fj ts i<2^40
 |0,_=>by unfold fj;decide
 |i+1,h=>by
  unfold fj
  split
  ·exact MG (ud ts i zo) (MI zd zo)
  exact ud ts i zo
abbrev fM(ts:List R3):List Nd:=ts.map (·.1)
abbrev cR(ts:List R3):List Nd:=ts.map (·.2.1)
def pg(li lk:List Int)(ts:List R3)(A B:List (List Nat)×List Nat):TabM:=
 ⟨dd li,dd lk,fj ts ts.length,ts.length,ints (bB [A.1,B.1]),cZ (bB [A.1,B.1]) (fZ (ints (bB [A.1,B.1]))) A.1,A.2,cZ (bB [A.1,B.1]) (fZ (ints (bB [A.1,B.1]))) B.1,B.2⟩
def PostC(B:Nat)(w:L3)(v:ix)(li lk:List Int)(ts:List R3):Prop:=
 (dE li lk ts=false/\v=.tuple #[.agg tab0,nI 1])\/dE li lk ts=true/\
  ((∃a b clA clB u,stM true (fM ts)=some a/\stM false (cR ts)=some b/\M9 a.1 a.2/\M9 b.1 b.2/\Q2 clA a/\Q2 clB b/\v=.tuple #[u,nI 0]/\TabV w u (pg li lk ts (aV clA a.1 a.2) (aV clB b.1 b.2))/\TabN B u)\/
   ((stM true (fM ts)=none\/stM false (cR ts)=none)/\v=.tuple #[.agg tab0,nI 7]))
def cL{ts:List R3}(h:dE li lk ts=true):ts.length<=40/\(∀c∈li,0<=c/\c<=35)/\(∀c∈lk,0<=c/\c<=35)/\∀t∈ts,lM t=true:=by
 have a0:∀ {l:List Int},dQ l=true->∀c∈l,0<=c/\c<=35:=fun {l} h c hc=>by
  obtain⟨j,hj,rfl⟩:=cd hc;have:=bD.1 (show jZ (lg l) l.length=false by simpa[dQ]using h) j hj;simp only[lg,Bool.or_eq_false_iff,decide_eq_false_iff_not]at this;omega
 simp only[dE,LN,decide_eq_true_eq]at h;obtain⟨⟨⟨h1,h2⟩,h3⟩,h4⟩:=h;refine⟨zo,a0 h2,a0 h3,λt ht=>?_⟩;obtain⟨j,hj,rfl⟩:=cd ht;have:=bD.1 (show jZ (λi=>!(lM (nth ts i))) ts.length=false by simpa[KR]using h4) j hj;simpa using this
def PostSt.uni{o:Option (List (List Nat)×List Nat)}(h:PostSt B w v o):∃nv tv,∃e:Int,v=.tuple #[.agg #[nv,tv],nI e]/\nv.oneCell'=true/\tv.oneCell'=true/\(e≠0->o=none)/\
  (e=0->∃d cl,o=some d/\M9 d.1 d.2/\Q2 cl d/\RowsG B w nv (aV cl d.1 d.2).1/\Sl fq 1 w tv (aV cl d.1 d.2).2/\NT B tv):=by
 cases o with
 |none=>
  obtain⟨e,he,rfl⟩:=h;exact⟨_,_,e,rfl,rfl,rfl,λ_=>rfl,λe0=>absurd e0 he⟩
 |some d=>
  obtain⟨cl,nv,tv,rfl,o1,o2,h1,h2,h3,h4,h5⟩:=h;exact⟨nv,tv,0,rfl,o1,o2,λe=>absurd rfl e,λ_=>⟨d,cl,rfl,h1,h2,h3,h4,h5⟩⟩
def dL(hr:M9 rows a0)(cl:Nat->Nat):M9 (aV cl rows a0).1 (aV cl rows a0).2:=by
 obtain⟨F,h⟩:=iC (cl:=cl) (tl:=nth a0) hr.nx (rows.length+1) 0 [0] [] [] (mS hr.pos) zo;have h1:=h.rl;have h2:=h.tln;have h3:=h.reps.len;have h4:=hr.le;have h5:=h.p0
 exact⟨by show 0<(fg _ _ _ _ _ _ _ _).1.length;omega,by show(fg _ _ _ _ _ _ _ _).1.length<=1000;omega,by show(fg _ _ _ _ _ _ _ _).2.length=(fg _ _ _ _ _ _ _ _).1.length;omega,λj hj=>by
  obtain⟨r1,r2⟩:=h.row j (by rw[<-h1];exact hj)
  exact⟨r1,λm hm=>by have:=(r2 m hm).1;rw[<-h1]at this;exact this⟩⟩
section
variable(li lk:List Int)(ts:List R3)(A B:List (List Nat)×List Nat)
def IK:(pg li lk ts A B).ig=dd li:=rfl
def IJ:(pg li lk ts A B).kp=dd lk:=rfl
def IL:(pg li lk ts A B).br=fj ts ts.length:=rfl
def A7:(pg li lk ts A B).rules=(ts.length:Int):=rfl
def xY:(pg li lk ts A B).groups=ints (bB [A.1,B.1]):=rfl
def uL:(pg li lk ts A B).left=cZ (bB [A.1,B.1]) (fZ (ints (bB [A.1,B.1]))) A.1:=rfl
def ri:(pg li lk ts A B).right=cZ (bB [A.1,B.1]) (fZ (ints (bB [A.1,B.1]))) B.1:=rfl
def Cw:(pg li lk ts A B).lt=A.2:=rfl
def Cv:(pg li lk ts A B).rt=B.2:=rfl
end
def Gc{B0:Nat}{ts:List R3}{xs:List X3}{b B:List (List Nat)×List Nat}{a6 a5:Nat->Nat}{a7:Nat}{pa pb:Pv}(a8:dE li lk ts=true)(b4:stM true (fM ts)=some a)(b1:stM false (cR ts)=some b)(b5:M9 a.1 a.2)(b2:M9 b.1 b.2)(b6:Q2 a6 a)(b3:Q2 a5 b) 
  (hA:A=aV a6 a.1 a.2) (hB:B=aV a5 b.1 b.2) (a1:g=bB [A.1,B.1]) (a0:fZ (ints g)=many) (a':pa=cZ g many A.1) (a9:pb=cZ g many B.1) (a4:a7=fj ts xs.length) (hl:ts.length=xs.length) (b0:Sl aL 1 w gv g) (b8:PartV w lc pa A.2) (b7:PartV w rc pb B.2)
  (n1:NT B0 gv) (n2:JX B0 lc) (n3:JX B0 rc):PostC B0 w (.tuple #[.agg (dY (dd li) (dd lk) a7 (xs.length:Nat) gv lc rc).toArray,nI 0]) li lk ts:=by
 refine .inr ⟨a8,.inl ⟨a,b,a6,a5,_,b4,b1,b5,b2,b6,b3,rfl,?_,?_⟩⟩
 ·rw[<-hA,<-hB];have a0:fZ (ints (bB [A.1,B.1]))=many:=by rw[<-a1];exact a0
  refine⟨gv,lc,rc,?_,?_,?_,?_⟩
  ·rw[IK,IJ,IL,A7,hl,<-a4]
  ·rw[xY,<-a1];exact b0.natIv
  ·rw[uL,Cw,a0,<-a1,<-a'];exact b8
  rw[ri,Cv,a0,<-a1,<-a9];exact b7
 intro cs a3;have a2:cs=dY (dd li) (dd lk) a7 (xs.length:Nat) gv lc rc:=by
  have:=(PS a3).symm;simpa using this
 subst a2;intro v hv
 rcases Mp.1 hv with hv|hv
 ·rcases Mp.1 hv with hv|hv
  ·simp only[Lk,Lu,or_false]at hv
   rcases hv with rfl|rfl|rfl|rfl|rfl
   ·exact λa n c e=>by cases e
   ·exact λa n c e=>by cases e
   ·exact λa n c e=>by cases e
   ·exact λa n c e=>by cases e
   exact n1
  exact n2 v hv
 exact n3 v hv
set_option maxHeartbeats 1000000 in
def qk(li lk:List Int)(ts:List R3)(v:ix)(w:L3)(h:Tx w v li lk ts):
  NG Mu 6 [v] w λu w'=>N4 w w'/\PostC w.heap.size w' u li lk ts:=by
 obtain⟨ig,kp,ru,xs,rfl,hi,hk,l9,hl,hx⟩:=h.ex;have i1:=hi.one;have i2:=hk.one;have i3:=l9.one;apply Ln func6 ntmps6 rfl rfl;refine zh ?_;apply aI (aw w) 1 zo rfl rfl;intro db w1 O1 t' hU1 hR1 hE1;apply au hR1 2 zo (Ms _) rfl;intro cb w2 O2 u4 x9 hR2 hE2;have m6:=t'.U x9 zd zd;have n8:M8 (λq=>1<=q) (λ_=>0) w O2 w2:=(hU1.mono (λ_ h=>zo) zd).J (x9.mono (λ_ h=>zo) zd);have h8:=n8.ext;refine zh ?_;apply zv (ah (us:=[ig,kp,ru]) m6.V (isAgg41 _) (sizeOf41 _) rfl);apply zc call22 (Bg li lk ts xs ig kp ru w2 (hi.ext h8) (hk.ext h8) (l9.ext h8) hl (λi hi=>(hx i hi).ext h8));rintro _ w3 ⟨rfl,hE3⟩;have p9:M8 (λ_=>False) O2 w2 O2 w3:=aa (λh=>h) O2 hE3;have j9:=m6.U p9 zd (λh=>h);have g8:=u4.U p9 zd (λh=>h);have g1:=n8.J (p9.mono (λ_ h=>h.elim) zd);have hR3:=hR2.U p9;refine zh ?_
 by_cases s9:dE li lk ts=false
 ·refine zTH rfl ((by rw[s9];rfl)) ?_;apply zv (MW (cells:=tab0) I5 (Ms _) rfl rfl)
  apply zsa (us:=tab0) g8 (ME _);have j':=g8.setRow (us:=tab0);have k6:M8 (λj=>j=2) O2 w3 O2 (w3.setRow cb tab0):=Lp zd g8.tag rfl;refine zh ?_
  refine bz rfl rfl rfl j'.V (NA _) (ME _) ⟨(g1.J (k6.mono (λ_ h=>zo) zd)).ext,.inl ⟨s9,rfl⟩⟩
 have l':dE li lk ts=true:=by simpa using s9
 obtain⟨h40,x4,t5,hrr⟩:=cL l';apply bh rfl ((by rw[l'];rfl));have s8:=l9.ext g1.ext;refine zh ?_;have d0:=j9.drew.V;apply aN (λW=>∀j u,[ig,kp,ru][j]? = some u->W.cell? (nA db j)=some u) 12 rfl zk;apply zrf 0 rfl d0 rfl;apply zt 1 rfl d0 (λw1 a6=>RV.ld (a6 0 _ rfl) rfl);apply zrf 3 rfl d0 rfl;apply zt 4 rfl d0 (λw1 a6=>RV.ld (a6 1 _ rfl) rfl);apply zrf 6 rfl d0 rfl;apply zt 7 rfl d0 (λw1 a6=>RV.ld (a6 2 _ rfl) rfl);apply zr 8 rfl d0 (λ_=>aM s8.sh underlying39 rfl);refine mO (λx:Nat×(Nat->Nat)×World=>[(1,nP db),(2,nP cb),(4,.pointer (some ⟨x.1,0,none⟩)),(26,.agg (dY (dd li) (dd lk) 0 (xs.length:Nat) nS dW dW).toArray)]) (λx=>x.2.2) (λx=>Ns x.2.1 x.2.2 3 x.1 tab0 35/\M8 (λq=>q=3) O2 w3 x.2.1 x.2.2/\Nn w.heap.size x.2.1 x.2.2) #[true,true,true,true,true,true,true,true,true,true,true,false] 1 ?_ ?_
 ·intro hN;have hR:=hR3.drew;have hU:M8 (λq=>q=3) O2 w3 O2 w3.drew:=aa zd O2 (Ll w3).drew;have k0:∀O W,M8 (λq=>q=3) O2 w3 O W->∀(j:Nat) (u:ix),[ig,kp,ru][j]? = some u->W.cell? (nA db j)=some u:=λO W u=>(j9.U u zd zd).V
  have ki:∀O W,M8 (λq=>q=3) O2 w3 O W->Sl encI 1 W ig li:=λO W u=>hi.ext (g1.J (u.mono (λ_ h=>zo) zd)).ext
  have kk:∀O W,M8 (λq=>q=3) O2 w3 O W->Sl encI 1 W kp lk:=λO W u=>hk.ext (g1.J (u.mono (λ_ h=>zo) zd)).ext
  refine NQ 2 10 zk rfl rfl ?_ ?_ 
  ·apply zc Pu (py li ig _ (ki _ _ hU) x4);rintro _ wa ⟨rfl,c6⟩;rw[c6];clear c6 wa;refine zh ?_
   apply ae (k0 _ _ hU);refine NQ 5 10 zk rfl rfl ?_ ?_ 
   ·apply zc Pu (py lk kp _ (kk _ _ hU) t5);rintro _ wa ⟨rfl,c6⟩;rw[c6];clear c6 wa;refine zh ?_
    apply ae (k0 _ _ hU);apply zr 9 rfl (k0 _ _ hU) (λ_=>MW (cells:=(dY (dd li) (dd lk) 0 (xs.length:Nat) nS dW dW).toArray) I5 (Ms _) rfl rfl)
    apply Lq 10 zk rfl;apply au hR 3 zd (Ms _) rfl
    intro tb wc Oc fC b0 g2 y0;have hU:=LD hU b0;have hR:=g2;refine zh ?_;apply ae (k0 _ _ hU);exact MZ (hN (tb,_,_) ⟨fC,hU,hR⟩) zk ⟨rfl,rfl,rfl,rfl,trivial⟩ rfl
   apply au hR 3 zd (Ms _) rfl;intro tb wc Oc fC b0 g2 y0;have hU:=LD hU b0;have hR:=g2;refine zh ?_
   apply ae (k0 _ _ hU);apply Lq 5 zk rfl
   apply zc Pu (py lk kp _ (kk _ _ hU) t5);rintro _ wa ⟨rfl,c6⟩;rw[c6];clear c6 wa;refine zh ?_
   apply ae (k0 _ _ hU);apply zr 9 rfl (k0 _ _ hU) (λ_=>MW (cells:=(dY (dd li) (dd lk) 0 (xs.length:Nat) nS dW dW).toArray) I5 (Ms _) rfl rfl)
   exact MZ (hN (tb,_,_) ⟨fC,hU,hR⟩) zk ⟨rfl,rfl,rfl,rfl,trivial⟩ rfl
  apply au hR 3 zd (Ms _) rfl;intro tb wc Oc fC b0 g2 y0;have hU:=LD hU b0;have hR:=g2;refine zh ?_
  apply ae (k0 _ _ hU);apply Lq 2 zk rfl
  apply zc Pu (py li ig _ (ki _ _ hU) x4);rintro _ wa ⟨rfl,c6⟩;rw[c6];clear c6 wa;refine zh ?_
  apply ae (k0 _ _ hU);apply Lq 5 zk rfl
  apply zc Pu (py lk kp _ (kk _ _ hU) t5);rintro _ wa ⟨rfl,c6⟩;rw[c6];clear c6 wa;refine zh ?_
  apply ae (k0 _ _ hU);apply zr 9 rfl (k0 _ _ hU) (λ_=>MW (cells:=(dY (dd li) (dd lk) 0 (xs.length:Nat) nS dW dW).toArray) I5 (Ms _) rfl rfl)
  exact MZ (hN (tb,_,_) ⟨fC,hU,hR⟩) zk ⟨rfl,rfl,rfl,rfl,trivial⟩ rfl
 rintro⟨tb,O4,w4⟩ ⟨g5,r6,x'⟩;dsimp only at g5 r6 x' ⊢;have t9:=j9.U r6 zd zd;have u3:=g8.U r6 zd zd;apply Lq 11 zk rfl;apply zsa (us:=(dY (dd li) (dd lk) 0 (xs.length:Nat) nS dW dW).toArray) g5 (ME _);have s6:=g5.setRow (us:=(dY (dd li) (dd lk) 0 (xs.length:Nat) nS dW dW).toArray);have q':M8 (λj=>j=3) O4 w4 O4 (w4.setRow tb (dY (dd li) (dd lk) 0 (xs.length:Nat) nS dW dW).toArray):=Lp zd g5.tag rfl;generalize w4.setRow tb (dY (dd li) (dd lk) 0 (xs.length:Nat) nS dW dW).toArray=w5 at *;have m5:=t9.U q' zd zd;have u0:=u3.U q' zd zd;have hR5:=x'.U q';have n7:=g1.J ((r6.J q').mono (λ_ h=>zo) zd);refine zh ?_;apply ae m5.V;have y7:=l9.ext n7.ext;have c2:w5.cell? (nA db 2)=some ru:=m5.cell 2 rfl;have z6:(2^40:Nat)=1099511627776:=zd;apply MC zk;refine zh ?_
 apply zlp (λz:Nat×(Nat->Nat)×World×ix×ix=>[(1,nP db),(2,nP cb),(4,nP tb),(5,z.2.2.2.1),(6,z.2.2.2.2),(28,ru),(29,nI xs.length),(30,nI z.1)]) (λz=>z.2.2.1) (λz=>z.1<=xs.length/\M8 (λq=>3<=q) O4 w5 z.2.1 z.2.2.1/\Nn w.heap.size z.2.1 z.2.2.1/\Ns z.2.1 z.2.2.1 3 tb (dY (dd li) (dd lk) (fj ts z.1) (xs.length:Nat) nS dW dW).toArray 35/\Nf aY 75 3 z.2.1 z.2.2.1 4 z.2.2.2.1 ((xs.take z.1).map (·.1))/\Nf aY 75 3 z.2.1 z.2.2.1 5 z.2.2.2.2 ((xs.take z.1).map (·.2.1))) (λz=>xs.length-z.1) (0,O4,w5,nS,nS) ⟨Li _,Nm zd _ _,hR5,s6,MN _ _ _ _ _ _,MN _ _ _ _ _ _⟩;rintro⟨i,O9,w9,lv,rv⟩ ⟨z1,p',j3,j6,g7,g6⟩;dsimp only at z1 p' j3 j6 g7 g6 ⊢;have h0:=n7.J (p'.mono (λ_ h=>zo) zd);have s7:=l9.ext h0.ext;have hxl:xs.length<=40:=zo;refine zh ?_
 refine zC ?_ ?_
 ·intro i5;replace i5:i<xs.length:=dT i5;obtain⟨x,p5⟩:∃x,x=nth xs i:=⟨_,rfl⟩
  have p4:=hx i i5;rw[<-p5]at p4;have p1:=p4.1.one;have p2:=p4.2.1.one;have y8:(cB x).toArray.toList.all Ls=true:=by obtain⟨x1,x2,bk⟩:=x;exact lO p1 p2
  refine zh ?_;apply zv (ah (us:=cB x) (λj u hu=>s7.cell i5 (by rw[<-p5];exact hu)) (isAgg77 _) (sizeOf77 _) rfl)
  apply au j3 6 zo (zeroValue77 _) rfl;intro rb l0 O10 e5 u9 k8 p0;refine zh ?_
  apply zsb (us:=(cB x).toArray) e5 (sizeOf77 _) y8;have e4:=e5.setRow (us:=(cB x).toArray);have h7:M8 (λj=>j=6) O10 l0 O10 (l0.setRow rb (cB x).toArray):=Lp zd e5.tag rfl;generalize l0.setRow rb (cB x).toArray=d7 at *;have d3:=u9.J h7;have l6:=j6.U d3 zd zd;have m2:=g7.U d3 zd zd;have m0:=g6.U d3 zd zd;have k7:=k8.U h7;obtain⟨y6,y5,rc3,_⟩:=jO e4;have hll:((xs.take i).map (·.1)).length=i:=by simp;omega
  have hrl:((xs.take i).map (·.2.1)).length=i:=by simp;omega
  refine zh ?_;apply aN (λW=>(∀(q:Nat) (u:ix),(aY x.1)[q]? = some u->W.cell? (nA rb q)=some u)/\(∀(q:Nat) (u:ix),(aY x.2.1)[q]? = some u->W.cell? ((nA rb 3).add q)=some u)) 12 rfl zk
  refine zin ⟨y6 _ (Ll d7).drew,y5 _ (Ll d7).drew⟩ λzS=>?_
  apply zrm 0 rfl zS rfl;apply zrf 1 rfl zS rfl
  apply zt 2 rfl zS (λw1 a6=>ah (us:=aY x.1) a6.1 (isAgg75 _) (sizeOf75 _) rfl);apply zrm 5 rfl zS rfl
  apply zrf 6 rfl zS rfl;apply zt 7 rfl zS (λw1 a6=>ah (us:=aY x.2.1) a6.2 (isAgg75 _) (sizeOf75 _) rfl)
  refine mO (λy:ix×ix×(Nat->Nat)×World=>[(1,nP db),(2,nP cb),(4,nP tb),(7,nI (i:Nat)),(8,nP rb),(28,ru),(29,nI xs.length),(30,nI (i:Nat)),(39,y.1),(44,y.2.1)]) (λy=>y.2.2.2) (λy=>Nf aY 75 3 y.2.2.1 y.2.2.2 4 y.1 ((xs.take i).map (·.1)++[x.1])/\Nf aY 75 3 y.2.2.1 y.2.2.2 5 y.2.1 ((xs.take i).map (·.2.1)++[x.2.1])/\M8 (λq=>q=4\/q=5\/q=7\/q=8) O10 d7 y.2.2.1 y.2.2.2/\Nn w.heap.size y.2.2.1 y.2.2.2) #[true,true,true,true,true,true,true,true,true,true,false,false] 2 ?_ ?_
  ·intro hN;have hR:=k7.drew;have hU:M8 (λq=>q=4\/q=5\/q=7\/q=8) O10 d7 O10 d7.drew:=aa zd O10 (Ll d7).drew;have k0:∀O W,M8 (λq=>q=4\/q=5\/q=7\/q=8) O10 d7 O W->(∀(q:Nat) (u:ix),(aY x.1)[q]? = some u->W.cell? (nA rb q)=some u)/\(∀(q:Nat) (u:ix),(aY x.2.1)[q]? = some u->W.cell? ((nA rb 3).add q)=some u):=λO W u=>by
    obtain⟨r1,r2,_,_⟩:=jO (e4.U u zd zd);exact⟨r1 _ (Ll _),r2 _ (Ll _)⟩
   have rA:=m2.drew;have rB:=m0.drew;refine NQ 3 8 zk rfl rfl ?_ ?_ 
   ·apply bd elN (enc:=aY) hR 7 zd x.1 rfl rfl rfl zd rfl;intro y4 Wa Oa sA g9 u';have hU:=LD hU (MF g9 (λ_ h=>.inr (.inr (.inl h))) zd);have hR:=u';have rA:=Ly rA g9 zd zd;have rB:=Ly rB g9 zd zd
    try have sB:=Ly sB g9 zd zd
    refine zh ?_;apply ae (k0 _ _ hU)
    refine NQ 4 8 zk rfl rfl ?_ ?_ 
    ·apply aC elN rA hR sA.sl (by simp) rfl rfl (by simp) (λu hu c hc=>by rw[ln.1 hu]at hc;simp only[aY,Lk,Lu,or_false]at hc;rcases hc with rfl|rfl|rfl;rfl;rfl;exact p1) (by simp only[ka];omega) (by simp only[ka];omega) zd rfl;intro h' Wc Oc rA b0 g2;have hU:=LD hU (MF b0 (λ_ h=>.inl h) zd);have hR:=g2;have rB:=Ly rB b0 zd zd
     try have sB:=Ly sB b0 zd zd
     refine zh ?_;apply ae (k0 _ _ hU)
     apply Lq 8 zk rfl;apply bd elN (enc:=aY) hR 8 zd x.2.1 rfl rfl rfl zd rfl
     intro w6 Wb Ob sB d1 o5;have hU:=LD hU (MF d1 (λ_ h=>.inr (.inr (.inr h))) zd);have hR:=o5;have rA:=Ly rA d1 zd zd;have rB:=Ly rB d1 zd zd
     try have sA:=Ly sA d1 zd zd
     refine zh ?_;apply ae (k0 _ _ hU)
     apply Lq 9 zk rfl;apply aC elN rB hR sB.sl (by simp) rfl rfl (by simp) (λu hu c hc=>by rw[ln.1 hu]at hc;simp only[aY,Lk,Lu,or_false]at hc;rcases hc with rfl|rfl|rfl;rfl;rfl;exact p2) (by simp only[ka];omega) (by simp only[ka];omega) zd rfl
     intro h9 Wd Od rB g3 o4;have hU:=LD hU (MF g3 (λ_ h=>.inr (.inl h)) zd);have hR:=o4;have rA:=Ly rA g3 zd zd;refine zh ?_;apply ae (k0 _ _ hU);exact MZ (hN (h',h9,_,_) ⟨rA,rB,hU,hR⟩) zk ⟨rfl,rfl,rfl,rfl,rfl,rfl,rfl,rfl,rfl,rfl,trivial⟩ rfl
    apply bd elN (enc:=aY) hR 8 zd x.2.1 rfl rfl rfl zd rfl;intro w6 Wb Ob sB d1 o5;have hU:=LD hU (MF d1 (λ_ h=>.inr (.inr (.inr h))) zd);have hR:=o5;have rA:=Ly rA d1 zd zd;have rB:=Ly rB d1 zd zd
    try have sA:=Ly sA d1 zd zd
    refine zh ?_;apply ae (k0 _ _ hU)
    apply Lq 4 zk rfl;apply aC elN rA hR sA.sl (by simp) rfl rfl (by simp) (λu hu c hc=>by rw[ln.1 hu]at hc;simp only[aY,Lk,Lu,or_false]at hc;rcases hc with rfl|rfl|rfl;rfl;rfl;exact p1) (by simp only[ka];omega) (by simp only[ka];omega) zd rfl
    intro h' Wc Oc rA b0 g2;have hU:=LD hU (MF b0 (λ_ h=>.inl h) zd);have hR:=g2;have rB:=Ly rB b0 zd zd
    try have sB:=Ly sB b0 zd zd
    refine zh ?_;apply ae (k0 _ _ hU)
    apply Lq 9 zk rfl;apply aC elN rB hR sB.sl (by simp) rfl rfl (by simp) (λu hu c hc=>by rw[ln.1 hu]at hc;simp only[aY,Lk,Lu,or_false]at hc;rcases hc with rfl|rfl|rfl;rfl;rfl;exact p2) (by simp only[ka];omega) (by simp only[ka];omega) zd rfl
    intro h9 Wd Od rB g3 o4;have hU:=LD hU (MF g3 (λ_ h=>.inr (.inl h)) zd);have hR:=o4;have rA:=Ly rA g3 zd zd;refine zh ?_;apply ae (k0 _ _ hU);exact MZ (hN (h',h9,_,_) ⟨rA,rB,hU,hR⟩) zk ⟨rfl,rfl,rfl,rfl,rfl,rfl,rfl,rfl,rfl,rfl,trivial⟩ rfl
   apply bd elN (enc:=aY) hR 8 zd x.2.1 rfl rfl rfl zd rfl;intro w6 Wb Ob sB d1 o5;have hU:=LD hU (MF d1 (λ_ h=>.inr (.inr (.inr h))) zd);have hR:=o5;have rA:=Ly rA d1 zd zd;have rB:=Ly rB d1 zd zd
   try have sA:=Ly sA d1 zd zd
   refine zh ?_;apply ae (k0 _ _ hU)
   apply Lq 3 zk rfl;apply bd elN (enc:=aY) hR 7 zd x.1 rfl rfl rfl zd rfl
   intro y4 Wa Oa sA g9 u';have hU:=LD hU (MF g9 (λ_ h=>.inr (.inr (.inl h))) zd);have hR:=u';have rA:=Ly rA g9 zd zd;have rB:=Ly rB g9 zd zd
   try have sB:=Ly sB g9 zd zd
   refine zh ?_;apply ae (k0 _ _ hU)
   apply Lq 4 zk rfl;apply aC elN rA hR sA.sl (by simp) rfl rfl (by simp) (λu hu c hc=>by rw[ln.1 hu]at hc;simp only[aY,Lk,Lu,or_false]at hc;rcases hc with rfl|rfl|rfl;rfl;rfl;exact p1) (by simp only[ka];omega) (by simp only[ka];omega) zd rfl
   intro h' Wc Oc rA b0 g2;have hU:=LD hU (MF b0 (λ_ h=>.inl h) zd);have hR:=g2;have rB:=Ly rB b0 zd zd
   try have sB:=Ly sB b0 zd zd
   refine zh ?_;apply ae (k0 _ _ hU)
   apply Lq 9 zk rfl;apply aC elN rB hR sB.sl (by simp) rfl rfl (by simp) (λu hu c hc=>by rw[ln.1 hu]at hc;simp only[aY,Lk,Lu,or_false]at hc;rcases hc with rfl|rfl|rfl;rfl;rfl;exact p2) (by simp only[ka];omega) (by simp only[ka];omega) zd rfl
   intro h9 Wd Od rB g3 o4;have hU:=LD hU (MF g3 (λ_ h=>.inr (.inl h)) zd);have hR:=o4;have rA:=Ly rA g3 zd zd;refine zh ?_;apply ae (k0 _ _ hU);exact MZ (hN (h',h9,_,_) ⟨rA,rB,hU,hR⟩) zk ⟨rfl,rfl,rfl,rfl,rfl,rfl,rfl,rfl,rfl,rfl,trivial⟩ rfl
  rintro⟨h',h9,O12,g4⟩ ⟨e6,a',b8,a5⟩;dsimp only at e6 a' b8 a5 ⊢;have m1:=e4.U b8 zd zd;have a9:=l6.U b8 zd zd;obtain⟨s1,s2,s3,_⟩:=jO m1;have b3:=(p'.J (d3.mono (λ_ h=>zo) zd)).J (b8.mono (λ_ h=>zo) zd);have s3':=s3 _ (Ll _);have x6:x.2.2=(nth ts i).2.2:=p4.2.2;have el:(xs.take (i+1)).map (·.1)=(xs.take i).map (·.1)++[x.1]:=by rw[aG i5,Mz,<-p5];rfl
  have er:(xs.take (i+1)).map (·.2.1)=(xs.take i).map (·.2.1)++[x.2.1]:=by rw[aG i5,Mz,<-p5];rfl
  refine zin ⟨s1 _ (Ll _),s2 _ (Ll _)⟩ λzS=>?_
  apply zra 10 rfl zS rfl;apply zra 11 rfl zS rfl
  apply MC zk;refine zh ?_
  have z3:=ud ts i zo;refine zC ?_ ?_
  ·intro hb;have u5:fj ts (i+1)=fj ts i ||| 2^i:=by rw[show fj ts (i+1)=if(nth ts i).2.2=true then fj ts i ||| 2^i else fj ts i from rfl,ap (by rw[<-x6];exact hb)]
   have hpw:2^i<2^40:=MI zd zo;have t2:g4.cell? (nA tb 2)=some (.int .u64 ((fj ts i:Nat):Int)):=a9.cell 2 rfl;apply PG 6 rfl rfl zk zk;refine zh ?_;apply zw (lj (a:=1) (b:=i) rfl rfl rfl rfl (by show _<=64;omega) (by show _<=(18446744073709551615:Int);omega));rw[NV];refine zwH (mQ (a:=fj ts i) (b:=2^i) rfl rfl rfl rfl (by show _<=(18446744073709551615:Int);omega) (by show _<=(18446744073709551615:Int);omega)) ?_;apply dX;rw[<-u5];apply aj (j:=2) a9.drew rfl (Nz _) rfl rfl rfl rfl;have h6:M8 (λj=>j=3) O12 g4.drew O12 (g4.drew.setCell ⟨tb,2,none⟩ (.int .u64 ((fj ts (i+1):Nat):Int))):=N8 zd a9.tag rfl;have l5:Ns O12 (g4.drew.setCell ⟨tb,2,none⟩ (.int .u64 ((fj ts (i+1):Nat):Int))) 3 tb (dY (dd li) (dd lk) (fj ts (i+1)) (xs.length:Nat) nS dW dW).toArray 35:=a9.drew.set 2 _;generalize g4.drew.setCell ⟨tb,2,none⟩ (.int .u64 ((fj ts (i+1):Nat):Int))=s0 at *;refine zh ?_;refine zxd (i+1,O12,s0,h',h9) ⟨i5,b3.drew.J (h6.mono (λ_ h=>zo) zd),a5.drew.U h6,l5,by dsimp only;rw[el];exact e6.drew.U h6 zd zd,by dsimp only;rw[er];exact a'.drew.U h6 zd zd⟩
  intro hb;have u5:fj ts (i+1)=fj ts i:=by rw[show fj ts (i+1)=if(nth ts i).2.2=true then fj ts i ||| 2^i else fj ts i from rfl,am (by rw[<-x6,hb];decide)]
  refine zh ?_;refine zxd (i+1,O12,g4,h',h9) ⟨i5,b3,a5,by dsimp only;rw[u5];exact a9,by dsimp only;rw[el];exact e6,by dsimp only;rw[er];exact a'⟩
 intro p6;obtain rfl:i=xs.length:=dF p6;rw[Mt]at g7 g6;have hR9':=j3;refine zh ?_;apply zc call24 (rn true (fM ts) (xs.map (·.1)) lv w9 g7.sl (by simp[hl]) (λj hj=>by rw[M5]at hj;rw[cz hj,show fM ts=ts.map (·.1)from rfl,cz zo];exact(hx j hj).1.ext h0.ext));rintro va l0 ⟨p0,hPa⟩;obtain⟨e0,d9,ea,rfl,a1,a2,ha0,ha1⟩:=hPa.uni;have k5:M8 (λ_=>False) O9 w9 O9 l0:=aa (λh=>h) O9 p0;have k8:=j3.U k5;refine zh ?_;apply au k8 7 zo (Pc _) rfl;intro ab d7 O11 f4 h7 k7 hE11;apply zsb (us:=#[e0,d9]) f4 (N5 _) (by simp only[LK,a1,a2];rfl);have n3:=f4.setRow (us:=#[e0,d9]);have b8:M8 (λj=>j=7) O11 d7 O11 (d7.setRow ab #[e0,d9]):=Lp zd f4.tag rfl;generalize d7.setRow ab #[e0,d9]=g4 at *;have g0:=h7.J b8;have b3:=(k5.mono (S':=λq=>q=7) (λ_ h=>h.elim) zd).J g0;have a5:=k7.U b8;have a':=g6.U b3 zd zd;have n5:=h0.J (b3.mono (λ_ h=>zo) zd);refine zh ?_;apply zc call24 (rn false (cR ts) (xs.map (·.2.1)) rv g4 a'.sl (by simp[hl]) (λj hj=>by rw[M5]at hj;rw[cz hj,show cR ts=ts.map (·.2.1)from rfl,cz zo];exact(hx j hj).2.1.ext n5.ext));rintro vb s0 ⟨v6,hPb⟩;obtain⟨d',d8,eb,rfl,b1,b2,z8,z7⟩:=hPb.uni;have n4:M8 (λ_=>False) O11 g4 O11 s0:=aa (λh=>h) O11 v6;have v2:=a5.U n4;refine zh ?_;apply au v2 8 zo (Pc _) rfl
 intro bb r' O14 e' u7 v1 hE14;apply zsb (us:=#[d',d8]) e' (N5 _) (by simp only[LK,b1,b2];rfl);have i':=e'.setRow (us:=#[d',d8]);have n6:M8 (λj=>j=8) O14 r' O14 (r'.setRow bb #[d',d8]):=Lp zd e'.tag rfl;generalize r'.setRow bb #[d',d8]=w15 at *;have b7:=u7.J n6;have f8:=(n4.mono (S':=λq=>q=8) (λ_ h=>h.elim) zd).J b7;have b9:=(g0.mono (S':=λq=>q=7\/q=8) (λ_ h=>.inl h) zd).J (f8.mono (λ_ h=>.inr h) zd);have f5:=(k5.mono (S':=λq=>q=7\/q=8) (λ_ h=>h.elim) zd).J b9;have o7:=v1.U n6;have d2:=h0.J (f5.mono (λ_ h=>zo) zd);have j1:=n3.U f8 zd zd;have l4:=j6.U f5 zd zd;have a4:=(u0.U p' zd zd).U f5 zd zd;refine zh ?_
 by_cases p8:ea=0
 ·apply ax (d:=66) rfl (b':=false) ((by rw[p8];rfl));refine zh ?_
  by_cases p7:eb=0
  ·obtain⟨a,y3,z9,x8,z',j8,j5,l3⟩:=ha1 p8;obtain⟨b,y2,z4,x7,z5,j7,j4,l2⟩:=z7 p7;have r8:=dL x8 y3;have r7:=dL x7 y2;obtain⟨A,hA⟩:∃A,A=aV y3 a.1 a.2:=⟨_,rfl⟩
   obtain⟨B,hB⟩:∃B,B=aV y2 b.1 b.2:=⟨_,rfl⟩
   rw[<-hA]at r8 j8 j5;rw[<-hB]at r7 j7 j4;refine zFH rfl ((by rw[p7];rfl)) ?_;apply zv (ah (us:=[e0,d9]) j1.V (P2 _) (N5 _) rfl);apply zv (ah (us:=[d',d8]) i'.V (P2 _) (N5 _) rfl);apply fD underlying120 (N5 _) (Pc _) yW [(e0,d9),(d',d8)] rfl rfl rfl rfl zk (by simp) rfl;intro l1 p3 l8 o';have g':M8 (λ_=>False) O14 w15 O14 p3:=aa (λh=>h) O14 o';have f':=b9.J (g'.mono (S':=λq=>q=7\/q=8) (λ_ h=>h.elim) zd);have f7:=b7.J (g'.mono (S':=λq=>q=8) (λ_ h=>h.elim) zd);have v':=j8.U j3 f';have v8:=j7.U a5 f7;have o2:=l3.slU j5 j3 f';have o0:=l2.slU j4 a5 f7
   have n9:TabsD p3 l1 [(e0,d9),(d',d8)] [A.1,B.1] [A.2,B.2]:=⟨l8,rfl,rfl,λi hi=>by
    match i,hi with
    |0,_=>exact⟨by rw[ao,ao];exact v'.rows,by rw[ao,ao];exact o2,by rw[ao,ao];exact r8⟩
    |1,_=>exact⟨by rw[aW,aW,ao,ao];exact v8.rows,by rw[aW,aW,ao,ao];exact o0,by rw[aW,aW,ao,ao];exact r7⟩⟩
   apply zc call25 (BF [(e0,d9),(d',d8)] [A.1,B.1] [A.2,B.2] l1 p3 n9 (by simp));rintro gv k' ⟨c8,v5,i6⟩;obtain⟨many,hg,m4⟩:=nJ [A.1,B.1];obtain⟨g,p6⟩:∃g,g=bB [A.1,B.1]:=⟨_,rfl⟩
   rw[<-p6]at hg m4 c8;have x5:∀T∈[A,B],∀p,p<T.1.length->∀i j,i<37->j<37->nth g i=nth g j->nth (nth T.1 p) i=nth (nth T.1 p) j:=λT hT p hp i j hi hj e=>by
    refine oX (tabs:=[A.1,B.1]) (λrows e2 r hr=>?_) ((m4 i j hi hj).1 e) T.1 ?_ _ (aJ hp)
    ·have o3:∃w0,M9 rows w0:=by
      rcases Lk.1 e2 with rfl|e2
      ·exact⟨_,r8⟩
      rw[ln.1 e2];exact⟨_,r7⟩
     obtain⟨w0,o3⟩:=o3;obtain⟨q,hq,rfl⟩:=cd hr;have h1:=(o3.row q hq).2 i hi;have h2:=(o3.row q hq).2 j hj;have:=o3.le;omega
    rcases Lk.1 hT with rfl|hT
    ·simp
    rw[ln.1 hT];simp
   have u6:M8 (λ_=>False) O14 p3 O14 k':=aa (λh=>h) O14 v5;have b6:=g'.J u6;have e1:=l4.U b6 zd (λh=>h);have v0:=o7.U b6;have y1:=c8.one;have i8:=i6.free c8 (λx _=>by simp) (o7.U g');refine zh ?_;apply aj (j:=4) e1 rfl (Mw _) y1 rfl rfl rfl;have h5:M8 (λj=>j=3) O14 k' O14 (k'.setCell ⟨tb,4,none⟩ gv):=N8 zd e1.tag rfl;have c7:Ns O14 (k'.setCell ⟨tb,4,none⟩ gv) 3 tb (dY (dd li) (dd lk) (fj ts xs.length) (xs.length:Nat) gv dW dW).toArray 35:=e1.set 4 _;generalize k'.setCell ⟨tb,4,none⟩ gv=w18 at *;have e7:=c8.U i8 h5;have i7:=i8.U h5;have o6:=v0.U h5;have a0:=(b6.mono (S':=λq=>q=3) (λ_ h=>h.elim) zd).J h5;have c':=j1.U a0 zd zd;have c9:=i'.U a0 zd zd;have m9:=a4.U a0 zd zd;have j2:=d2.J (a0.mono (λ_ h=>zo) zd);have f9:=(b9.mono (S':=λq=>q=3\/q=7\/q=8) (λ_ h=>.inr h) zd).J (a0.mono (λ_ h=>.inl h) zd);have f6:=(b7.mono (S':=λq=>q=3\/q=8) (λ_ h=>.inr h) zd).J (a0.mono (λ_ h=>.inl h) zd);have v9:=j8.U j3 f9;have v7:=j7.U a5 f6;have o1:=l3.slU j5 j3 f9;have n':=l2.slU j4 a5 f6;refine zh ?_;have d4:w18.drew.cell? (nA tb 4)=some gv:=c7.cell 4 rfl;apply aN (λW=>W.cell? (nA tb 4)=some gv/\(∀j u,[e0,d9][j]? = some u->W.cell? (nA ab j)=some u)/\∀j u,[d',d8][j]? = some u->W.cell? (nA bb j)=some u) 12 rfl zk;refine zin ⟨d4,c'.drew.V,c9.drew.V⟩ λzS=>?_
   apply zrf 0 rfl zS rfl;apply zt 1 rfl zS (λw1 a6=>RV.ld a6.1 rfl)
   apply zt 2 rfl zS (λw1 a6=>ah (us:=[e0,d9]) a6.2.1 (P2 _) (N5 _) rfl);apply zrf 4 rfl zS rfl
   apply zt 5 rfl zS (λw1 a6=>RV.ld a6.1 rfl);apply zt 6 rfl zS (λw1 a6=>ah (us:=[d',d8]) a6.2.2 (P2 _) (N5 _) rfl)
   have g3:M8 (λ_=>False) O14 w18 O14 w18.drew:=aa (λh=>h) O14 (Ll w18).drew;apply Lq 3 zk rfl;apply zc call26 (Ae g many gv e0 d9 A.1 A.2 w18.drew hg e7.drew (v9.ext (Ll w18).drew).rows o1.drew r8 (x5 A (by simp)));rintro _ r9 ⟨lc,rfl,y',t4,o9⟩;have d5:M8 (λ_=>False) O14 w18 O14 r9:=g3.J (aa (λh=>h) O14 o9);have a3:N4 w18 r9:=(Ll w18).drew.J o9;refine zh ?_;apply ae ⟨a3.cell (c7.cell 4 rfl),(c'.U d5 zd (λh=>h)).V,(c9.U d5 zd (λh=>h)).V⟩;apply zrf 8 rfl ⟨a3.cell (c7.cell 4 rfl),(c'.U d5 zd (λh=>h)).V,(c9.U d5 zd (λh=>h)).V⟩ rfl;apply Lq 7 zk rfl;apply zc call26 (Ae g many gv d' d8 B.1 B.2 r9 hg (e7.ext a3) (v7.ext a3).rows (n'.ext a3) r7 (x5 B (by simp)));rintro _ k9 ⟨rc,rfl,y9,e3,o8⟩;have b5:M8 (λ_=>False) O14 w18 O14 k9:=d5.J (aa (λh=>h) O14 o8);have a8:=c7.U b5 zd (λh=>h);have j0:=c'.U b5 zd (λh=>h);have i9:=c9.U b5 zd (λh=>h);have m8:=m9.U b5 zd (λh=>h);have m3:=y'.ext o8;refine zh ?_;apply ae ⟨a8.cell 4 rfl,j0.V,i9.V⟩;obtain⟨u1,b4,k1,n1,t1,t6,s5,k4,t8,t3,w8⟩:=m3;obtain⟨u2,d6,k2,n2,t2,s',s4,k3,t7,t0,w7⟩:=y9;subst t6;subst s';have q1:=s5.one;have q2:=k4.one;have q3:=t8.one;have q4:=t3.one;have q5:=w8.one;have r1:=s4.one;have r2:=k3.one;have r3:=t7.one;have r4:=t0.one;have r5:=w7.one;obtain⟨pa,x3⟩:∃pa,pa=cZ g many A.1:=⟨_,rfl⟩
   obtain⟨pb,x0⟩:∃pb,pb=cZ g many B.1:=⟨_,rfl⟩
   rw[<-x3]at s5 k4 t8 t3 t4 ⊢;rw[<-x0]at s4 k3 t7 t0 e3 ⊢;obtain⟨c5,m'⟩:∃c5,c5=fj ts xs.length:=⟨_,rfl⟩
   rw[<-m']at a8;apply Lq 9 zk rfl;apply fy (us:=#[nI pa.width,u1,b4,k1,n1,t1]) 5 (dY (dd li) (dd lk) c5 (xs.length:Nat) gv [nI pa.width,u1,b4,k1,n1,t1] dW).toArray a8 rfl (by show 5+6<=17;omega) (MM _) (by simp only[LK,q1,q2,q3,q4,q5];rfl) rfl rfl rfl;have a7:=a8.setRow (us:=(dY (dd li) (dd lk) c5 (xs.length:Nat) gv [nI pa.width,u1,b4,k1,n1,t1] dW).toArray);have h4:M8 (λj=>j=3) O14 k9 O14 (k9.setRow tb (dY (dd li) (dd lk) c5 (xs.length:Nat) gv [nI pa.width,u1,b4,k1,n1,t1] dW).toArray):=Lp zd a8.tag rfl;generalize k9.setRow tb (dY (dd li) (dd lk) c5 (xs.length:Nat) gv [nI pa.width,u1,b4,k1,n1,t1] dW).toArray=w21 at *;have f3:=j0.U h4 zd zd;have e9:=i9.U h4 zd zd;have m7:=m8.U h4 zd zd;refine zh ?_;apply ae ⟨a7.cell 4 rfl,f3.V,e9.V⟩;apply zrf 10 rfl ⟨a7.cell 4 rfl,f3.V,e9.V⟩ rfl;apply Lq 11 zk rfl;apply fy (us:=#[nI pb.width,u2,d6,k2,n2,t2]) 11 (dY (dd li) (dd lk) c5 (xs.length:Nat) gv [nI pa.width,u1,b4,k1,n1,t1] [nI pb.width,u2,d6,k2,n2,t2]).toArray a7 rfl (by show 11+6<=17;omega) (MM _) (by simp only[LK,r1,r2,r3,r4,r5];rfl) rfl rfl rfl;have i0:=a7.setRow (us:=(dY (dd li) (dd lk) c5 (xs.length:Nat) gv [nI pa.width,u1,b4,k1,n1,t1] [nI pb.width,u2,d6,k2,n2,t2]).toArray)
   have h3:M8 (λj=>j=3) O14 w21 O14 (w21.setRow tb (dY (dd li) (dd lk) c5 (xs.length:Nat) gv [nI pa.width,u1,b4,k1,n1,t1] [nI pb.width,u2,d6,k2,n2,t2]).toArray):=Lp zd a7.tag rfl;generalize w21.setRow tb (dY (dd li) (dd lk) c5 (xs.length:Nat) gv [nI pa.width,u1,b4,k1,n1,t1] [nI pb.width,u2,d6,k2,n2,t2]).toArray=w22 at *;have e8:=m7.U h3 zd zd;refine zh ?_;apply ae ⟨i0.cell 4 rfl,(f3.U h3 zd zd).V,(e9.U h3 zd zd).V⟩;have go2:=y1;have n0:(dY (dd li) (dd lk) c5 (xs.length:Nat) gv [nI pa.width,u1,b4,k1,n1,t1] [nI pb.width,u2,d6,k2,n2,t2]).toArray.toList.all Ls=true:=by
    simp only[dY,P8,Ny,LK,go2,q1,q2,q3,q4,q5,r1,r2,r3,r4,r5];rfl
   apply MC zk;refine zh ?_
   apply zv (ah (us:=dY (dd li) (dd lk) c5 (xs.length:Nat) gv [nI pa.width,u1,b4,k1,n1,t1] [nI pb.width,u2,d6,k2,n2,t2]) i0.V (NA _) (ME _) rfl);apply zsb (us:=(dY (dd li) (dd lk) c5 (xs.length:Nat) gv [nI pa.width,u1,b4,k1,n1,t1] [nI pb.width,u2,d6,k2,n2,t2]).toArray) e8 (ME _) n0
   have j':=NR (us:=(dY (dd li) (dd lk) c5 (xs.length:Nat) gv [nI pa.width,u1,b4,k1,n1,t1] [nI pb.width,u2,d6,k2,n2,t2]).toArray) e8;have k6:M8 (λj=>j=2) O14 w22 O14 (w22.setRow cb (dY (dd li) (dd lk) c5 (xs.length:Nat) gv [nI pa.width,u1,b4,k1,n1,t1] [nI pb.width,u2,d6,k2,n2,t2]).toArray):=Lp zd e8.tag rfl;have hU20z:=((h4.mono (S':=λq=>q=2\/q=3) (λ_ h=>.inr h) zd).J (h3.mono (λ_ h=>.inr h) zd)).J (k6.mono (λ_ h=>.inl h) zd);have hPL:PartV k9 [nI pa.width,u1,b4,k1,n1,t1] pa A.2:=⟨u1,b4,k1,n1,t1,rfl,s5,k4,t8,t3,w8⟩
   have hPR:PartV k9 [nI pb.width,u2,d6,k2,n2,t2] pb B.2:=⟨u2,d6,k2,n2,t2,rfl,s4,k3,t7,t0,w7⟩
   have v4:=hPL.U t4 o6.drew hU20z;have v3:=hPR.U e3 (o6.U d5) hU20z;have z2:=(e7.U i7 b5).U (i7.U b5) hU20z;have i4:=j2.size;have l7:=a3.size;refine zh ?_;refine bz rfl rfl rfl j'.V (NA _) (ME _) ⟨((j2.J (b5.mono (λ_ h=>h.elim) zd)).J (hU20z.mono (λ_ h=>zo) zd)).ext,Gc l' z9 z4 x8 x7 z' z5 hA hB p6 hg.cnt x3 x0 m' hl z2 v4 v3 (i6.mono (NN d2.size o'.size)) (λv hv=>(t4 v hv).mono i4) (λv hv=>(e3 v hv).mono (NN i4 l7))⟩
  refine zTH rfl ((by simpa using p7)) ?_;apply zv (MW (cells:=tab0) I5 (Ms _) rfl rfl)
  apply zsa (us:=tab0) a4 (ME _);have j':=NR (us:=tab0) a4;have k6:M8 (λj=>j=2) O14 w15 O14 (w15.setRow cb tab0):=Lp zd a4.tag rfl;refine zh ?_
  refine bz rfl rfl rfl j'.V (NA _) (ME _) ⟨(d2.J (k6.mono (λ_ h=>zo) zd)).ext,.inr ⟨l',.inr ⟨(.inr (z8 p7)),rfl⟩⟩⟩
 apply ax (d:=66) rfl (b':=true) ((by simpa using p8));refine zh ?_
 refine zTH rfl rfl ?_;apply zv (MW (cells:=tab0) I5 (Ms _) rfl rfl)
 apply zsa (us:=tab0) a4 (ME _);have j':=NR (us:=tab0) a4;have k6:M8 (λj=>j=2) O14 w15 O14 (w15.setRow cb tab0):=Lp zd a4.tag rfl;refine zh ?_
 refine bz rfl rfl rfl j'.V (NA _) (ME _) ⟨(d2.J (k6.mono (λ_ h=>zo) zd)).ext,.inr ⟨l',.inr ⟨(.inl (ha0 p8)),rfl⟩⟩⟩
end Go.Proofs.YtcfhbfflgnbacaaGreatDoor
namespace Go.VL
section
variable{P:PB}{N:Nat}{st:St}{w:L3}{t xt yt:MX}{x y:PT}{k:IntKind}{m n:Int}
def JO(hx:ev st x=some (.int k m)):RV P N (.unOp .neg xt x) t st w (.int k (k.wrap (-m))):=
 λa ha a0 p e g=>by simp only[execOp,ha.ev hx];simp[Op.unary,Op.intArith,pure]
def JP(hx:ev st x=some (.int k m))(hy:ev st y=some (.int k n)):RV P N (.binOp .mul xt x y yt) t st w (.int k (k.wrap (m*n))):=
 ie hx hy IR
end
def KS(b j:Nat):nA b j=⟨b,j,none⟩:=by simp only[NF];split<;>simp_all
end Go.VL
namespace Go.Proofs.YtcfhbfflgnbacaaGreatDoor
def Kg(x:Nat)(w:L3)(hx:x<18446744073709551616)(h0:x≠0)(hT:Pz 0 Pa w):NG Mu 120 [.int .u64 (x:Nat)] w λv w'=>v=nI ((MY 64 x:Nat):Int)/\w'=w:=by
 obtain⟨a0,hk⟩:=Pw 64 x h0 hx;obtain⟨hi,a1⟩:=Lib.deBruijn64_at _ hk;have hp:2^MY 64 x<18446744073709551616:=Ng (MI zd hk) zd;generalize MY 64 x=k at *;rw[show(2^64:Nat)=18446744073709551616 from by decide]at a0;generalize 2^k=pk at *;generalize a2:pk*285870213051353865 % 18446744073709551616 / 288230376151711744=idx at *;have a3:w.cell? (nA 0 idx)=some (.int .u8 (k:Int)):=by
  have:=hT idx hi;rw[a1]at this;rw[KS];exact this
 apply Ln func120 ntmps120 rfl rfl;refine zh ?_
 refine zFH rfl ((by rw[beq_eq_false_iff_ne];omega)) ?_;apply zv (JO rfl)
 apply zv (zH (a:=x) (b:=18446744073709551616-x) rfl rfl rfl (by rw[NW];omega) (by show _<=(18446744073709551615:Int);omega) (by show _<=(18446744073709551615:Int);omega));rw[a0];apply zv (JP rfl rfl)
 rw[show Q8.wrap (((pk:Nat):Int)*285870213051353865)=((pk*285870213051353865 % 18446744073709551616:Nat):Int)from by rw[NW];omega];apply zv (jI (a:=pk*285870213051353865 % 18446744073709551616) (b:=58) rfl rfl rfl rfl zd);rw[show pk*285870213051353865 % 18446744073709551616 / 2^58=idx from a2];refine zvH (dI underlying238 (sizeOf5 _) rfl rfl idx rfl hi) ?_;refine zvH (FD underlying5 underlying3 rfl (Fit.i64 zo)) ?_;refine af rfl rfl ⟨rfl,rfl⟩
def tQ(s c:Nat)(w:L3)(hs:s<18446744073709551616)(hc:c<64):NG Mu 81 [.int .u64 (s:Nat),nI (c:Nat)] w λv w'=>v=.bool (s.testBit c)/\w'=w:=by
 have hd:s / 2^c<=s:=Nat.div_le_self _ _;have e:(((s / 2^c &&& 1:Nat):Int)==1)=s.testBit c:=by
  rw[Nat.and_one_is_mod,Nat.testBit_eq_decide_div_mod_eq]
  rcases Nat.mod_two_eq_zero_or_one (s / 2^c)with h|h<;>rw[h]<;>rfl
 apply Ln func81 ntmps81 rfl rfl;refine zh ?_
 apply zv (jI (a:=s) (b:=c) rfl rfl rfl rfl (by show _<=64;omega));refine zvH (zH (a:=s / 2^c) (b:=1) rfl rfl rfl rfl (by show _<=(18446744073709551615:Int);omega) zd) ?_
 refine af rfl rfl ⟨by rw[<-e],rfl⟩
def lE(cs:List ix)(p:Pv)(tl:List Nat)(r c:Nat)(w:L3)(h:PartV w cs p tl)(ok:OkP p)(hr:r<p.usual.length)(a9:c<64):
  NG Mu 42 [.agg cs.toArray,nI (r:Nat),nI (c:Nat)] w λv w'=>v=nI (getM p r c)/\N4 w w':=by
 obtain⟨uv,bv,kv,nv,tv,rfl,a3,a7,a5,a4,a8⟩:=h;obtain⟨o1,o2,o3,o4,o5,o6,o7⟩:=ok;have a6:=o7 r zo;obtain⟨b,a2⟩:=Int.eq_ofNat_of_zero_le a6.1;have hg:getM p r c=if b+c<p.check.length/\nth p.check (b+c)=r then nth p.next (b+c)else nth p.usual r:=by simp only[getM,a2];rfl
 apply Ln func42 ntmps42 rfl rfl;refine zh ?_
 apply aI (aw w) 1 zo rfl rfl;intro db w1 O1 a1 a' b0 a0;have hu:=a3.ext a0;have hb:=a7.ext a0;have hk:=a5.ext a0;have hn:=a4.ext a0;have c1:w1.cell? ((nA db 0).add 1)=some uv:=a1.cell 1 rfl;have c2:w1.cell? ((nA db 0).add 2)=some bv:=a1.cell 2 rfl;have c3:w1.cell? ((nA db 0).add 3)=some kv:=a1.cell 3 rfl;have c4:w1.cell? ((nA db 0).add 4)=some nv:=a1.cell 4 rfl;have k1:w1.cell? (adr bv 1 r)=some (nI (b:Int)):=by have:=hb.cell (i:=r) (j:=0) zo rfl;rw[ar,a2]at this;exact this
 refine zh ?_
 by_cases h1:b+c<p.check.length
 ·apply ax (d:=22) rfl (b':=true) (decide_eq_true zo);have k2:w1.cell? (adr kv 1 (b+c))=some (nI (nth p.check (b+c))):=by have:=hk.cell (i:=b+c) (j:=0) h1 rfl;rwa[ar]at this
  have k3:w1.cell? (adr nv 1 (b+c))=some (nI (nth p.next (b+c))):=by have:=hn.cell (i:=b+c) (j:=0) zo rfl;rwa[ar]at this
  refine zh ?_;refine zC ?_ ?_
  ·intro he;replace he:nth p.check (b+c)=r:=by simpa using he
   rw[ap ⟨h1,he⟩]at hg;refine zh ?_;refine af rfl rfl ⟨by rw[hg],a0⟩
  intro he;replace he:¬nth p.check (b+c)=r:=by simpa using he
  rw[am (λh=>he h.2)]at hg;have k4:w1.cell? (adr uv 1 r)=some (nI (nth p.usual r)):=by have:=hu.cell (i:=r) (j:=0) hr rfl;rwa[ar]at this
  refine zh ?_;refine af rfl rfl ⟨by rw[hg],a0⟩
 rw[am (λh=>h1 h.1)]at hg;have k4:w1.cell? (adr uv 1 r)=some (nI (nth p.usual r)):=by have:=hu.cell (i:=r) (j:=0) hr rfl;rwa[ar]at this
 apply ax (d:=22) rfl (b':=false) (decide_eq_false zo);refine zh ?_
 refine zFH rfl rfl ?_;refine af rfl rfl ⟨by rw[hg],a0⟩
def Jl(l:List Int):Int:=l.foldl max (nth l 0)
def Gl(l:List Int)(sv:ix)(w:L3)(h:Nq w sv l)(a1:0<l.length):NG Mu 68 [sv] w λv w'=>v=nI (Jl l)/\w'=w:=by
 have hl:=h.len_le;have m0:w.cell? (adr sv 1 0)=some (nI (nth l 0)):=by have:=h.cell (j:=0) a1 rfl;rwa[ar]at this
 have e1:nth l 0=(l.take 1).foldl max (nth l 0):=by
  rw[aG a1];simp
 have a2:Jl l=(l.take l.length).foldl max (nth l 0):=by rw[Mt];rfl
 rw[a2];obtain⟨z0,a3⟩:∃z,z=nth l 0:=⟨_,rfl⟩
 rw[<-a3]at m0 e1 ⊢;apply Ln func68 ntmps68 rfl rfl;refine zh ?_;refine zFH rfl ((decide_eq_false zo)) ?_;apply zlp (λz:Nat×Int=>[(0,sv),(3,nI z.2),(4,nI z.1)]) (λz=>w) (λz=>1<=z.1/\z.1<=l.length/\z.2=(l.take z.1).foldl max z0) (λz=>l.length-z.1) (1,z0) ⟨M7 _,a1,e1⟩;rintro⟨q,m⟩ ⟨a4,hq,hm⟩;dsimp only at a4 hq hm ⊢;refine zh ?_;refine zC ?_ ?_
 ·intro a0;replace a0:q<l.length:=dT a0;have m1:w.cell? (adr sv 1 q)=some (nI (nth l q)):=by have:=h.cell (j:=0) a0 rfl;rwa[ar]at this
  refine zh ?_;refine zvH (fY rfl rfl) ?_
  refine zxd (q+1,max m (nth l q)) ⟨by dsimp only;omega,a0,by dsimp only;rw[aG a0,P4,<-hm];rfl⟩
 intro a5;obtain rfl:q=l.length:=dF a5;refine zh ?_;refine af rfl rfl ⟨by rw[hm],rfl⟩
def qP{F:FuncId}(hF:∀(args:Array ix) (w:L3),(callFunc F args).run Mu w=.ok (.enter F args) w)(cs:Array ix)(l:List Nat)(sv:ix)(q:Nat->Bool)(w:L3)(h:Sl fq 1 w sv l) 
  (hq:∀i,i<l.length->∀w',N4 w w'->NG Mu F ([(λn:Nat=>PH .u64 (n:Int)) (nth l i)]++cs.toList) w' λv w''=>v=.bool (q i)/\N4 w' w'') :
  NG Mu 108 [sv,.func (.func F) #[] cs] w λv w'=>v=nI (ey q l.length)/\N4 w w':=by
 have hl:=h.len_le;apply Ln func108 ntmps108 rfl rfl;refine zh ?_;apply zlp (λx:Nat×L3=>[(0,sv),(1,.func (.func F) #[] cs),(7,nI l.length),(8,nI x.1)]) (λx=>x.2) (λx=>x.1<=l.length/\N4 w x.2/\∀i,i<x.1->q i=false) (λx=>l.length-x.1) (0,w) ⟨Li _,Ll _,λi hi=>absurd hi (M6 i)⟩;rintro⟨k,w1⟩ ⟨hk,hE,a1⟩;dsimp only at hk hE a1 ⊢;have h1:=h.ext hE;refine zh ?_;refine zC ?_ ?_
 ·intro a0;replace a0:k<l.length:=dT a0;refine zh ?_;apply zv (RV.ld (by have:=h1.cell (i:=k) (j:=0) a0 rfl;rwa[ar]at this) rfl);apply eo rfl hF rfl (hq k a0 w1 hE) rfl;rintro v w2 ⟨rfl,a3⟩;refine zh ?_;refine zC ?_ ?_
  ·intro hy;refine zh ?_;refine af rfl rfl ⟨by rw[cX a0 hy a1],hE.J a3⟩
  intro hy;refine zh ?_;refine zxd (k+1,w2) ⟨a0,hE.J a3,λi hi=>(NI.1 hi).elim (a1 i) (λe=>by rw[e];exact hy)⟩
 intro a2;replace a2:l.length<=k:=dF a2;refine zh ?_;refine af rfl rfl ⟨by rw[cU λi hi=>a1 i zo],hE⟩
def nN{F:FuncId}(hF:∀(args:Array ix) (w:L3),(callFunc F args).run Mu w=.ok (.enter F args) w)(cs:Array ix)(l:List Nat)(sv:ix)(q:Nat->Bool)(w:L3)(h:Sl fq 1 w sv l) 
  (hq:∀i,i<l.length->∀w',N4 w w'->NG Mu F ([(λn:Nat=>PH .u64 (n:Int)) (nth l i)]++cs.toList) w' λv w''=>v=.bool (q i)/\N4 w' w'') :
  NG Mu 64 [sv,.func (.func F) #[] cs] w λv w'=>v=.bool (jZ q l.length)/\N4 w w':=by
 apply Ln func64 ntmps64 rfl rfl;refine zh ?_
 apply zc call108 (qP hF cs l sv q w h hq);rintro v w1 ⟨rfl,hE⟩;refine zh ?_
 refine af rfl rfl ⟨by rw[firstN_any],hE⟩
def DP(b rules:Nat)(a:NO)(w:L3)(hr:rules<=64)(hc:w.cell? a=some (nI (rules:Nat))):NG Mu 65 [.int .u64 (b:Nat),.pointer (some a)] w λv w'=>v=.bool (!(b / 2^rules==0))/\w'=w:=by
 have e:((((b / 2^rules:Nat):Int)) != 0) = !(b / 2^rules==0):=by
  generalize b / 2^rules=q
  by_cases h:q=0
  ·subst h;rfl
  rw[beq_eq_false_iff_ne.2 h];simpa using h
 apply Ln func65 ntmps65 rfl rfl;refine zh ?_
 refine zvH (jI (a:=b) (b:=rules) rfl rfl rfl rfl (by show _<=64;omega)) ?_;refine af rfl rfl ⟨by rw[<-e],rfl⟩
def DO(row:List Int)(rv lv:ix)(n:Nat)(a:NO)(w:L3)(h:Nq w rv row)(a1:0<row.length)(a0:Shape lv n)(hc:w.cell? a=some lv):NG Mu 67 [rv,.pointer (some a)] w λv w'=>v=.bool (decide ((n:Int)<=Jl row))/\N4 w w':=by
 apply Ln func67 ntmps67 rfl rfl;refine zh ?_
 apply Nu zk zk;refine zh ?_
 apply WS.call call68 rfl (Gl row rv _ h.drew a1) rfl;refine zh ?_
 refine zwH (aM a0 LU rfl) ?_;apply NP
 refine zh ?_;refine af rfl rfl ⟨rfl,(Ll w).drew⟩
def mC(p:Pv)(tl:List Nat)(many rules:Nat):Bool:=
 dK p&&(p.width==(many:Int)) && !((im p).length==0)&&(tl.length==(im p).length) && !(jZ (λi=>!(nth tl i / 2^rules==0)) tl.length) && !(jZ (λi=>decide (((im p).length:Int)<=Jl (nth (im p) i))) (im p).length)
def si(p:Pv):(im p).length=p.usual.length/\∀i,i<p.usual.length->(nth (im p) i).length=p.width.toNat:=by
 refine⟨by simp[im],λi hi=>?_⟩;unfold im;rw[iy _ _ _ hi];simp[FN]
def xe(cs:List ix)(p:Pv)(tl:List Nat)(many rules:Nat)(w:L3)(h:PartV w cs p tl)(hr:rules<=64):
  NG Mu 32 [.agg cs.toArray,nI (many:Nat),nI (rules:Nat)] w λv w'=>v=.bool (mC p tl many rules)/\N4 w w':=by
 obtain⟨uv,bv,kv,nv,tv,rfl,d2,d8,d7,d6,c9⟩:=h;obtain⟨a4,d3⟩:=si p;have c8:=c9.len_le;apply Ln func32 ntmps32 rfl rfl;refine zh ?_;apply aI (aw w) 1 zo rfl rfl;intro db w1 O1 c6 e0 e4 f5;apply aI e4 2 zo rfl rfl;intro yb w2 O2 b6 d1 e3 f4;have a8:=c6.U d1 zd zd;have a9:=(e0.mono (S':=λq=>1<=q) (λ_ h=>zo) zd).J (d1.mono (λ_ h=>zo) zd);have a3:=a9.ext
 have e7:∀(j:Nat) (u:ix),[nI p.width,uv,bv,kv,nv][j]? = some u->w2.cell? ((nA db 0).add j)=some u:=λj u hu=>a8.V j u (by
  match j,hu with
  |0,hu=>exact hu
  |1,hu=>exact hu
  |2,hu=>exact hu
  |3,hu=>exact hu
  |4,hu=>exact hu)
 refine zh ?_;apply zv (ah (us:=[nI p.width,uv,bv,kv,nv]) e7 (isAgg30 _) (PL _) rfl)
 apply zc call63 (vk p _ w2 ⟨uv,bv,kv,nv,rfl,d2.ext a3,d8.ext a3,d7.ext a3,d6.ext a3⟩);rintro _ w3 ⟨rv,rfl,a6,e6⟩;have b3:M8 (λ_=>False) O2 w2 O2 w3:=aa (λh=>h) O2 e6;have e':=e3.U b3;have b5:=b6.U b3 zd (λh=>h);have c5:=a8.U b3 zd (λh=>h);have c7:=a9.J (b3.mono (λ_ h=>h.elim) zd);have ro:rv.oneCell'=true:=by
  split at a6
  ·obtain⟨b0,h1,_⟩:=a6;exact h1.one
  rw[a6];rfl
 refine zh ?_;apply au (aw w3) 3 zo (zeroValue50 _) rfl
 intro lb w4 O4 a5 d' e9 f3;apply aj (j:=0) a5 rfl (PK _) ro rfl rfl rfl;have d9:M8 (λj=>j=3) O4 w4 O4 (w4.setCell ⟨lb,0,none⟩ rv):=N8 zd a5.tag rfl;have b9:Ns O4 (w4.setCell ⟨lb,0,none⟩ rv) 3 lb #[rv] 50:=a5.set 0 _;have a2:N4 w3 (w4.setCell ⟨lb,0,none⟩ rv):=(d'.J d9).ext;generalize w4.setCell ⟨lb,0,none⟩ rv=w5 at *;have a0:N4 w w5:=c7.ext.J a2;have a7:=c5.ext a2;have b4:=b5.ext a2;have d0:w5.cell? (((nA db 0)).add 0)=some (nI p.width):=a7.cell 0 rfl;have d5:w5.cell? (nA db 5)=some tv:=a7.cell 5 rfl;have l0:w5.cell? ⟨lb,0,none⟩=some rv:=b9.cell 0 rfl;have y0:w5.cell? ⟨yb,0,none⟩=some (nI (rules:Nat)):=b4.cell 0 rfl;have b7:=c9.ext a0;refine zh ?_
 cases b2:dK p with
 |false=>
  apply ax (d:=17) rfl (b':=true) rfl;refine zh ?_
  refine zTH rfl rfl ?_;refine af rfl rfl ⟨by unfold mC;rw[b2];rfl,a0⟩
 |true=>
  rw[b2,ap rfl]at a6;obtain⟨b0,c',a1,d4⟩:=a6.ext a2;have ok:=okP p b2;have e8:=ok.w1;apply ax (d:=17) rfl (b':=false) rfl;refine zh ?_
  by_cases h1:p.width=(many:Int)
  ·apply ax (d:=24) rfl (b':=false) ((by rw[h1];simp));refine zh ?_
   by_cases h2:p.usual.length=0
   ·apply ax (d:=29) rfl (b':=true) ((by rw[a1,a4,h2];rfl));refine zh ?_
    refine zTH rfl rfl ?_;refine af rfl rfl ⟨by unfold mC;rw[a4,h2];simp,a0⟩
   apply ax (d:=29) rfl (b':=false) ((by rw[a1,a4,beq_eq_false_iff_ne];omega));refine zh ?_
   by_cases h3:tl.length=p.usual.length
   ·refine zFH rfl ((by rw[a1,a4,h3];simp)) ?_;apply zv (eZ rfl rfl)
    apply zc call64 (nN call65 #[nP yb] tl tv (λi=>!(nth tl i / 2^rules==0)) w5 b7 (λi hi w' b1=>(DP (nth tl i) rules _ w' hr (b1.cell y0)).mono λv w'' ⟨e1,e2⟩=>⟨e1,e2▸Ll _⟩));rintro _ w6 ⟨rfl,a'⟩;refine zh ?_
    cases h4:jZ (λi=>!(nth tl i / 2^rules==0)) tl.length with
    |true=>
     refine zTH rfl rfl ?_;refine af rfl rfl ⟨by unfold mC;rw[h4];simp,a0.J a'⟩
    |false=>
     have b8:=c'.ext a';have l6:w6.cell? ⟨lb,0,none⟩=some rv:=a'.cell l0;refine zFH rfl rfl ?_;apply zv (eZ rfl rfl);apply zc call66 (gY call67 #[nP lb] b0 rv (λi=>decide (((im p).length:Int)<=Jl (nth (im p) i))) w6 b8 (λi hi w' b1=>by have:=DO (nth (im p) i) (nth b0 i) rv b0.length ⟨lb,0,none⟩ w' (((d4 i zo).ext a').ext b1) (by rw[d3 i zo];omega) c'.sh (b1.cell l6);rw[a1]at this;exact this));rintro _ w7 ⟨rfl,e5⟩;refine zh ?_;refine af rfl rfl ⟨by unfold mC;rw[b2,h1,h4,a4,h3,a1,a4,beq_eq_false_iff_ne.2 h2];simp,(a0.J a').J e5⟩
   refine zTH rfl ((by rw[a1,a4];simp;omega)) ?_;refine af rfl rfl ⟨by unfold mC;rw[a4,beq_eq_false_iff_ne.2 h3];simp,a0⟩
  apply ax (d:=24) rfl (b':=true) ((by simpa using h1));refine zh ?_
  refine zTH rfl rfl ?_;refine af rfl rfl ⟨by unfold mC;rw[beq_eq_false_iff_ne.2 h1];simp,a0⟩
end Go.Proofs.YtcfhbfflgnbacaaGreatDoor
namespace Go.VL
def add_add(b i j:Nat):(nA b i).add j=⟨b,i+j,none⟩:=by simp only[NF];split<;>split<;>simp_all
end Go.VL
namespace Go.Proofs.YtcfhbfflgnbacaaGreatDoor
structure TabB(w:L3)(b:Nat)(t:TabM)(gv:ix)(lc rc:List ix):Prop where
 cells:∀j u,(dY t.ig t.kp t.br t.rules gv lc rc)[j]? = some u->w.cell? ⟨b,j,none⟩=some u
 groups:Nq w gv t.groups
 left:PartV w lc t.left t.lt
 right:PartV w rc t.right t.rt
section
variable{w:L3}{b:Nat}{t:TabM}{gv:ix}{lc rc:List ix}
def TabB.ext{w':L3}(h:TabB w b t gv lc rc)(e:N4 w w'):TabB w' b t gv lc rc:=⟨λj u hu=>e.cell (h.cells j u hu),h.groups.ext e,h.left.ext e,h.right.ext e⟩
def TabB.c0(h:TabB w b t gv lc rc):w.cell? (nA b 0)=some (.int .u64 (t.ig:Int)):=h.cells 0 _ rfl
def TabB.c1(h:TabB w b t gv lc rc):w.cell? (nA b 1)=some (.int .u64 (t.kp:Int)):=h.cells 1 _ rfl
def TabB.c2(h:TabB w b t gv lc rc):w.cell? (nA b 2)=some (.int .u64 (t.br:Int)):=h.cells 2 _ rfl
def TabB.c3(h:TabB w b t gv lc rc):w.cell? (nA b 3)=some (nI t.rules):=h.cells 3 _ rfl
def TabB.c4(h:TabB w b t gv lc rc):w.cell? (nA b 4)=some gv:=h.cells 4 _ rfl
def TabB.cl(h:TabB w b t gv lc rc):∀(j:Nat) (u:ix),lc[j]? = some u->w.cell? ((nA b 5).add j)=some u:=λj u hu=>by
 rw[add_add];apply h.cells (5+j) u;have hj:=(MQ.1 hu).1;rw[show dY t.ig t.kp t.br t.rules gv lc rc=[.int .u64 (t.ig:Int),.int .u64 (t.kp:Int),.int .u64 (t.br:Int),nI t.rules,gv]++(lc++rc)from M4 _ _ _];rw[M1 (by simp),show 5+j-_=j from by simp,MR hj];exact hu
def TabB.cr(h:TabB w b t gv lc rc):∀(j:Nat) (u:ix),rc[j]? = some u->w.cell? ((nA b 11).add j)=some u:=λj u hu=>by
 rw[add_add];apply h.cells (11+j) u;have hl:=h.left.one.1;rw[M1 (by simp[hl]),show 11+j-_=j from by simp[hl]];exact hu
end
def TabB.of{t:TabM}(hb:Ns O w i b (dY t.ig t.kp t.br t.rules gv lc rc).toArray E)(h1:Nq w gv t.groups)(h2:PartV w lc t.left t.lt)(h3:PartV w rc t.right t.rt):TabB w b t gv lc rc:=
 ⟨λj u hu=>hb.cell j (by simpa using hu),h1,h2,h3⟩
def lQ(t:TabM):Bool:=
 !(decide (t.rules<0)||decide (40<t.rules)||(fZ t.groups==0)) && !(!(t.ig / 2^36==0) || !(t.kp / 2^36==0) || !(t.br / 2^t.rules.toNat==0))&&mC t.left t.lt (fZ t.groups) t.rules.toNat&&mC t.right t.rt (fZ t.groups) t.rules.toNat
def ne0(q:Nat):(((q:Nat):Int) != 0) = !(q==0):=by
 by_cases h:q=0
 ·subst h;rfl
 rw[beq_eq_false_iff_ne.2 h];simpa using h
def gd(t:TabM)(v:ix)(w:L3)(h:TabV w v t):NG Mu 9 [v] w λu w'=>u=.bool (lQ t)/\N4 w w':=by
 obtain⟨gv,lc,rc,rfl,b0,a8,a7⟩:=h;obtain⟨ll,lo⟩:=a8.one;obtain⟨rl,ro⟩:=a7.one;apply Ln func9 ntmps9 rfl rfl;refine zh ?_;apply aI (aw w) 1 zo rfl rfl;intro db w1 O1 a3 b3 b4 a1;have hT:=TabB.of (t:=t) a3 (b0.ext a1) (a8.ext a1) (a7.ext a1);have c0:=hT.c0;have c1:=hT.c1;have c2:=hT.c2;have c3:=hT.c3;have c4:=hT.c4;have cl:=hT.cl;have cr:=hT.cr;refine zh ?_;apply zc Q5 (jL t.groups gv w1 hT.groups);rintro _ w2 ⟨rfl,a6⟩;rw[a6];clear a6 w2;obtain⟨many,a2⟩:∃many,many=fZ t.groups:=⟨_,rfl⟩
 have a9:lQ t=(!(decide (t.rules<0)||decide (40<t.rules)||(many==0)) && !(!(t.ig / 2^36==0) || !(t.kp / 2^36==0) || !(t.br / 2^t.rules.toNat==0))&&mC t.left t.lt many t.rules.toNat&&mC t.right t.rt many t.rules.toNat):=by rw[a2];rfl
 rw[a9,<-a2];refine zh ?_
 by_cases h1:t.rules<0
 ·apply ax (d:=11) rfl (b':=true) ((decide_eq_true h1));refine zh ?_
  refine zTH rfl rfl ?_;refine af rfl rfl ⟨by rw[decide_eq_true h1];simp,a1⟩
 apply ax (d:=11) rfl (b':=false) ((decide_eq_false h1));refine zh ?_
 by_cases h2:40<t.rules
 ·apply ax (d:=16) rfl (b':=true) ((decide_eq_true h2));refine zh ?_
  refine zTH rfl rfl ?_;refine af rfl rfl ⟨by rw[decide_eq_true h2];simp,a1⟩
 obtain⟨rules,a0⟩:∃rules:Nat,t.rules=(rules:Int):=⟨t.rules.toNat,zo⟩
 have a':t.rules.toNat=rules:=zo;apply ax (d:=16) rfl (b':=false) ((decide_eq_false h2));refine zh ?_
 by_cases h3:many=0
 ·refine zTH rfl ((by rw[h3];rfl)) ?_;refine af rfl rfl ⟨by rw[h3];simp,a1⟩
 refine zFH rfl ((by rw[beq_eq_false_iff_ne];omega)) ?_;refine zvH (jI (a:=t.ig) (b:=36) rfl rfl rfl rfl zd) ?_
 by_cases h4:t.ig / 2^36=0
 ·apply ax (d:=25) rfl (b':=false) ((by rw[ne0,h4];rfl));refine zh ?_
  refine zvH (jI (a:=t.kp) (b:=36) rfl rfl rfl rfl zd) ?_
  by_cases h5:t.kp / 2^36=0
  ·apply ax (d:=31) rfl (b':=false) ((by rw[ne0,h5];rfl));refine zh ?_
   refine zvH (jI (a:=t.br) (b:=rules) rfl rfl rfl a0 (by show _<=64;omega)) ?_
   by_cases h6:t.br / 2^rules=0
   ·have b2:nI t.rules=nI (rules:Int):=by rw[a0]
    refine zFH rfl ((by rw[ne0,h6];rfl)) ?_;refine zvH (ah (us:=lc) cl (NB _) (by rw[ll];exact MM _) rfl) ?_
    rw[a0];apply zc call32 (xe lc t.left t.lt many rules w1 hT.left zo);rintro _ w2 ⟨rfl,a5⟩;have a4:=hT.ext a5;have d3:=a4.c3;have d4:=a4.cr;rw[a0]at d3;refine zh ?_
    cases h7:mC t.left t.lt many rules with
    |false=>
     apply ax (d:=45) rfl (b':=false) rfl;refine zh ?_
     refine af rfl rfl ⟨by rw[Nr,h7];simp,a1.J a5⟩
    |true=>
     apply ax (d:=45) rfl (b':=true) rfl;refine zh ?_
     refine zvH (ah (us:=rc) d4 (NB _) (by rw[rl];exact MM _) rfl) ?_;apply zc call32 (xe rc t.right t.rt many rules w2 a4.right zo)
     rintro _ w3 ⟨rfl,b1⟩;refine zh ?_;refine af rfl rfl ⟨?_,(a1.J a5).J b1⟩;rw[Nr,h7,h4,h5,h6,decide_eq_false zo,decide_eq_false zo,beq_eq_false_iff_ne.2 h3];simp
   refine zTH rfl ((by rw[ne0,beq_eq_false_iff_ne.2 h6];rfl)) ?_;refine af rfl rfl ⟨by rw[a',beq_eq_false_iff_ne.2 h6];simp,a1⟩
  apply ax (d:=31) rfl (b':=true) ((by rw[ne0,beq_eq_false_iff_ne.2 h5];rfl));refine zh ?_
  refine zTH rfl rfl ?_;refine af rfl rfl ⟨by rw[beq_eq_false_iff_ne.2 h5];simp,a1⟩
 apply ax (d:=25) rfl (b':=true) ((by rw[ne0,beq_eq_false_iff_ne.2 h4];rfl));refine zh ?_
 refine zTH rfl rfl ?_;refine af rfl rfl ⟨by rw[beq_eq_false_iff_ne.2 h4];simp,a1⟩
end Go.Proofs.YtcfhbfflgnbacaaGreatDoor
namespace Go.VL
def lH(g:Nat):∀(vs:List ix) (o:Nat) (w:L3),(w.setCells g o vs).os=w.os/\(w.setCells g o vs).tape=w.tape/\(w.setCells g o vs).output=w.output/\(w.setCells g o vs).heap.size=w.heap.size
 |[],_,_=>⟨rfl,rfl,rfl,rfl⟩
 |v::r,o,w=>by
  have h:=lH g r (o+1) (w.setCell ⟨g,o,none⟩ v);refine⟨h.1.J rfl,h.2.1.J rfl,h.2.2.1.J rfl,h.2.2.2.J ?_⟩;simp[Pm]
def kB{g:Nat}{E:MX}:∀(vs:List ix) (o:Nat) (w:L3) (a1:Array ix),w.heap[g]? = some (.cells a1 E (0,0))->∃a0,(w.setCells g o vs).heap[g]? = some (.cells a0 E (0,0))/\a0.size=a1.size
 |[],_,_,a1,h=>⟨a1,h,rfl⟩
 |v::r,o,w,a1,h=>by
  have h2:(w.setCell ⟨g,o,none⟩ v).heap[g]? = some (.cells (a1.setIfInBounds o v) E (0,0)):=by
   simp only[Pm,Array.getElem?_modify,ap];rw[h];simp
  obtain⟨a0,h3,h4⟩:=kB r (o+1) _ _ h2;exact⟨a0,h3,by rw[h4];simp⟩
inductive WinO{α:Type}(enc:α->List ix)(E:MX)(sz:Nat)(O:Nat->Nat)(w:L3)(i:Nat):ix->List α->Prop
 |none (a:Option NO):WinO enc E sz O w i (.slice a 0 0) []
 |some {g off cap:Nat} {cur:Array ix} {l:List α} (tag:O g=i) (blk:w.heap[g]? = some (.cells cur E (0,0))) (fit:off+cap*sz<=cur.size) (len:l.length<=cap) (mx:cap<=maxLen)
  (cells:∀j u,(l.flatMap enc)[j]? = some u->w.cell? ⟨g,off+j,MP⟩=some u) (hz:∀x∈l,(enc x).length=sz):WinO enc E sz O w i (.slice (No ⟨g,off,MP⟩) l.length cap) l
section
variable{α:Type}{enc:α→List ix}{E:MX}{sz:Nat}{O:Nat→Nat}{w:L3}{i:Nat}{v:ix}{l:List α}
def WinO.nil(enc:α->List ix)(E:MX)(sz:Nat)(O:Nat->Nat)(w:L3)(i:Nat):WinO enc E sz O w i (.slice .none 0 0) []:=.none .none
def sJ(h:Nf enc E sz O w i v l):WinO enc E sz O w i v l:=by
 obtain⟨⟨⟨hl,hr⟩,ht⟩,hz⟩:=h
 rcases hr with⟨rfl,h0⟩|⟨g,a5,a0,rfl,_,hg,a2,a3,a4,a1⟩
 ·obtain rfl:l=[]:=Lm h0;exact .none .none
 refine .some (ht g rfl) hg zo a2 a3 (λj u hu=>?_) hz;rw[Np,cell_of_row w g j a0 E (0,0) hg];rw[<-a1]at hu;have:=List.getElem?_take (l:=a0.toList) (i:=l.length*sz) (j:=j)
 rw[this]at hu
 split at hu
 ·simpa using hu
 cases hu
def WinO.U(h:WinO enc E sz O w i v l)(u:M8 S O w O' w')(hi:i≠0)(hS:¬S i):WinO enc E sz O' w' i v l:=by
 cases h with
 |none a=>exact .none a
 | @some g off cap cur l tag blk fit len mx cells hz=>
  have hb:=u.blk g (bH blk) (by rw[tag];exact hS);exact .some (by rw[u.tag g (by rw[tag];exact hi),tag]) (by rw[hb];exact blk) fit len mx (λj x hx=>jz hb (cells j x hx)) hz
def WinO.sl(h:WinO enc E sz O w i v l):Sl enc sz w v l:=by
 cases h with
 |none a=>exact⟨⟨a,0,rfl,M7 _,zo,λh=>absurd rfl h⟩,λi hi=>absurd hi (by simp)⟩
 | @some g off cap cur l tag blk fit len mx cells hz=>
  refine⟨⟨_,cap,rfl,len,by simpa[maxLen]using mx,λ_=>⟨g,off,rfl⟩⟩,λi hi j u hu=>?_⟩;have:=cells _ u (fT l hz i hi j u hu);rw[show((adr (.slice (No ⟨g,off,MP⟩) l.length cap) sz i).add j)=⟨g,off+(i*sz+j),MP⟩from by simp only[adr,NF];split<;>simp_all[]];exact this
def WinO.one(h:WinO enc E sz O w i v l):v.oneCell'=true:=h.sl.one
def WinO.tail{x:α}{r:List α}(hp:0<sz)(h:WinO enc E sz O w i v (x::r)):WinO enc E sz O w i (eO v sz 1 (r.length+1)) r:=by
 generalize hl:x::r=l at h
 cases h with
 |none a=>cases hl
 | @some g off cap cur l tag blk fit len mx cells hz=>
  subst hl;simp only[LL]at len
  by_cases hc:cap=1
  ·have hr:r=[]:=Lm zo;subst hr;subst hc;exact .none _
  have hx:=hz x (by simp);obtain⟨a0,rfl⟩:∃c,cap=c+1:=⟨cap-1,zo⟩
  have e:eO (.slice (No ⟨g,off,MP⟩) (x::r).length (a0+1)) sz 1 (r.length+1)=.slice (No ⟨g,off+sz,MP⟩) r.length a0:=by
   simp only[eO];rw[am zo];simp only[Option.map_some,NF,NV,P3];rw[am zo]
  rw[e];refine .some tag blk (by rw[PI]at fit;omega) zo zo (λj u hu=>?_) (λy hy=>hz y (by simp[hy]))
  have:=cells (sz+j) u (by
   rw[Nl,M1 zo,hx,MD]
   exact hu)
  rw[NJ];exact this
end
def qK{P:PB}{ty:MX}{sz bytes:Nat}(he:Elem P T E sz bytes)(r:Nn B O w){l:List α}(hw:WinO enc E sz O w i v l) 
  (x:α) (a:NO) (c:Nat) (hx:∀j u,(enc x)[j]? = some u->w.cell? (a.add j)=some u) (a':(enc x).length=sz) (h1:∀u∈enc x,u.oneCell'=true) (a3:(l.length+1)*bytes<=140737488355328) (b6:l.length+1<=9223372036854775807) (b':i≠0) :
  ∃v' w' O',(Q9 #[T,T] ty #[v,.slice (some a) 1 c]).run P w=.ok v' w'/\WinO enc E sz O' w' i v' (l++[x])/\M8 (λk=>k=i) O w O' w':=by
 obtain⟨a1,z,hi,hz,c8,d7,b7⟩:=he.parts;have ht:=he.ht;have hp:=he.pos;subst c8;subst d7;have b8:¬(0=i):=λh=>b' h.symm
 have fresh:∀ {v':ix} {w':L3} {a7:List ix} {n:Nat} {ls:List α},w'.ownsRow w.heap.size E a1.size v' n a7->n≠0->w.grownBy w' none->n=ls.length->a7=ls.flatMap enc->(∀y∈ls,(enc y).length=a1.size)->∃O',WinO enc E a1.size O' w' i v' ls/\M8 (λk=>k=i) O w O' w':=by
  intro v' w' a7 n ls a4 hn a5 b3 ho c9
  rcases a4.2 with⟨_,h0⟩|⟨g,a9,a8,rfl,hbg,hg,d9,d4,d3,c7⟩
  ·omega
  refine⟨og O g i,sJ ⟨⟨⟨by rw[<-ho];rw[a4.1,b3],.inr ⟨g,a9,a8,by rw[b3],Li _,hg,zo,d4,d3,by rw[<-b3,c7,ho]⟩⟩,λg' c5=>?_⟩,c9⟩,?_⟩
  ·simp only[Value.ownBlock,PO]at c5;subst c5;exact fJ _ _ _
  have d0:=bH hg;refine⟨a5.os,a5.tape,a5.output,a5.size,λb hb _=>a5.block b hb (by simp),λb hb=>?_,λb hb=>?_,b8⟩
  ·unfold og;rw[am];have:=(r.rng b hb).2;omega
  unfold og at hb
  split at hb
  ·rename_i e;subst e;exact .inr ⟨hbg,d0⟩
  exact .inl hb
 have b5:∀(g off j:Nat),(⟨g,off,none⟩:NO).add j=⟨g,off+j,none⟩:=λg off j=>by simp only[NF];split<;>simp_all
 cases hw with
 |none a0=>
  cases a0 with
  |none=>
   obtain⟨v',w',O',a2,b2,b1⟩:=gx (P:=P) (ty:=ty) he r (RowO.nil O w i E a1.size) a 1 c (enc x) zo hx h1 (by simpa using a3) (by simp) b';refine⟨v',w',O',a2,sJ ⟨by simpa using b2,λy hy=>?_⟩,b1⟩;have c6:y=x:=by simpa using hy
   rw[c6];exact a'
  |some b0=>
   obtain⟨v',w',a2,a4,a5⟩:=run_append_arg_grows (P:=P) w T ty E a1 z a1.size a1.bytes ht hi hz rfl rfl b7 hp b0 0 0 [] (by simp) (λj u hu=>by simp at hu) a 1 c (enc x) zo hx zo (by simp[maxLen]) (by simpa using a3);obtain⟨O',h2,h3⟩:=fresh (ls:=[x]) a4 zo a5 (by simp) (by simp) (λy hy=>by rw[ln.1 hy];exact a');exact⟨v',w',O',a2,h2,h3⟩
 | @some g off a9 a8 l tag blk fit len mx cells hzl=>
  have b4:=oU l hzl
  by_cases a6:l.length+1<=a9
  ·have d2:off+l.length*a1.size+a1.size<=a8.size:=by
    have:=Nat.mul_le_mul_right a1.size a6;rw[PI,NV]at this;omega
   have b9:∀j,j<(enc x).length->(w.cell? ⟨g,off+l.length*a1.size+j,none⟩).isSome=true:=λj hj=>by
    rw[cell_of_row w g _ a8 E (0,0) blk,Array.getElem?_eq_getElem (show off+l.length*a1.size+j<a8.size by omega)];rfl
   have d1:∀j,j<(enc x).length->w.frozen? ⟨g,off+l.length*a1.size+j,none⟩=false:=λj hj=>by simp[World.frozen?,blk]
   have a2:=run_append_room_cells (P:=P) w T ty E a1 ht hi g off l.length a9 a 1 c (enc x) zo hx h1 a6 b9 d1;obtain⟨d8,d6,d5⟩:=kB (enc x) (off+l.length*a1.size) w a8 blk;obtain⟨s1,s2,s3,s4⟩:=lH g (enc x) (off+l.length*a1.size) w;have c':(l++[x]).length=l.length+1:=by simp
   refine⟨_,_,O,a2,?_,⟨s1,s2,s3,zo,λb hb hn=>World.heap_setCells_other w g _ _ hb (λe=>hn (by rw[e];exact tag)),λ_ _=>rfl,λ_ h=>.inl h,b8⟩⟩;rw[<-c'];refine .some tag d6 (by rw[d5];exact fit) zo mx (λj u hu=>?_) (λy hy=>?_)
   ·rw[List.flatMap_append,Nl,P5,Lr]at hu
    by_cases hj:j<(l.flatMap enc).length
    ·rw[MR hj]at hu;rw[World.cell?_setCells_out g _ _ w _ (λ_ _=>.inl (by show off+j<_;omega))];exact cells j u hu
    rw[M1 zo]at hu;have hk:=(MQ.1 hu).1;have:=World.cell?_setCells_in g (enc x) (off+l.length*a1.size) w b9 (j-(l.flatMap enc).length) hk;rw[show off+l.length*a1.size+(j-(l.flatMap enc).length)=off+j from by omega]at this;rw[this];exact(List.getElem?_eq_getElem hk).symm.J hu
   rcases Mp.1 hy with hy|hy
   ·exact hzl y hy
   rw[ln.1 hy];exact a'
  obtain⟨v',w',a2,a4,a5⟩:=run_append_arg_grows (P:=P) w T ty E a1 z a1.size a1.bytes ht hi hz rfl rfl b7 hp ⟨g,off,none⟩ l.length a9 (l.flatMap enc) b4 (λj u hu=>by rw[b5];exact cells j u hu) a 1 c (enc x) zo hx zo (by simpa[maxLen]using b6) a3
  obtain⟨O',h2,h3⟩:=fresh (ls:=l++[x]) a4 zo a5 (by simp) (by simp) (λy hy=>by
   rcases Mp.1 hy with hy|hy
   ·exact hzl y hy
   rw[ln.1 hy];exact a')
  exact⟨v',w',O',a2,h2,h3⟩
section
variable{P:PB}{N:Nat}{ops:Array Oper}{Q:Exit→Act→L3→Prop}{rest:List Oper}{st:St}{w:L3}{t:MX}{p:String}{e:Array Edge}{d:Nat}{x y:PT}
def xH{sz a0:Nat}(he:Elem P T E sz a0){sv:ix}{l:List α}{u:α}(hr:WinO enc E sz O w i v l)(r:Nn B O w)(hs:Sl enc sz w sv [u]) 
  (hx:ev st x=some v) (hy:ev st y=some sv) (a4:(enc u).length=sz) (a6:∀c∈enc u,c.oneCell'=true)
  (hb:(l.length+1)*a0<=140737488355328) (a9:l.length+1<=9223372036854775807) (a7:i≠0) (hd:Nat.blt d N=true)
  (h:∀v' w' O',WinO enc E sz O' w' i v' (l++[u])->M8 (λk=>k=i) O w O' w'->Nn B O' w'->WL P N ops Q rest ((d,v')::st) w') :
  WL P N ops Q (⟨some d,.call ⟨.builtin .append,#[x,y],#[T,T]⟩,t,p,e,none⟩::rest) st w:=by
 obtain⟨a,c,rfl,_,_,a8⟩:=hs.shape;obtain⟨b,o,rfl⟩:=a8 (by simp);have a5:=DN hs (λq hq=>by rw[ln.1 hq];exact a4) he.pos rfl;simp only[Nl,P5,Lr]at a5;obtain⟨v',w',O',a2,a3,a1⟩:=qK (P:=P) (ty:=t) he r hr u ⟨b,o,none⟩ c a5 a4 a6 hb a9 a7;refine WL.val (v:=v') (w':=w') hd (λa ha=>?_) (h v' w' O' a3 a1 (r.U a1));simp only[execOp,resolve,invoke,builtin,Sem.run_bind,Sem.run_pure,Result.andThen_ok,List.map_toArray,List.map_cons,List.map_nil,ha.ev hx,ha.ev hy,ka,a2]
end
end Go.VL
namespace Go.Proofs.YtcfhbfflgnbacaaGreatDoor
abbrev En:=Nat×Bool
abbrev JV(x:En):List ix:=[nI (x.1:Int),.bool x.2]
def elE:Elem Mu 104 106 2 16:=⟨NS,by kernel_rfl,zd⟩
structure RunS where
 row:Nat
 wait:List En
 begun:Bool
 last:En
 closed:Bool
def grT(t:TabM)(c:Nat):Nat:=(nth t.groups c).toNat
def stL(t:TabM)(r c:Nat):Nat:=(getM t.left r (grT t c)).toNat
def stR(t:TabM)(r c:Nat):Nat:=(getM t.right r (grT t c)).toNat
structure OkT(t:TabM):Prop where
 okl:OkP t.left
 okr:OkP t.right
 gl:t.groups.length=37
 gr:∀c,c<37->0<=nth t.groups c/\nth t.groups c<64
 ll:t.lt.length=t.left.usual.length
 rl:t.rt.length=t.right.usual.length
 lp:0<t.left.usual.length
 rp:0<t.right.usual.length
 lst:∀r c,r<t.left.usual.length->c<37->0<=getM t.left r (grT t c)/\getM t.left r (grT t c)<t.left.usual.length
 rst:∀r c,r<t.right.usual.length->c<37->0<=getM t.right r (grT t c)/\getM t.right r (grT t c)<t.right.usual.length
 ig:t.ig<2^36
 kp:t.kp<2^36
 br:t.br<2^40
 lt:∀q∈t.lt,q<2^40
 rt:∀q∈t.rt,q<2^40
def OkT.gN{t:TabM}(h:OkT t)(hc:c<37):nth t.groups c=((grT t c:Nat):Int)/\grT t c<64:=by
 have:=h.gr c hc;unfold grT;omega
def OkT.lN{t:TabM}(h:OkT t){r:Nat}(hr:r<t.left.usual.length)(hc:c<37):getM t.left r (grT t c)=((stL t r c:Nat):Int)/\stL t r c<t.left.usual.length:=by
 have:=h.lst r c hr hc;unfold stL;omega
def OkT.rN{t:TabM}(h:OkT t){r:Nat}(hr:r<t.right.usual.length)(hc:c<37):getM t.right r (grT t c)=((stR t r c:Nat):Int)/\stR t r c<t.right.usual.length:=by
 have:=h.rst r c hr hc;unfold stR;omega
def FreeL(O:Nat->Nat)(w:L3)(cs:List ix):Prop:=∀v∈cs,PW O w v
def FreeL.U{S:Nat->Prop}{O O':Nat->Nat}{w w':L3}{cs:List ix}(h:FreeL O w cs)(u:M8 S O w O' w'):FreeL O' w' cs:=λv hv=>(h v hv).U u
def PartV.updF{p:Pv}{tl:List Nat}(h:PartV w cs p tl)(n:FreeL O w cs)(u:M8 S O w O' w'):PartV w' cs p tl:=by
 obtain⟨uv,bv,kv,nv,tv,rfl,h1,h2,h3,h4,h5⟩:=h;exact⟨uv,bv,kv,nv,tv,rfl,h1.U (n uv (by simp)) u,h2.U (n bv (by simp)) u,h3.U (n kv (by simp)) u,h4.U (n nv (by simp)) u,h5.U (n tv (by simp)) u⟩
def PartV.tv{w:L3}{cs:List ix}{p:Pv}{tl:List Nat}(h:PartV w cs p tl):∃tv,cs[5]? = some tv/\Sl fq 1 w tv tl:=by
 obtain⟨uv,bv,kv,nv,tv,rfl,h1,h2,h3,h4,h5⟩:=h;exact⟨tv,rfl,h5⟩
abbrev Ic(wv:ix)(s:RunS):List ix:=[nI (s.row:Int),wv,.bool s.begun,nI (s.last.1:Int),.bool s.last.2,.bool s.closed]
abbrev qM(t:TabM)(gv:ix)(lc rc:List ix)(wv:ix)(s:RunS):List ix:=dY t.ig t.kp t.br t.rules gv lc rc++Ic wv s
structure RunO(O:Nat->Nat)(w:L3)(i j rb:Nat)(t:TabM)(gv:ix)(lc rc:List ix)(wv:ix)(s:RunS):Prop where
 blk:Ns O w i rb (qM t gv lc rc wv s).toArray 108
 win:WinO JV 106 2 O w j wv s.wait
 groups:Nq w gv t.groups
 left:PartV w lc t.left t.lt
 right:PartV w rc t.right t.rt
 fr:FreeL O w (gv::(lc++rc))
section
variable{O:Nat→Nat}{w:L3}{i j rb:Nat}{t:TabM}{gv:ix}{lc rc:List ix}{wv:ix}{s:RunS}
def RunO.U{S:Nat->Prop}{O':Nat->Nat}{w':L3}(h:RunO O w i j rb t gv lc rc wv s)(u:M8 S O w O' w')(hi:i≠0)(hj:j≠0)(h1:¬S i)(h2:¬S j):RunO O' w' i j rb t gv lc rc wv s:=
 ⟨h.blk.U u hi h1,h.win.U u hj h2,h.groups.U (h.fr gv (by simp)) u,h.left.updF (λv hv=>h.fr v (by simp[hv])) u,h.right.updF (λv hv=>h.fr v (by simp[hv])) u,h.fr.U u⟩
def RunO.tab(h:RunO O w i j rb t gv lc rc wv s):TabB w rb t gv lc rc:=⟨λk u hu=>h.blk.cell k (by
 have:=(MQ.1 hu).1;simp only[qM,N2]
 rw[MR this];exact hu),h.groups,h.left,h.right⟩
def RunO.len(h:RunO O w i j rb t gv lc rc wv s):(dY t.ig t.kp t.br t.rules gv lc rc).length=17:=by simp[h.left.one.1,h.right.one.1]
def RunO.cell(h:RunO O w i j rb t gv lc rc wv s)(k:Nat)(u:ix)(hu:[nI (s.row:Int),wv,.bool s.begun,nI (s.last.1:Int),.bool s.last.2,.bool s.closed][k]? = some u):w.cell? ⟨rb,17+k,none⟩=some u:=h.blk.cell (17+k) (by
 have hl:=h.len;simp only[qM,N2]
 rw[M1 zo,hl,MD];exact hu)
def RunO.k17(h:RunO O w i j rb t gv lc rc wv s):w.cell? (nA rb 17)=some (nI (s.row:Int)):=h.cell 0 _ rfl
def RunO.k18(h:RunO O w i j rb t gv lc rc wv s):w.cell? (nA rb 18)=some wv:=h.cell 1 _ rfl
def RunO.k19(h:RunO O w i j rb t gv lc rc wv s):w.cell? (nA rb 19)=some (.bool s.begun):=h.cell 2 _ rfl
def RunO.k20(h:RunO O w i j rb t gv lc rc wv s):w.cell? ((nA rb 20).add 0)=some (nI (s.last.1:Int)):=h.cell 3 _ rfl
def RunO.k21(h:RunO O w i j rb t gv lc rc wv s):w.cell? ((nA rb 20).add 1)=some (.bool s.last.2):=h.cell 4 _ rfl
def RunO.k22(h:RunO O w i j rb t gv lc rc wv s):w.cell? (nA rb 22)=some (.bool s.closed):=h.cell 5 _ rfl
end
structure OkS(t:TabM)(s:RunS):Prop where
 row:s.row<t.left.usual.length
 wait:∀x∈s.wait,x.1<36
 last:s.last.1<36
 few:s.wait.length<=1000000
def rwL(t:TabM):List En->Nat->Nat->Nat->Nat
 |[],_,_,told=>told
 |(c,h)::r,row,seen,told=>if h=true then rwL t r row seen told else if seen=4 then told else rwL t r (stR t row c) (seen+1) (told ||| nth t.rt (stR t row c))
def ff(t:TabM)(l:List En):Nat:=rwL t l 0 0 (nth t.rt 0)
def CJ{t:TabM}(ho:OkT t):∀(l:List En) (row a1 a0:Nat),(∀x∈l,x.1<36)->row<t.right.usual.length->a0<2^40->rwL t l row a1 a0<2^40
 |[],_,_,_,_,_,h=>h
 |(c,h)::r,row,a1,a0,hc,hr,ht=>by
  unfold rwL;have a2:=hc (c,h) (by simp);have hn:=(ho.rN hr (show c<37 by simp at a2;omega)).2
  split
  ·exact CJ ho r row a1 a0 (λx hx=>hc x (by simp[hx])) hr ht
  split
  ·exact ht
  exact CJ ho r _ _ _ (λx hx=>hc x (by simp[hx])) hn (MG ht (ho.rt _ (aJ (by rw[ho.rl];exact hn))))
def ti(O:Nat → Nat)(w:L3)(i j rb:Nat)(t:TabM)(gv:ix)(lc rc:List ix)(wv:ix)(s:RunS)(h:RunO O w i j rb t gv lc rc wv s)(ho:OkT t)(hs:OkS t s):
    NG Mu 119 [.pointer (some ⟨rb, 0, none⟩)] w λv w' => v = .int .u64 ((ff t s.wait:Nat):Int) ∧ N4 w w' := by
  have hT := h.tab
  have hp40:(2^40:Nat) = 1099511627776 := by decide
  obtain⟨tv, htc, htl⟩ := h.right.tv
  have hrl := ho.rl
  have hrp := ho.rp
  have hgl := ho.gl
  have c4:w.cell? (((⟨rb, 0, none⟩:NO).add 0).add 4) = some gv := hT.c4
  have c5:w.cell? ((((⟨rb, 0, none⟩:NO).add 0).add 11).add 5) = some tv := hT.cr 5 tv htc
  have t0:w.cell? (adr tv 1 0) = some (.int .u64 ((nth t.rt 0:Nat):Int)) := by have := htl.cell (i := 0) (j := 0) (by omega) rfl; rwa[ar]at this
  have k18 := h.k18
  have hws := h.win.sl
  have hwl := hs.few
  apply Ln func119 ntmps119 rfl rfl
  refine zh ?_
  refine zvH (ai htl.sh N7 (Nz _) rfl rfl 0 rfl (by omega)) ?_
  apply zlp (λz:Nat×Nat×Nat×Nat×L3 => [(0, .pointer (some ⟨rb, 0, none⟩)), (3, .int .i64 (z.2.1:Nat)), (4, .int .u64 (z.2.2.2.1:Nat)), (5, .int .i64 (z.2.2.1:Nat)), (19, wv), (20, .int .i64 s.wait.length), (21, .int .i64 z.1)]) (λz => z.2.2.2.2) (λz => z.1 ≤ s.wait.length ∧ z.2.1 < t.right.usual.length ∧ z.2.2.1 ≤ 4 ∧ z.2.2.2.1 < 2^40 ∧ N4 w z.2.2.2.2 ∧ rwL t (s.wait.drop z.1) z.2.1 z.2.2.1 z.2.2.2.1 = ff t s.wait) (λz => s.wait.length - z.1) (0, 0, 0, nth t.rt 0, w) ⟨Li _, hrp, Li _, ho.rt _ (aJ (by omega)), Ll _, rfl⟩
  rintro⟨k, row, seen, told, w1⟩ ⟨hk, hrow, hseen, htold, hE1, heq⟩
  dsimp only at hk hrow hseen htold hE1 heq ⊢
  have hws1 := hws.ext hE1
  refine zh ?_
  refine zC ?_ ?_
  · intro hlt
    replace hlt:k < s.wait.length := by have := of_decide_eq_true hlt; omega
    obtain⟨c, hd, hcd⟩:∃c hd, (c, hd) = nth s.wait k := ⟨_, _, rfl⟩
    have hc36 := hs.wait _ (aJ hlt)
    rw[← hcd]at hc36
    dsimp only at hc36
    rw[Mv hlt, ← aB hlt, ← hcd, rwL]at heq
    refine zh ?_
    apply zv (ah (us := [.int .i64 (c:Nat), .bool hd]) (λj u hu => hws1.cell hlt (by rw[← hcd]; exact hu)) (NC _) (Mq _) rfl)
    apply au (aw w1) 1 (by omega) (N6 _) rfl
    intro xb w2 O2 hxb2 hU2 hR2 hE2
    apply zsa (us := #[.int .i64 (c:Nat), .bool hd]) hxb2 (Mq _)
    have hxb3 := hxb2.setRow (us := #[.int .i64 (c:Nat), .bool hd])
    have hU3:M8 (λj => j = 1) O2 w2 O2 (w2.setRow xb #[.int .i64 (c:Nat), .bool hd]) := Lp (by decide) hxb2.tag rfl
    have hE13 := (hU2.J hU3).ext
    generalize w2.setRow xb #[.int .i64 (c:Nat), .bool hd] = w3 at *
    have hE03 := hE1.J hE13
    have x0:w3.cell? ((⟨xb, 0, none⟩:NO).add 0) = some (.int .i64 (c:Int)) := hxb3.cell 0 rfl
    have x1:w3.cell? ((⟨xb, 0, none⟩:NO).add 1) = some (.bool hd) := hxb3.cell 1 rfl
    refine zh ?_
    refine zC ?_ ?_
    · intro hh
      rw[ap hh]at heq
      refine zh ?_
      refine zxd (k + 1, row, seen, told, w3) ⟨hlt, hrow, hseen, htold, hE03, heq⟩
    · intro hh
      rw[am (by rw[hh]; decide)]at heq
      refine zh ?_
      refine zC ?_ ?_
      · intro h4
        replace h4 : seen = 4 := by have : (seen : Int) = 4 := by simpa using h4
                                    omega
        rw[ap h4]at heq
        refine zh ?_
        refine af rfl rfl ⟨by rw[← heq], hE03⟩
      · intro h4
        replace h4 : seen ≠ 4 := by have : ¬ (seen : Int) = 4 := by simpa using h4
                                    omega
        rw[am h4]at heq
        have hT3 := hT.ext hE03
        obtain⟨hg1, hg2⟩ := ho.gN (c := c) (by omega)
        obtain⟨hr1, hr2⟩ := ho.rN hrow (c := c) (by omega)
        have d4:w3.cell? (((⟨rb, 0, none⟩:NO).add 0).add 4) = some gv := hT3.c4
        have dcr:∀(j:Nat) (u:ix), rc[j]? = some u → w3.cell? ((((⟨rb, 0, none⟩:NO).add 0).add 11).add j) = some u := hT3.cr
        have dg:w3.cell? (adr gv 1 c) = some (.int .i64 ((grT t c:Nat):Int)) := by have := hT3.groups.cell (i := c) (j := 0) (by omega) rfl; rw[ar, hg1]at this; exact this
        have hgs := hT3.groups
        refine zh ?_
        apply PG 15 rfl rfl (by kernel_rfl) (by kernel_rfl)
        refine zh ?_
        refine zwH (ah (us := rc) dcr (NB _) (by rw[h.right.one.1]; exact MM _) rfl) ?_
        apply dX
        apply zc PM (lE rc t.right t.rt row (grT t c) w3.drew (hT3.right.ext (Ll w3).drew) ho.okr hrow hg2)
        rintro _ w4 ⟨rfl, hE4⟩
        rw[hr1]
        have hE04:N4 w w4 := (hE03.J (Ll w3).drew).J hE4
        have hT4 := hT.ext hE04
        have e5:w4.cell? ((((⟨rb, 0, none⟩:NO).add 0).add 11).add 5) = some tv := hT4.cr 5 tv htc
        have htl4 := htl.ext hE04
        have t4:w4.cell? (adr tv 1 (stR t row c)) = some (.int .u64 ((nth t.rt (stR t row c):Nat):Int)) := by have := htl4.cell (i := stR t row c) (j := 0) (by omega) rfl; rwa[ar]at this
        have hlt2 := ho.rt _ (aJ (l := t.rt) (j := stR t row c) (by omega))
        refine zh ?_
        refine zvH (mQ (a := told) (b := nth t.rt (stR t row c)) rfl rfl rfl rfl (by show _ ≤ (18446744073709551615:Int); omega) (by show _ ≤ (18446744073709551615:Int); omega)) ?_
        refine zxd (k + 1, stR t row c, seen + 1, told ||| nth t.rt (stR t row c), w4) ⟨hlt, hr2, by dsimp only; omega, MG htold hlt2, hE04, heq⟩
  · intro hge
    obtain rfl:k = s.wait.length := by have := of_decide_eq_false hge; omega
    rw[P7, rwL]at heq
    refine zh ?_
    refine af rfl rfl ⟨by rw[← heq], hE1⟩
def dV{g:Nat}{tab:List Nat}(h:Pz g tab w)(e:N4 w w'):Pz g tab w':=λj hj=>e.cell (h j hj)
abbrev gp(w:L3):Prop:=Pz 0 Pa w
def dP(t:TabM)(s:RunS):Int:=if nth t.lt s.row &&& ff t s.wait=0 then -1 else((MY 64 (nth t.lt s.row &&& ff t s.wait):Nat):Int)
def pF{t:TabM}{s:RunS}(ho:OkT t)(hs:OkS t s):ff t s.wait<2^40:=CJ ho _ _ _ _ hs.wait ho.rp (ho.rt _ (aJ (by have:=ho.rl;have:=ho.rp;omega)))
def sP(O:Nat->Nat)(w:L3)(i j rb:Nat)(t:TabM)(gv:ix)(lc rc:List ix)(wv:ix)(s:RunS)(h:RunO O w i j rb t gv lc rc wv s)(hi:i≠0)(hj:j≠0)(ho:OkT t)(hs:OkS t s)(hT:gp w):
  NG Mu 82 [nP rb] w λv w'=>v=nI (dP t s)/\N4 w w':=by
 have hB:=h.tab;obtain⟨tv,a4,a3⟩:=h.left.tv;have a':=ho.ll;have a5:=hs.row;have c1:w.drew.cell? (((nA rb 0).add 5).add 5)=some tv:=hB.cl 5 tv a4;have t1:w.drew.cell? (adr tv 1 s.row)=some (.int .u64 ((nth t.lt s.row:Nat):Int)):=by have:=a3.cell (i:=s.row) (j:=0) zo rfl;rwa[ar]at this
 have k17:=h.k17;have a7:=ho.lt _ (aJ (l:=t.lt) (j:=s.row) zo);have a9:=pF ho hs;have a6:(2^40:Nat)=1099511627776:=zd;have hW:dP t s=if nth t.lt s.row &&& ff t s.wait=0 then -1 else((MY 64 (nth t.lt s.row &&& ff t s.wait):Nat):Int):=rfl
 rw[hW];have a8:nth t.lt s.row &&& ff t s.wait<2^40:=Nh Nat.and_le_left a7;apply Ln func82 ntmps82 rfl rfl;refine zh ?_;have k17:w.drew.cell? (nA rb 17)=some (nI (s.row:Int)):=k17;apply aN (λW=>W.cell? (((nA rb 0).add 5).add 5)=some tv/\W.cell? (adr tv 1 s.row)=some (.int .u64 ((nth t.lt s.row:Nat):Int))/\W.cell? (nA rb 17)=some (nI (s.row:Int))) 16 rfl zk;refine zin ⟨c1,t1,k17⟩ λzS=>?_
 apply zrm 0 rfl zS rfl;apply zr 1 rfl zS (λ_=>ak rfl)
 apply zrf 2 rfl zS rfl;apply zrf 3 rfl zS rfl
 apply zrf 4 rfl zS rfl;apply zt 5 rfl zS (λw1 a1=>RV.ld a1.1 rfl)
 apply zrm 6 rfl zS rfl;apply zr 7 rfl zS (λ_=>ak rfl)
 apply zrf 8 rfl zS rfl;apply zt 9 rfl zS (λw1 a1=>RV.ld a1.2.2 rfl)
 apply zr 10 rfl zS (λ_=>ai a3.sh N7 (Nz _) rfl rfl s.row rfl zo);apply zt 11 rfl zS (λw1 a1=>RV.ld a1.2.1 rfl)
 apply zrm 12 rfl zS rfl;apply Lq 13 zk rfl
 apply zc call119 (ti O w.drew i j rb t gv lc rc wv s (h.U (aa (S:=λ_=>False) (λh=>h) O (Ll w).drew) hi hj (λh=>h) (λh=>h)) ho hs);rintro _ w1 ⟨rfl,a2⟩;have a0:N4 w w1:=(Ll w).drew.J a2;refine zh ?_
 refine zaf ⟨a2.cell c1,a2.cell t1,a2.cell k17⟩ λzS=>?_
 apply zr 14 rfl zS (λ_=>zH (a:=nth t.lt s.row) (b:=ff t s.wait) rfl rfl rfl rfl (by show _<=(18446744073709551615:Int);omega) (by show _<=(18446744073709551615:Int);omega));apply zra 15 rfl zS rfl
 apply MC zk;refine zh ?_
 generalize nth t.lt s.row &&& ff t s.wait=both at *
 by_cases h0:both=0
 ·rw[ap h0];refine zTH rfl ((by rw[h0];rfl)) ?_;refine af rfl rfl ⟨rfl,a0⟩
 rw[am h0];refine zFH rfl ((by rw[beq_eq_false_iff_ne];omega)) ?_;apply zc call120 (Kg both w1 zo h0 (dV hT a0));rintro _ w2 ⟨rfl,rfl⟩;refine zh ?_;refine af rfl rfl ⟨rfl,a0⟩
def K7:cC Mu 106 #[(0,1),(1,1)]:=⟨_,underlying106,λw=>by kernel_rfl⟩
section
variable{O:Nat→Nat}{w:L3}{i j rb:Nat}{t:TabM}{gv:ix}{lc rc:List ix}{wv:ix}{s:RunS}
def RunO.size(h:RunO O w i j rb t gv lc rc wv s):(qM t gv lc rc wv s).toArray.size=23:=by simp[h.left.one.1,h.right.one.1]
def RunO.at_(h:RunO O w i j rb t gv lc rc wv s)(k:Nat){u:ix}(hu:(Ic wv s)[k]? = some u):(qM t gv lc rc wv s).toArray[17+k]? = some u:=by
 have hl:=h.len;simp only[qM,N2];rw[M1 zo,hl,MD];exact hu
def RunO.store2(h:RunO O w i j rb t gv lc rc wv s)(hi:i≠0)(hj:j≠0)(a0:i≠j)(u0:M8 S O w O' w')(hb:Ns O' w' i rb (qM t gv lc rc wv s).toArray 108)(k:Nat)(v:ix){s':RunS} 
  (hk:(Ic wv s).set k v=Ic wv' s') (hw:WinO JV 106 2 O' w' j wv' s'.wait) :
  RunO O' (w'.setCell ⟨rb,17+k,none⟩ v) i j rb t gv lc rc wv' s'/\M8 (λq=>q=i) O' w' O' (w'.setCell ⟨rb,17+k,none⟩ v):=by
 have u:M8 (λq=>q=i) O' w' O' (w'.setCell ⟨rb,17+k,none⟩ v):=N8 (λe=>hi e.symm) hb.tag rfl;have f0:=h.fr.U u0;have g0:=h.groups.U (h.fr gv (by simp)) u0;have l0:=h.left.updF (λv hv=>h.fr v (by simp[hv])) u0;have r0:=h.right.updF (λv hv=>h.fr v (by simp[hv])) u0;refine⟨⟨?_,hw.U u hj (λe=>a0 e.symm),g0.U (f0 gv (by simp)) u,l0.updF (λv hv=>f0 v (by simp[hv])) u,r0.updF (λv hv=>f0 v (by simp[hv])) u,f0.U u⟩,u⟩;have hb:=hb.set (17+k) v;have hl:=h.len;have e:(qM t gv lc rc wv s).toArray.setIfInBounds (17+k) v=(qM t gv lc rc wv' s').toArray:=by
  rw[List.setIfInBounds_toArray];unfold qM;rw[List.set_append_right _ _ zo,hl,MD,hk]
 rw[e]at hb;exact hb
def RunO.store(h:RunO O w i j rb t gv lc rc wv s)(hi:i≠0)(hj:j≠0)(a0:i≠j)(k:Nat)(v:ix){s':RunS}(hk:(Ic wv s).set k v=Ic wv' s')(hw:WinO JV 106 2 O w j wv' s'.wait):
  RunO O (w.setCell ⟨rb,17+k,none⟩ v) i j rb t gv lc rc wv' s'/\M8 (λq=>q=i) O w O (w.setCell ⟨rb,17+k,none⟩ v):=
 h.store2 hi hj a0 (Nm (S:=λ_=>False) (λh=>h) O w) h.blk k v hk hw
def RunO.lastE(h:RunO O w i j rb t gv lc rc wv s)(c:Nat)(b:Bool):((qM t gv lc rc wv s).toArray.toList.take 20++(#[nI (c:Int),.bool b]:Array ix).toList++(qM t gv lc rc wv s).toArray.toList.drop (20+(#[nI (c:Int),.bool b]:Array ix).size)).toArray=(qM t gv lc rc wv {s with last:=(c,b)}).toArray:=by
 have hl:=h.len;congr 1;show List.take 20 (dY t.ig t.kp t.br t.rules gv lc rc++Ic wv s)++[nI (c:Int),.bool b]++PP 22 (dY t.ig t.kp t.br t.rules gv lc rc++Ic wv s)=_;have hd:PP 22 (dY t.ig t.kp t.br t.rules gv lc rc)=[]:=List.drop_eq_nil_of_le zo;rw[List.take_append,List.drop_append,hl,NL zo,hd];simp
def RunO.lastS(h:RunO O w i j rb t gv lc rc wv s)(hi:i≠0)(hj:j≠0)(a0:i≠j)(c:Nat)(b:Bool):
  RunO O (w.setRow rb (qM t gv lc rc wv {s with last:=(c,b)}).toArray) i j rb t gv lc rc wv {s with last:=(c,b)}/\M8 (λq=>q=i) O w O (w.setRow rb (qM t gv lc rc wv {s with last:=(c,b)}).toArray):=by
 have u:M8 (λq=>q=i) O w O (w.setRow rb (qM t gv lc rc wv {s with last:=(c,b)}).toArray):=Lp (λe=>hi e.symm) h.blk.tag rfl;exact⟨⟨h.blk.setRow,h.win.U u hj (λe=>a0 e.symm),h.groups.U (h.fr gv (by simp)) u,h.left.updF (λv hv=>h.fr v (by simp[hv])) u,h.right.updF (λv hv=>h.fr v (by simp[hv])) u,h.fr.U u⟩,u⟩
end
def bf(id:Int):Nat:=if id<0\/36<=id then 0 else id.toNat
def jy(id:Int):bf id<36:=by unfold bf;split<;>omega
def FQ(t:TabM)(s:RunS)(c:Nat):Bool:=t.ig.testBit c&&(s.last.2 || !(t.kp.testBit s.last.1))
def xK(t:TabM)(s:RunS)(c:Nat):RunS:=
 if s.begun=true then {s with last:=(c,FQ t s c),wait:=s.wait++[(c,FQ t s c)]} else {s with begun:=true,last:=(c,false),row:=stL t s.row c}
def I4{t:TabM}{s:RunS}(ho:OkT t)(hs:OkS t s)(hc:c<36)(hf:s.wait.length+1<=1000000):OkS t (xK t s c):=by
 unfold xK
 split
 ·refine⟨hs.row,λx hx=>?_,hc,by simpa using hf⟩
  rcases Mp.1 hx with hx|hx
  ·exact hs.wait x hx
  rw[ln.1 hx];exact hc
 exact⟨(ho.lN hs.row zo).2,hs.wait,hc,by show s.wait.length<=_;omega⟩
def yn(B:Nat)(O:Nat->Nat)(w:L3)(i j rb:Nat)(t:TabM)(gv:ix)(lc rc:List ix)(wv:ix)(s:RunS)(h:RunO O w i j rb t gv lc rc wv s)(hi:i≠0)(hj:j≠0)(b3:i≠j)(g3:i<1000)(g0:j<1000)(ho:OkT t)(hs:OkS t s)(hf:s.wait.length+1<=1000000)(hR:Nn B O w)(id:Int):
  NG Mu 43 [nP rb,nI id] w fun _ w'=>∃O' wv',RunO O' w' i j rb t gv lc rc wv' (xK t s (bf id))/\M8 (fun q=>q=i\/q=j\/q=1000) O w O' w'/\Nn B O' w':=by
 have e7:(2^40:Nat)=1099511627776:=zd;have e8:(2^36:Nat)=68719476736:=zd;have hz:¬(0=i\/0=j\/0=1000):=zo;have f9:=hs.last;have f7:=hs.few;obtain⟨c,hc⟩:∃c,c=bf id:=⟨_,rfl⟩
 have e':c<36:=by rw[hc];exact jy id
 rw[<-hc];refine Ln func43 ntmps43 rfl rfl ?_;refine zh ?_;refine bR (fun w1=>_=w1) (decide (36<=id)) 2 (rfl) rfl rfl rfl rfl rfl ?_ ?_
 ·intro g1;refine zh ?_;refine nE 7 3 (rfl) g1
 rintro _ rfl;refine zh ?_;refine eI (fun z:Nat=>[(0,nP rb),(1,nI (z:Nat))]) (fun z:Nat=>w) (fun z:Nat=>z=c) ?_ ?_
 ·intro Qm hN;refine zC ?_ ?_
  ·intro hb;refine zh ?_;exact NX (hN (0) (by rw[hc];unfold bf;rw[ap (by simpa using hb)])) ⟨rfl,rfl,trivial⟩ rfl
  intro hb;obtain rfl:id=(c:Int):=by
   have:¬(id<0\/36<=id):=by simpa using hb
   rw[hc];unfold bf;rw[am this];omega
  refine zh ?_;exact NX (hN (c) (rfl)) ⟨rfl,rfl,trivial⟩ rfl
 rintro c' e0;obtain rfl:c=c':=e0.symm;clear e0 hc;refine zh ?_;refine zv (aH K7 (N6 _) rfl (by first|rfl|(simp only[LK,PC];rfl)) rfl rfl) ?_;refine au hR 1000 zo (N6 _) rfl ?_;intro xb w1 O1 a7 f4 f5 g5;refine zsa (us:=#[nI (c:Nat),.bool false]) a7 (Mq _) ?_;have a6:=a7.setRow (us:=#[nI (c:Nat),.bool false]);have e1:M8 (fun q=>q=1000) O1 w1 O1 (w1.setRow xb #[nI (c:Nat),.bool false]):=Lp zd a7.tag rfl;generalize w1.setRow xb #[nI (c:Nat),.bool false]=w2 at *;have b1:=f4.J e1;have e2:=f5.U e1;have h2:=h.U b1 hi hj zo zo;have k19:=h2.k19;have b6:=a6.V;refine zh ?_;have hX:=aa (S:=fun _=>False) (fun h=>h) O1 (Ll w2).drew
 cases hbg:s.begun with
 |false=>
  refine zTH rfl rfl ?_;refine aN (fun W=>∀k u,[nI (c:Nat),.bool false][k]? = some u->W.cell? (nA xb k)=some u) 9 rfl zk ?_
  refine zrm 0 rfl b6 rfl ?_;refine zrm 1 rfl b6 rfl ?_
  refine zt 2 rfl b6 (fun w1 a0=>ah (us:=[nI (c:Nat),.bool false]) a0 (NC _) (Mq _) rfl) ?_;refine zr 3 rfl b6 (fun _=>ak rfl) ?_
  refine zrf 4 rfl b6 rfl ?_;have h2d:=h2.U hX hi hj (fun h=>h) (fun h=>h);refine Lq 5 zk rfl ?_
  refine aj (j:=19) h2d.blk (h2d.at_ 2 rfl) (P1 _) rfl rfl rfl rfl ?_;obtain⟨h3,b7⟩:=h2d.store hi hj b3 2 (.bool true) (wv':=wv) (s':={s with begun:=true}) (by simp[hbg]) h2d.win;have b0:=(hX.mono (S':=fun q=>q=i) (fun _ h=>h.elim) zo).J b7;have b2:=a6.U b0 zd zo;have d5:=e2.U b0;generalize w2.drew.setCell ⟨rb,17+2,none⟩ (.bool true)=w3 at *;refine zh ?_
  refine zaf (b2.V) fun zS=>?_
  refine zr 6 rfl zS (fun _=>ak rfl) ?_;refine zrf 7 rfl zS rfl ?_
  refine Lq 8 zk rfl ?_;refine fy (us:=#[nI (c:Nat),.bool false]) 20 (qM t gv lc rc wv {s with begun:=true,last:=(c,false)}).toArray h3.blk (h3.lastE c false) (by rw[h3.size];show 22<=23;omega) (Mq _) rfl rfl rfl rfl ?_
  obtain⟨h4,a9⟩:=h3.lastS hi hj b3 c false;have b5:=b2.U a9 zd zo;have a':=b0.J a9;have d3:=d5.U a9;generalize w3.setRow rb (qM t gv lc rc wv {s with begun:=true,last:=(c,false)}).toArray=w4 at *;refine zh ?_;refine ae (b5.V) ?_;refine MC zk ?_;refine zh ?_;have hB:=h4.tab;obtain⟨d',e9⟩:=ho.gN (c:=c) zo;obtain⟨e6,f8⟩:=ho.lN hs.row (c:=c) zo;have g4:=ho.gl;have d4:w4.drew.cell? ((nA rb 0).add 4)=some gv:=hB.c4;have b9:∀(j:Nat) (u:ix),lc[j]? = some u->w4.drew.cell? (((nA rb 0).add 5).add j)=some u:=hB.cl;have dg:w4.drew.cell? (adr gv 1 c)=some (nI ((grT t c:Nat):Int)):=by have:=hB.groups.cell (i:=c) (j:=0) zo rfl;rw[ar,d']at this;exact this
  have f6:w4.drew.cell? (nA rb 17)=some (nI (s.row:Int)):=h4.k17;refine aN (fun W=>W.cell? ((nA rb 0).add 4)=some gv/\W.cell? (adr gv 1 c)=some (nI ((grT t c:Nat):Int))/\∀(j:Nat) (u:ix),lc[j]? = some u->W.cell? (((nA rb 0).add 5).add j)=some u) 22 rfl zk ?_;refine zin ⟨d4,dg,b9⟩ fun zS=>?_
  refine zrm 0 rfl zS rfl ?_;refine zrm 1 rfl zS rfl ?_
  refine zr 2 rfl zS (fun _=>ak rfl) ?_;refine zrf 3 rfl zS rfl ?_
  refine zrf 4 rfl zS rfl ?_;refine zt 5 rfl zS (fun w1 a0=>ah (us:=lc) a0.2.2 (NB _) (by rw[h.left.one.1];exact MM _) rfl) ?_
  refine zrm 6 rfl zS rfl ?_;refine zr 7 rfl zS (fun _=>ak rfl) ?_
  refine zrf 8 rfl zS rfl ?_;refine zrm 10 rfl zS rfl ?_
  refine zr 11 rfl zS (fun _=>ak rfl) ?_;refine zrf 12 rfl zS rfl ?_
  refine zrf 13 rfl zS rfl ?_;refine zt 14 rfl zS (fun w1 a0=>RV.ld a0.1 rfl) ?_
  refine zrm 15 rfl zS rfl ?_;refine zr 16 rfl zS (fun _=>ai hB.groups.sh Lj (Lz _) rfl rfl c rfl zo) ?_
  refine zt 17 rfl zS (fun w1 a0=>RV.ld a0.2.1 rfl) ?_;refine Lq 9 zk rfl ?_
  refine zvH (RV.ld f6 rfl) ?_;refine ae (⟨d4,dg,b9⟩) ?_
  refine Lq 18 zk rfl ?_;refine zc PM (lE lc t.left t.lt s.row (grT t c) w4.drew (hB.left.ext (Ll w4).drew) ho.okl hs.row e9) ?_
  rintro _ w5 ⟨rfl,a1⟩;rw[e6];refine zh ?_;refine ae (⟨a1.cell d4,a1.cell dg,fun j u hu=>a1.cell (b9 j u hu)⟩) ?_;have a5:=aa (S:=fun _=>False) (fun h=>h) O1 ((Ll w4).drew.J a1);have h5:=h4.U a5 hi hj (fun h=>h) (fun h=>h);have d0:=(a'.J (a5.mono (fun _ h=>h.elim) zo))
  have d2:=d3.U a5;refine zin (⟨a1.cell d4,a1.cell dg,fun j u hu=>a1.cell (b9 j u hu)⟩) fun zS=>?_
  refine zr 19 rfl zS (fun _=>ak rfl) ?_;refine zrf 20 rfl zS rfl ?_
  refine Lq 21 zk rfl ?_;refine aj (j:=17) h5.blk (h5.at_ 0 rfl) (Lz _) rfl rfl rfl rfl ?_
  obtain⟨h6,a8⟩:=h5.store hi hj b3 0 (nI ((stL t s.row c:Nat):Int)) (wv':=wv) (s':={s with begun:=true,last:=(c,false),row:=stL t s.row c}) rfl h5.win;have d6:=h6.tab;have d1:=d2.U a8;have c9:=d0.J a8;have q1:(w5.setCell ⟨rb,17+0,none⟩ (nI ((stL t s.row c:Nat):Int))).cell? (adr gv 1 c)=some (nI ((grT t c:Nat):Int)):=by have:=d6.groups.cell (i:=c) (j:=0) zo rfl;rw[ar,d']at this;exact this
  refine zh ?_;refine ae (⟨d6.c4,q1,d6.cl⟩) ?_
  refine MC zk ?_;refine zh ?_
  have e:xK t s c = {s with begun:=true,last:=(c,false),row:=stL t s.row c}:=by unfold xK;rw[hbg,am zd]
  refine cP rfl (⟨O1,wv,by rw[e];exact h6,(b1.mono (fun _ h=>zo) hz).J (c9.mono (fun _ h=>zo) hz),d1⟩)
 |true=>
  refine zFH rfl rfl ?_;have hB:=h2.tab;have a3:w2.drew.cell? ((nA rb 0).add 0)=some (.int .u64 (t.ig:Int)):=hB.c0;have a2:w2.drew.cell? ((nA rb 0).add 1)=some (.int .u64 (t.kp:Int)):=hB.c1;have k20:w2.drew.cell? ((nA rb 20).add 0)=some (nI (s.last.1:Int)):=h2.k20;have k21:w2.drew.cell? ((nA rb 20).add 1)=some (.bool s.last.2):=h2.k21;have b4:=a6.U hX zd (fun h=>h);have d7:∀b,b=FQ t s c->Ns O1 (w2.drew.setCell ⟨xb,1,none⟩ (.bool b)) 1000 xb #[nI (c:Nat),.bool (FQ t s c)] 106/\M8 (fun q=>q=1000) O1 w2 O1 (w2.drew.setCell ⟨xb,1,none⟩ (.bool b))/\
    ((w2.drew.setCell ⟨xb,1,none⟩ (.bool b)).cell? ((nA rb 0).add 0)=some (.int .u64 (t.ig:Int))/\(w2.drew.setCell ⟨xb,1,none⟩ (.bool b)).cell? ((nA rb 0).add 1)=some (.int .u64 (t.kp:Int))/\(w2.drew.setCell ⟨xb,1,none⟩ (.bool b)).cell? ((nA rb 20).add 0)=some (nI (s.last.1:Int))/\(w2.drew.setCell ⟨xb,1,none⟩ (.bool b)).cell? ((nA rb 20).add 1)=some (.bool s.last.2)):=by
   rintro b rfl;have u1:M8 (fun q=>q=1000) O1 w2.drew O1 (w2.drew.setCell ⟨xb,1,none⟩ (.bool (FQ t s c))):=N8 zd b4.tag rfl;have u2:=(hX.mono (S':=fun q=>q=1000) (fun _ h=>h.elim) zd).J u1;have h3:=h2.U u2 hi hj zo zo;exact⟨b4.set 1 _,u2,h3.tab.c0,h3.tab.c1,h3.k20,h3.k21⟩
  have hh:FQ t s c=(t.ig.testBit c&&(s.last.2 || !(t.kp.testBit s.last.1))):=rfl;have f':=ho.kp;have g2:=ho.ig;refine eI (fun z:L3=>[(0,nP rb),(4,nP xb)]) (fun z:L3=>z) (fun z:L3=>Ns O1 z 1000 xb #[nI (c:Nat),.bool (FQ t s c)] 106/\M8 (fun q=>q=1000) O1 w2 O1 z) ?_ ?_
  ·intro Qm hN;refine aN (fun W=>W.cell? ((nA rb 0).add 0)=some (.int .u64 (t.ig:Int))/\W.cell? ((nA rb 0).add 1)=some (.int .u64 (t.kp:Int))/\W.cell? ((nA rb 20).add 0)=some (nI (s.last.1:Int))/\W.cell? ((nA rb 20).add 1)=some (.bool s.last.2)) 30 rfl zk ?_;refine zin ⟨a3,a2,k20,k21⟩ fun zS=>?_
   refine zrm 0 rfl zS rfl ?_;refine zr 1 rfl zS (fun _=>ak rfl) ?_
   refine zrf 2 rfl zS rfl ?_;refine zrf 3 rfl zS rfl ?_
   refine zt 4 rfl zS (fun w1 a0=>RV.ld a0.1 rfl) ?_;refine zrm 5 rfl zS rfl ?_
   refine Lq 6 zk rfl ?_;refine zc Q3 (tQ t.ig c _ zo zo) ?_
   rintro _ w3 ⟨rfl,rfl⟩;refine zh ?_;refine ae (⟨a3,a2,k20,k21⟩) ?_;refine zrm 7 rfl (⟨a3,a2,k20,k21⟩) rfl ?_
   cases c6:t.ig.testBit c with
   |false=>
    obtain⟨f1,f2,f3⟩:=d7 false (by rw[hh,c6];rfl);refine et (d:=53) rfl (b':=false) (rfl) ?_;refine zin (⟨a3,a2,k20,k21⟩) fun zS=>?_
    refine zte 8 rfl rfl zS ?_;refine zte 9 rfl rfl zS ?_
    refine zte 10 rfl rfl zS ?_;refine zte 11 rfl rfl zS ?_
    refine zte 12 rfl rfl zS ?_;refine zte 13 rfl rfl zS ?_
    refine ztu 14 rfl zS ?_;refine ztu 15 rfl zS ?_
    refine ztu 16 rfl zS ?_;refine ztu 17 rfl zS ?_
    refine ztu 18 rfl zS ?_;refine ztu 19 rfl zS ?_
    refine ztu 20 rfl zS ?_;refine ztu 21 rfl zS ?_
    refine ztu 22 rfl zS ?_;refine ztu 23 rfl zS ?_
    refine ztu 24 rfl zS ?_;refine ztu 25 rfl zS ?_
    refine zte 26 rfl rfl zS ?_;refine zr 27 rfl zS (fun _=>bE rfl rfl) ?_
    refine zrf 28 rfl zS rfl ?_;refine Lq 29 zk rfl ?_
    refine aj (j:=1) b4 rfl (P1 _) rfl rfl rfl rfl ?_;refine zh ?_
    refine ae (f3) ?_;refine MC zk ?_
    exact NX (hN (_) (⟨f1,f2⟩)) ⟨rfl,rfl,trivial⟩ rfl
   |true=>
    refine et (d:=53) rfl (b':=true) (rfl) ?_;refine zin (⟨a3,a2,k20,k21⟩) fun zS=>?_
    refine zro 8 rfl zS (fun _=>Pf rfl) ?_;refine zro 9 rfl zS (fun _=>ak rfl) ?_
    refine zro 10 rfl zS (fun _=>RV.fa rfl) ?_;refine zro 11 rfl zS (fun _=>RV.fa rfl) ?_
    refine zto 12 rfl zS (fun w1 a0=>RV.ld a0.2.2.2 rfl) ?_;refine zro 13 rfl zS (fun _=>Pf rfl) ?_
    cases b8:s.last.2 with
    |true=>
     obtain⟨f1,f2,f3⟩:=d7 true (by rw[hh,c6,b8];rfl);rw[b8]at f3 k21;refine et (d:=59) rfl (b':=true) (rfl) ?_;refine zin (⟨a3,a2,k20,k21⟩) fun zS=>?_
     refine zte 14 rfl rfl zS ?_;refine zte 15 rfl rfl zS ?_
     refine zte 16 rfl rfl zS ?_;refine zte 17 rfl rfl zS ?_
     refine zte 18 rfl rfl zS ?_;refine zte 19 rfl rfl zS ?_
     refine zte 20 rfl rfl zS ?_;refine zte 21 rfl rfl zS ?_
     refine zte 22 rfl rfl zS ?_;refine zte 23 rfl rfl zS ?_
     refine zte 24 rfl rfl zS ?_;refine zte 25 rfl rfl zS ?_
     refine zro 26 rfl zS (fun _=>aX rfl rfl) ?_;refine zr 27 rfl zS (fun _=>aX rfl rfl) ?_
     refine zrf 28 rfl zS rfl ?_;refine Lq 29 zk rfl ?_
     refine aj (j:=1) b4 rfl (P1 _) rfl rfl rfl rfl ?_;refine zh ?_
     refine ae (f3) ?_;refine MC zk ?_
     exact NX (hN (_) (⟨f1,f2⟩)) ⟨rfl,rfl,trivial⟩ rfl
    |false=>
     obtain⟨f1,f2,f3⟩:=d7 (!(t.kp.testBit s.last.1)) (by rw[hh,c6,b8];rfl);rw[b8]at f3 k21;refine et (d:=59) rfl (b':=false) (rfl) ?_;refine zin (⟨a3,a2,k20,k21⟩) fun zS=>?_
     refine zro 14 rfl zS (fun _=>Pf rfl) ?_;refine zro 15 rfl zS (fun _=>ak rfl) ?_
     refine zro 16 rfl zS (fun _=>RV.fa rfl) ?_;refine zro 17 rfl zS (fun _=>RV.fa rfl) ?_
     refine zto 18 rfl zS (fun w1 a0=>RV.ld a0.2.1 rfl) ?_;refine zro 19 rfl zS (fun _=>Pf rfl) ?_
     refine zro 20 rfl zS (fun _=>ak rfl) ?_;refine zro 21 rfl zS (fun _=>RV.fa rfl) ?_
     refine zro 22 rfl zS (fun _=>RV.fa rfl) ?_;refine zto 23 rfl zS (fun w1 a0=>RV.ld a0.2.2.1 rfl) ?_
     refine Lq 24 zk rfl ?_;refine fe rfl ?_
     refine zc Q3 (tQ t.kp s.last.1 _ zo zo) ?_;rintro _ w3 ⟨rfl,rfl⟩;refine zh ?_
     refine zaf (⟨a3,a2,k20,k21⟩) fun zS=>?_
     refine zro 25 rfl zS (fun _=>RV.not rfl) ?_;refine zro 26 rfl zS (fun _=>bE rfl rfl) ?_
     refine zr 27 rfl zS (fun _=>aX rfl rfl) ?_;refine zrf 28 rfl zS rfl ?_
     refine Lq 29 zk rfl ?_;refine aj (j:=1) b4 rfl (P1 _) rfl rfl rfl rfl ?_
     refine zh ?_;refine ae (f3) ?_
     refine MC zk ?_;exact NX (hN (_) (⟨f1,f2⟩)) ⟨rfl,rfl,trivial⟩ rfl
  rintro w3 ⟨b2,b7⟩;refine zh ?_;obtain⟨hd,d9⟩:∃hd,hd=FQ t s c:=⟨_,rfl⟩
  rw[<-d9]at b2;have h3:=h2.U b7 hi hj zo zo;have d5:=e2.U b7;refine zh ?_;refine zvH (ah (us:=[nI (c:Nat),.bool hd]) b2.V (NC _) (Mq _) rfl) ?_;refine fy (us:=#[nI (c:Nat),.bool hd]) 20 (qM t gv lc rc wv {s with last:=(c,hd)}).toArray h3.blk (h3.lastE c hd) (by rw[h3.size];show 22<=23;omega) (Mq _) rfl rfl rfl rfl ?_;obtain⟨h4,a9⟩:=h3.lastS hi hj b3 c hd;have b5:=b2.U a9 zd zo;have a':=(b7.mono (S':=fun q=>q=i\/q=j\/q=1000) (fun _ h=>zo) hz).J (a9.mono (fun _ h=>zo) hz);have d3:=d5.U a9;generalize w3.setRow rb (qM t gv lc rc wv {s with last:=(c,hd)}).toArray=w4 at *;refine zh ?_;have k18:w4.drew.cell? (nA rb 18)=some wv:=h4.k18;refine aN (fun W=>∀k u,[nI (c:Nat),.bool hd][k]? = some u->W.cell? (nA xb k)=some u) 11 rfl zk ?_;refine zin b5.V fun zS=>?_
  refine zrm 0 rfl zS rfl ?_;refine zrm 1 rfl zS rfl ?_
  refine zr 2 rfl zS (fun _=>ak rfl) ?_;refine zrf 3 rfl zS rfl ?_
  refine zt 5 rfl zS (fun w1 a0=>ah (us:=[nI (c:Nat),.bool hd]) a0 (NC _) (Mq _) rfl) ?_;refine bU 4 6 elE (enc:=JV) ((c,hd):En) rfl rfl zk zk zk zk (fun W hE=>Q6 (hE.cell k18) (isAgg104 _) rfl) (fun W hE k u hu=>hE.cell (b5.V k u hu)) rfl rfl rfl zd rfl rfl rfl rfl rfl ?_
  intro sv w5 e5 a1;have a5:=aa (S:=fun _=>False) (fun h=>h) O1 ((Ll w4).drew.J a1);have h5:=h4.U a5 hi hj (fun h=>h) (fun h=>h);have e4:=b5.U a5 zd (fun h=>h);have d2:=d3.U a5;refine Lq 7 zk rfl ?_;refine xH elE h5.win d2 e5 rfl rfl rfl (by simp[Ls]) (by show(s.wait.length+1)*16<=_;omega) (by show s.wait.length+1<=_;omega) hj rfl ?_;intro c5 w6 O6 a4 a8 d1;have d8:=e4.U a8 zd zo;have h6:=h5.blk.U a8 hi b3;refine zh ?_;refine zaf (d8.V) fun zS=>?_
  refine zr 8 rfl zS (fun _=>ak rfl) ?_;refine zrf 9 rfl zS rfl ?_
  refine Lq 10 zk rfl ?_;refine aj (j:=18) h6 (h5.at_ 1 rfl) (sizeOf104 _) a4.one rfl rfl rfl ?_
  obtain⟨h7,c7⟩:=h5.store2 hi hj b3 a8 h6 1 c5 (wv':=c5) (s':={s with last:=(c,hd),wait:=s.wait++[(c,hd)]}) rfl a4;have e3:=d8.U c7 zd zo;refine zh ?_;refine ae (e3.V) ?_;refine MC zk ?_;have e:xK t s c = {s with last:=(c,hd),wait:=s.wait++[(c,hd)]}:=by unfold xK;rw[hbg,ap rfl,<-d9]
  have c8:=((a'.J (a5.mono (fun _ h=>h.elim) hz)).J (a8.mono (fun _ h=>zo) hz)).J (c7.mono (fun _ h=>zo) hz);refine aP rfl (⟨O6,c5,by rw[e];exact h7,(b1.mono (fun _ h=>zo) hz).J c8,d1.U c7⟩)
def nV{g:Nat}{tab:List Nat}(h:Pz g tab w)(hg:g<B)(r:Nn B O w)(u:M8 S O w O' w'):Pz g tab w':=λj hj=>by
 have h0:O g=0:=by
  by_cases e:O g=0
  ·exact e
  have:=(r.rng g e).1;omega
 exact jz (u.blk g (by have:=r.le;omega) (by rw[h0];exact u.z)) (h j hj)
abbrev KM:Nat:=0
def jt(l:List En):Nat:=(l.filter λx=>!x.2).length
def zZ:List En->Bool
 |[]=>false
 |x::r=>x.2||decide (4<=jt (x::r))
def yO{l:List En}(h:k<l.length):jt (l.take (k+1))=jt (l.take k)+if(nth l k).2=true then 0 else 1:=by
 unfold jt;rw[aG h,List.filter_append,Lo];congr 1
 cases hb:(nth l k).2<;>simp[hb]
def Dw(l:List En):jt l<=l.length:=List.length_filter_le _ _
def tk(O:Nat->Nat)(w:L3)(i j rb:Nat)(t:TabM)(gv:ix)(lc rc:List ix)(wv:ix)(s:RunS)(h:RunO O w i j rb t gv lc rc wv s)(hs:OkS t s):
  NG Mu 44 [nP rb] w λv w'=>v=.bool (zZ s.wait)/\N4 w w':=by
 have k18:=h.k18;have b1:=h.win.sl;have b7:=hs.few;apply Ln func44 ntmps44 rfl rfl;refine zh ?_
 by_cases h0:s.wait=[]
 ·refine zTH rfl ((by rw[h0];rfl)) ?_;refine af rfl rfl ⟨by rw[h0];rfl,Ll _⟩
 have a7:0<s.wait.length:=N9.2 h0;refine zFH rfl ((by rw[beq_eq_false_iff_ne];omega)) ?_;apply zlp (λz:Nat×L3=>[(0,nP rb),(3,nI (jt (s.wait.take z.1):Nat)),(15,wv),(16,nI s.wait.length),(17,nI z.1)]) (λz=>z.2) (λz=>z.1<=s.wait.length/\N4 w z.2) (λz=>s.wait.length-z.1) (0,w) ⟨Li _,Ll _⟩;rintro⟨k,w1⟩ ⟨hk,a2⟩;dsimp only at hk a2 ⊢;have a3:=b1.ext a2;have b8:jt (s.wait.take k)<=k:=NN (Dw _) (List.length_take_le k _);refine zh ?_;refine zC ?_ ?_
 ·intro a1;replace a1:k<s.wait.length:=dT a1;obtain⟨c,hd,b0⟩:∃c hd,(c,hd)=nth s.wait k:=⟨_,_,rfl⟩
  have a4:=yO a1;rw[<-b0]at a4;refine zh ?_;apply zv (ah (us:=[nI (c:Nat),.bool hd]) (λj u hu=>a3.cell a1 (by rw[<-b0];exact hu)) (NC _) (Mq _) rfl);apply au (aw w1) 1 zo (N6 _) rfl;intro xb w2 O2 a0 b5 b9 c5;apply zsa (us:=#[nI (c:Nat),.bool hd]) a0 (Mq _);have a6:=a0.setRow (us:=#[nI (c:Nat),.bool hd]);have b4:M8 (λj=>j=1) O2 w2 O2 (w2.setRow xb #[nI (c:Nat),.bool hd]):=Lp zd a0.tag rfl;have a9:=(b5.J b4).ext;generalize w2.setRow xb #[nI (c:Nat),.bool hd]=w3 at *;have a5:=a2.J a9;have x1:w3.cell? (nA xb 1)=some (.bool hd):=a6.cell 1 rfl;refine zh ?_;refine zC ?_ ?_
  ·intro hh;have a8:hd=false:=by simpa using hh
   rw[am (by show¬hd=true;rw[a8];decide)]at a4;refine zh ?_;rw[show((jt (s.wait.take k):Nat):Int)+1=((jt (s.wait.take (k+1)):Nat):Int)from by rw[a4];omega];refine zxd (k+1,w3) ⟨a1,a5⟩
  intro hh;have a8:hd=true:=by simpa using hh
  rw[ap a8]at a4;refine zh ?_;rw[<-PE (jt (s.wait.take k)),<-a4];refine zxd (k+1,w3) ⟨a1,a5⟩
 intro b3;obtain rfl:k=s.wait.length:=dF b3;rw[Mt];have c6:w1.cell? (nA rb 18)=some wv:=a2.cell k18;obtain⟨x,r,a'⟩:=ND h0;have d1:w1.cell? ((adr wv 2 0).add 1)=some (.bool x.2):=a3.cell a7 (by rw[a',ao];rfl);have b2:zZ s.wait=(x.2||decide (4<=jt s.wait)):=by rw[a'];rfl
 rw[b2];refine zh ?_
 cases b6:x.2 with
 |true=>
  apply ax (d:=34) rfl (b':=true) rfl;refine zh ?_
  refine af rfl rfl ⟨rfl,a2⟩
 |false=>
  apply ax (d:=34) rfl (b':=false) rfl;refine zh ?_
  refine af rfl rfl ⟨by rw[MT];congr 1;exact decide_eq_decide.2 zo,a2⟩
def I7(t:TabM)(s:RunS)(x:En):Int:=if x.2=true then -1 else dP t s
def passB(t:TabM)(s:RunS)(x:En):Bool:=!x.2&&(decide (dP t s<0)||t.br.testBit (dP t s).toNat)
def Bl(t:TabM)(s:RunS)(x:En)(r:List En):RunS:={s with row:=if x.2=true then s.row else stL t s.row x.1,wait:=r}
def Ce(t:TabM)(s:RunS)(ho:OkT t)(hs:OkS t s):dP t s = -1\/∃n,n<64/\dP t s=((n:Nat):Int):=by
 have a1:(2^40:Nat)=1099511627776:=zd;have a2:=pF ho hs;have a0:nth t.lt s.row &&& ff t s.wait<18446744073709551616:=Nh Pg zo;unfold dP;generalize nth t.lt s.row &&& ff t s.wait=both at *
 split
 ·exact .inl rfl
 rename_i h0;obtain⟨_,hk⟩:=Pw 64 both h0 a0;exact .inr ⟨_,hk,rfl⟩
def Ac{t:TabM}{s:RunS}{x:En}{r:List En}(ho:OkT t)(hs:OkS t s)(hw:s.wait=x::r):OkS t (Bl t s x r):=by
 have hx:=hs.wait x (by simp[hw]);refine⟨?_,λy hy=>hs.wait y (by rw[hw];simp[show y∈r from hy]),hs.last,?_⟩
 ·show(if x.2=true then s.row else stL t s.row x.1)<_
  split
  ·exact hs.row
  exact(ho.lN hs.row zo).2
 have:=hs.few;rw[hw]at this;simp only[LL]at this;show r.length<=_;omega
def od(B:Nat)(O:Nat->Nat)(w:L3)(i j rb:Nat)(t:TabM)(gv:ix)(lc rc:List ix)(wv:ix)(s:RunS)(x:En)(r:List En)(b0:s.wait=x::r)(h:RunO O w i j rb t gv lc rc wv s)(hi:i≠0)(hj:j≠0)(d1:i≠j)(f8:i<1000)(f7:j<1000)(ho:OkT t)(hs:OkS t s)(hR:Nn B O w)(hT:gp w)(hg:KM<B):
  NG Mu 45 [nP rb] w λv w'=>v=.tuple #[nI (I7 t s x),.bool (passB t s x)]/\∃O' wv',RunO O' w' i j rb t gv lc rc wv' (Bl t s x r)/\M8 (λq=>q=i\/q=j\/q=1000) O w O' w'/\Nn B O' w':=by
 have d9:(2^40:Nat)=1099511627776:=zd;have hz:¬(0=i\/0=j\/0=1000):=zo;have f5:=hs.few;have a9:s.wait.length=r.length+1:=by rw[b0];rfl
 have k18:=h.k18;have d0:=h.win.sl;obtain⟨c,hd,e1⟩:∃c hd,x=(c,hd):=⟨_,_,rfl⟩
 subst e1;have e2:c<36:=hs.wait (c,hd) (by simp[b0]);have a':=Ce t s ho hs;apply Ln func45 ntmps45 rfl rfl;refine zh ?_;apply zv (ai d0.sh NS (Mq _) rfl rfl 0 rfl zo);apply zv (ah (us:=[nI (c:Nat),.bool hd]) (λk u hu=>d0.cell (i:=0) zo (by rw[b0,ao];exact hu)) (NC _) (Mq _) rfl);apply au hR 1000 zo (N6 _) rfl;intro xb w1 O1 a4 e3 e7 g0;apply zsa (us:=#[nI (c:Nat),.bool hd]) a4 (Mq _);have a3:=a4.setRow (us:=#[nI (c:Nat),.bool hd]);have d5:M8 (λq=>q=1000) O1 w1 O1 (w1.setRow xb #[nI (c:Nat),.bool hd]):=Lp zd a4.tag rfl;generalize w1.setRow xb #[nI (c:Nat),.bool hd]=w2 at *;have a7:=e3.J d5;have d6:=e7.U d5;have h2:=h.U a7 hi hj zo zo;have e4:gp w2:=nV hT hg hR a7;have x1:w2.cell? (nA xb 1)=some (.bool hd):=a3.cell 1 rfl;refine zh ?_;refine eI (λz:(Nat->Nat)×World×Int=>[(0,nP rb),(4,nP xb),(5,nI z.2.2)]) (λz:(Nat->Nat)×World×Int=>z.2.1) (λz:(Nat->Nat)×World×Int=>RunO z.1 z.2.1 i j rb t gv lc rc wv {s with row:=if hd=true then s.row else stL t s.row c}/\Ns z.1 z.2.1 1000 xb #[nI (c:Nat),.bool hd] 106/\M8 (λq=>q=i) O1 w2 z.1 z.2.1/\Nn B z.1 z.2.1/\z.2.2=I7 t s (c,hd)) ?_ ?_
 ·intro Qm hN
  by_cases a1:hd=true
  ·refine zFH rfl ((by rw[a1];rfl)) ?_;exact NX (hN ((O1,w2,-1)) ⟨by rw[ap a1];exact h2,a3,Nm (λe=>hi e.symm) _ _,d6,by show _=if hd=true then _ else _;rw[ap a1]⟩) ⟨rfl,rfl,rfl,trivial⟩ rfl
  refine zTH rfl ((by rw[show hd=false from by simpa using a1];rfl)) ?_;apply zc call82 (sP O1 w2 i j rb t gv lc rc wv s h2 hi hj ho hs e4)
  rintro _ w3 ⟨rfl,e'⟩;have b4:=aa (S:=λ_=>False) (λh=>h) O1 e';have h3:=h2.U b4 hi hj (λh=>h) (λh=>h);have a0:=a3.U b4 zd (λh=>h);have b5:=d6.U b4;refine zh ?_;have hB:=h3.tab;obtain⟨d2,d'⟩:=ho.gN (c:=c) zo;obtain⟨d8,f6⟩:=ho.lN hs.row (c:=c) zo;have f9:=ho.gl;have d4:w3.drew.cell? ((nA rb 0).add 4)=some gv:=hB.c4;have b6:∀(j:Nat) (u:ix),lc[j]? = some u->w3.drew.cell? (((nA rb 0).add 5).add j)=some u:=hB.cl;have dg:w3.drew.cell? (adr gv 1 c)=some (nI ((grT t c:Nat):Int)):=by have:=hB.groups.cell (i:=c) (j:=0) zo rfl;rw[ar,d2]at this;exact this
  have f3:w3.drew.cell? (nA rb 17)=some (nI (s.row:Int)):=h3.k17;have dx:w3.drew.cell? (nA xb 0)=some (nI (c:Int)):=a0.cell 0 rfl;apply aN (λW=>W.cell? ((nA rb 0).add 4)=some gv/\W.cell? (adr gv 1 c)=some (nI ((grT t c:Nat):Int))/\(∀(j:Nat) (u:ix),lc[j]? = some u->W.cell? (((nA rb 0).add 5).add j)=some u)/\W.cell? (nA xb 0)=some (nI (c:Int))) 23 rfl zk;refine zin ⟨d4,dg,b6,dx⟩ λzS=>?_
  apply zrm 0 rfl zS rfl;apply zrm 1 rfl zS rfl
  apply zr 2 rfl zS (λ_=>ak rfl);apply zrf 3 rfl zS rfl
  apply zrf 4 rfl zS rfl;apply zt 5 rfl zS (λw1 a5=>ah (us:=lc) a5.2.2.1 (NB _) (by rw[h.left.one.1];exact MM _) rfl)
  apply zrm 6 rfl zS rfl;apply zr 7 rfl zS (λ_=>ak rfl)
  apply zrf 8 rfl zS rfl;apply zrm 10 rfl zS rfl
  apply zr 11 rfl zS (λ_=>ak rfl);apply zrf 12 rfl zS rfl
  apply zrf 13 rfl zS rfl;apply zt 14 rfl zS (λw1 a5=>RV.ld a5.1 rfl)
  apply zrf 15 rfl zS rfl;apply zt 16 rfl zS (λw1 a5=>RV.ld a5.2.2.2 rfl)
  apply zr 17 rfl zS (λ_=>ai hB.groups.sh Lj (Lz _) rfl rfl c rfl zo);apply zt 18 rfl zS (λw1 a5=>RV.ld a5.2.1 rfl)
  apply Lq 9 zk rfl;refine zvH (RV.ld f3 rfl) ?_
  apply ae ⟨d4,dg,b6,dx⟩;apply Lq 19 zk rfl
  apply zc PM (lE lc t.left t.lt s.row (grT t c) w3.drew (hB.left.ext (Ll w3).drew) ho.okl hs.row d');rintro _ w5 ⟨rfl,a2⟩;rw[d8];refine zh ?_
  apply ae ⟨a2.cell d4,a2.cell dg,λj u hu=>a2.cell (b6 j u hu),a2.cell dx⟩;have b3:=aa (S:=λ_=>False) (λh=>h) O1 ((Ll w3).drew.J a2);have h5:=h3.U b3 hi hj (λh=>h) (λh=>h);have b7:=a0.U b3 zd (λh=>h);have e6:=b5.U b3;refine zin ⟨a2.cell d4,a2.cell dg,λj u hu=>a2.cell (b6 j u hu),a2.cell dx⟩ λzS=>?_
  apply zr 20 rfl zS (λ_=>ak rfl);apply zrf 21 rfl zS rfl
  apply Lq 22 zk rfl;apply aj (j:=17) h5.blk (h5.at_ 0 rfl) (Lz _) rfl rfl rfl rfl
  obtain⟨h6,c5⟩:=h5.store hi hj d1 0 (nI ((stL t s.row c:Nat):Int)) (wv':=wv) (s':={s with row:=stL t s.row c}) rfl h5.win;have c9:=h6.tab;have e5:=e6.U c5;have a8:=b7.U c5 zd zo;have c7:=((b4.J b3).mono (S':=λq=>q=i) (λ_ h=>h.elim) zo).J c5;have q1:(w5.setCell ⟨rb,17+0,none⟩ (nI ((stL t s.row c:Nat):Int))).cell? (adr gv 1 c)=some (nI ((grT t c:Nat):Int)):=by have:=c9.groups.cell (i:=c) (j:=0) zo rfl;rw[ar,d2]at this;exact this
  refine zh ?_;apply ae ⟨c9.c4,q1,c9.cl,a8.cell 0 rfl⟩
  apply MC zk;exact NX (hN ((O1,_,dP t s)) ⟨by rw[am a1];exact h6,a8,c7,e5,by show _=if hd=true then _ else _;rw[am a1]⟩) ⟨rfl,rfl,rfl,trivial⟩ rfl
 rintro⟨O3,w3,k⟩ ⟨h3,a0,d3,b5,hk⟩;dsimp only at h3 a0 d3 b5 hk ⊢;refine zh ?_;have b9:=h3.win.sl;have g1:=h3.k18;refine zh ?_;refine zvH (sM b9 NS (Mq _) rfl rfl 1 rfl (by show 1<=s.wait.length;omega)) ?_;have d7:=h3.win;have c':WinO JV 106 2 O3 w3 j (eO wv 2 1 s.wait.length) r:=by
  rw[a9];have:WinO JV 106 2 O3 w3 j wv ((c,hd)::r):=by rw[<-b0];exact d7
  exact this.tail zd
 apply aj (j:=18) h3.blk (h3.at_ 1 rfl) (sizeOf104 _) c'.one rfl rfl rfl;obtain⟨h4,c6⟩:=h3.store hi hj d1 1 (eO wv 2 1 s.wait.length) (wv':=eO wv 2 1 s.wait.length) (s':=Bl t s (c,hd) r) rfl c';have b8:=a0.U c6 zd zo;have c8:=b5.U c6;generalize w3.setCell ⟨rb,17+1,none⟩ (eO wv 2 1 s.wait.length)=w4 at *;have a6:=(a7.mono (S':=λq=>q=i\/q=j\/q=1000) (λ_ h=>zo) hz).J ((d3.J c6).mono (λ_ h=>zo) hz);have f4:w4.cell? (nA xb 1)=some (.bool hd):=b8.cell 1 rfl;refine zh ?_
 cases a1:hd with
 |true=>
  apply ax (d:=51) rfl (b':=false) rfl;refine zh ?_
  refine cj rfl rfl rfl ⟨by rw[hk,a1];rfl,O3,_,by rw[<-a1];exact h4,a6,c8⟩
 |false=>
  have f':=ho.br;subst a1;replace hk:k=dP t s:=hk;have e9:passB t s (c,false)=(decide (dP t s<0)||t.br.testBit (dP t s).toNat):=rfl;have e8:I7 t s (c,false)=dP t s:=rfl;rw[e9,e8,<-hk];rw[<-hk]at a';apply ax (d:=51) rfl (b':=true) rfl;refine zh ?_
  rcases a' with b1|⟨n,hn,b1⟩
  ·apply ax (d:=54) rfl (b':=true) ((by rw[b1];rfl));refine zh ?_
   refine cj rfl rfl rfl ⟨by rw[b1];rfl,O3,_,h4,a6,c8⟩
  have e0:decide (k<0)=false:=decide_eq_false zo;rw[e0,b1];apply ax (d:=54) rfl (b':=false) rfl;have b2:w4.cell? ((nA rb 0).add 2)=some (.int .u64 (t.br:Int)):=h4.tab.c2;refine zh ?_;apply zc Q3 (tQ t.br n _ zo hn);rintro _ w5 ⟨rfl,rfl⟩;refine zh ?_;refine cj rfl rfl rfl ⟨rfl,O3,_,h4,a6,c8⟩
abbrev xg(b:Bool):List ix:=[.bool b]
def L4:Elem Mu 67 4 1 1:=⟨underlying67,by kernel_rfl,zd⟩
abbrev qL(row:Nat)(l:List En):RunS:=⟨row,l,true,(0,false),true⟩
def stepL(t:TabM)(row:Nat)(x:En):Nat:=if x.2=true then row else stL t row x.1
def closeL(t:TabM):List En->Nat->List Bool
 |[],_=>[]
 |x::r,row=>passB t (qL row (x::r)) x::closeL t r (stepL t row x)
def Ad(t:TabM)(s:RunS)(x:En):passB t s x=passB t (qL s.row s.wait) x:=rfl
def sx(t:TabM):∀(l:List En) (row:Nat),(closeL t l row).length=l.length
 |[],_=>rfl
 |x::r,row=>by rw[closeL,LL,sx t r,LL]
def tY(B:Nat)(O:Nat->Nat)(w:L3)(i j m rb:Nat)(t:TabM)(gv:ix)(lc rc:List ix)(wv:ix)(s:RunS)(h:RunO O w i j rb t gv lc rc wv s)(hi:i≠0)(hj:j≠0)(b3:i≠j)(c9:i<1000)(c7:j<1000)(hm:m≠0)(d5:m<1000)(c8:i≠m)(c6:j≠m) 
  (ho:OkT t) (hs:OkS t s) (d0:s.closed=false) (hR:Nn B O w) (hT:gp w) (hg:KM<B) :
  NG Mu 20 [nP rb] w λv w'=>∃O' wv' s',RunO O' w' i j rb t gv lc rc wv' s'/\OkS t s'/\s'.wait=[]/\s'.closed=true/\Nf xg 4 1 O' w' m v (closeL t s.wait s.row)/\M8 (λq=>q=i\/q=j\/q=m\/q=1000) O w O' w'/\Nn B O' w':=by
 have hz:¬(0=i\/0=j\/0=m\/0=1000):=zo;have d4:=hs.few;have k22:=h.k22;rw[d0]at k22;obtain⟨R,b7⟩:∃R,R=closeL t s.wait s.row:=⟨_,rfl⟩
 rw[<-b7];apply Ln func20 ntmps20 rfl rfl;refine zh ?_;refine zvH (ib (q:=some ⟨rb,0,none⟩) PQ rfl rfl) ?_;apply ax (d:=8) rfl (b':=false) rfl;refine zh ?_;refine zFH rfl rfl ?_;apply aj (j:=22) h.blk (h.at_ 5 rfl) (P1 _) rfl rfl rfl rfl;obtain⟨h1,b6⟩:=h.store hi hj b3 5 (.bool true) (wv':=wv) (s':={s with closed:=true}) rfl h.win;have d3:=hR.U b6;generalize w.setCell ⟨rb,17+5,none⟩ (.bool true)=w1 at *;refine zh ?_;apply zlp (λz:(Nat->Nat)×World×ix×RunS×ix×List Bool=>[(0,nP rb),(3,z.2.2.2.2.1)]) (λz=>z.2.1) (λz=>RunO z.1 z.2.1 i j rb t gv lc rc z.2.2.1 z.2.2.2.1/\OkS t z.2.2.2.1/\z.2.2.2.1.closed=true/\Nf xg 4 1 z.1 z.2.1 m z.2.2.2.2.1 z.2.2.2.2.2/\M8 (λq=>q=i\/q=j\/q=m\/q=1000) O w z.1 z.2.1/\Nn B z.1 z.2.1/\z.2.2.2.2.2++closeL t z.2.2.2.1.wait z.2.2.2.1.row=R/\z.2.2.2.2.2.length+z.2.2.2.1.wait.length<=1000000) (λz=>z.2.2.2.1.wait.length) (O,w1,wv,{s with closed:=true},nS,[]) ⟨h1,⟨hs.row,hs.wait,hs.last,hs.few⟩,rfl,MN _ _ _ _ _ _,b6.mono (λ_ h=>zo) hz,d3,by rw[b7];rfl,by show 0+s.wait.length<=_;omega⟩;rintro⟨O2,w2,b0,s2,ov,l⟩ ⟨h2,a2,a9,a6,a3,a',a1,a8⟩;dsimp only at h2 a2 a9 a6 a3 a' a1 a8 ⊢;have c5:=h2.win.sl;have d6:=h2.k18;refine zh ?_;refine zC ?_ ?_
 ·intro a7;replace a7:0<s2.wait.length:=dT a7;obtain⟨x,r,a0⟩:=ND (N9.1 a7);have b1:s2.wait.length=r.length+1:=by rw[a0];rfl
  rw[a0,closeL]at a1;refine zh ?_;apply zc call45 (od B O2 w2 i j rb t gv lc rc b0 s2 x r a0 h2 hi hj b3 c9 c7 ho a2 a' (nV hT hg hR a3) hg);rintro _ w3 ⟨rfl,O3,b8,h3,b5,d2⟩;have a5:=a6.U b5 hm zo;refine zh ?_;apply Na L4 a5 d2 (passB t s2 x) (λ_=>rfl) rfl rfl rfl (by simp[Ls]) zo zo zo zd rfl rfl;intro b9 w4 O4 a4 b4 d1;have h4:=h3.U b4 hi hj c8 c6;refine zh ?_;refine zx (O4,w4,b8,Bl t s2 x r,b9,l++[passB t s2 x]) ⟨h4,Ac ho a2 a0,a9,a4,(a3.J (b5.mono (λ_ h=>zo) hz)).J (b4.mono (λ_ h=>zo) hz),d1,by rw[M4,<-a1,Ad,a0];rfl,by rw[Lo];show l.length+1+r.length<=_;omega⟩ (by show r.length<_;omega)
 intro c';have b2:s2.wait=[]:=Lm (by have:=of_decide_eq_false c';omega);rw[b2,closeL,Lr]at a1;subst a1;refine zh ?_;refine af rfl rfl ⟨O2,b0,s2,h2,a2,b2,a9,a6,a3,a'⟩
def nf(t:TabM):List En->Nat->List Bool×List En×Nat
 |[],row=>([],[],row)
 |x::r,row=>if zZ (x::r)=true then(passB t (qL row (x::r)) x::(nf t r (stepL t row x)).1,(nf t r (stepL t row x)).2)else([],x::r,row)
def jQ(t:TabM):∀(l:List En) (row:Nat),zZ l=false->nf t l row=([],l,row)
 |[],_,_=>rfl
 |x::r,row,h=>by rw[nf,am (by rw[h];decide)]
def jb(B:Nat)(O:Nat->Nat)(w:L3)(i j m rb:Nat)(t:TabM)(gv:ix)(lc rc:List ix)(wv:ix)(s:RunS)(h:RunO O w i j rb t gv lc rc wv s)(hi:i≠0)(hj:j≠0)(b5:i≠j)(b6:i<1000)(b4:j<1000)(hm:m≠0)(d8:m<1000)(d1:i≠m)(d0:j≠m) 
  (ho:OkT t) (hs:OkS t s) (hf:s.wait.length+1<=1000000) (d2:s.closed=false) (hR:Nn B O w) (hT:gp w) (hg:KM<B) (id:Int) (p:RunS) (hp:p=xK t s (bf id)) :
  NG Mu 19 [nP rb,nI id] w λv w'=>∃O' wv',RunO O' w' i j rb t gv lc rc wv' {p with wait:=(nf t p.wait p.row).2.1,row:=(nf t p.wait p.row).2.2}/\OkS t {p with wait:=(nf t p.wait p.row).2.1,row:=(nf t p.wait p.row).2.2}/\
   Nf xg 4 1 O' w' m v (nf t p.wait p.row).1/\M8 (λq=>q=i\/q=j\/q=m\/q=1000) O w O' w'/\Nn B O' w':=by
 have hz:¬(0=i\/0=j\/0=m\/0=1000):=zo;have k22:=h.k22;rw[d2]at k22;have b2:OkS t p:=by rw[hp];exact I4 ho hs (jy id) hf
 obtain⟨R,c5⟩:∃R,R=nf t p.wait p.row:=⟨_,rfl⟩
 rw[<-c5];apply Ln func19 ntmps19 rfl rfl;refine zh ?_;refine zvH (ib (q:=some ⟨rb,0,none⟩) PQ rfl rfl) ?_;apply ax (d:=10) rfl (b':=false) rfl;refine zh ?_;refine zFH rfl rfl ?_;apply zc call43 (yn B O w i j rb t gv lc rc wv s h hi hj b5 b6 b4 ho hs hf hR id);rintro _ w1 ⟨O1,c9,h1,d3,d6⟩;rw[<-hp]at h1;refine zh ?_;apply zlp (λz:(Nat->Nat)×World×ix×RunS×ix×List Bool=>[(0,nP rb),(5,z.2.2.2.2.1)]) (λz=>z.2.1) (λz=>RunO z.1 z.2.1 i j rb t gv lc rc z.2.2.1 z.2.2.2.1/\OkS t z.2.2.2.1/\z.2.2.2.1 = {p with wait:=z.2.2.2.1.wait,row:=z.2.2.2.1.row}/\Nf xg 4 1 z.1 z.2.1 m z.2.2.2.2.1 z.2.2.2.2.2/\M8 (λq=>q=i\/q=j\/q=m\/q=1000) O w z.1 z.2.1/\Nn B z.1 z.2.1/\(z.2.2.2.2.2++(nf t z.2.2.2.1.wait z.2.2.2.1.row).1,(nf t z.2.2.2.1.wait z.2.2.2.1.row).2)=R/\z.2.2.2.2.2.length+z.2.2.2.1.wait.length<=1000000) (λz=>z.2.2.2.1.wait.length) (O1,w1,c9,p,nS,[]) ⟨h1,b2,rfl,MN _ _ _ _ _ _,d3.mono (λ_ h=>zo) hz,d6,by rw[c5];rfl,by have:=b2.few;show 0+p.wait.length<=_;omega⟩;rintro⟨O2,w2,a6,s2,ov,l⟩ ⟨h2,a1,a',b3,b9,c7,a4,a9⟩;dsimp only at h2 a1 a' b3 b9 c7 a4 a9 ⊢;refine zh ?_;apply zc call44 (tk O2 w2 i j rb t gv lc rc a6 s2 h2 a1);rintro _ w3 ⟨rfl,d7⟩;have a5:=aa (S:=λ_=>False) (λh=>h) O2 d7;have h3:=h2.U a5 hi hj (λh=>h) (λh=>h);have a3:=b3.U a5 hm (λh=>h);have c6:=c7.U a5
 have b0:=b9.J (a5.mono (λ_ h=>h.elim) hz);refine zh ?_;refine zC ?_ ?_
 ·intro a2;obtain⟨x,r,a0⟩:∃x r,s2.wait=x::r:=by
   cases hw:s2.wait with
   |nil=>rw[hw]at a2;cases a2
   |cons x r=>exact⟨x,r,rfl⟩
  have b1:s2.wait.length=r.length+1:=by rw[a0];rfl
  rw[a0]at a2;rw[a0,nf,ap a2]at a4;refine zh ?_;apply zc call45 (od B O2 w3 i j rb t gv lc rc a6 s2 x r a0 h3 hi hj b5 b6 b4 ho a1 c6 (nV hT hg hR b0) hg);rintro _ w4 ⟨rfl,O4,c8,h4,b8,d5⟩;have a8:=a3.U b8 hm zo;refine zh ?_;apply Na L4 a8 d5 (passB t s2 x) (λ_=>rfl) rfl rfl rfl (by simp[Ls]) zo zo zo zd rfl rfl;intro c' w5 O5 a7 b7 d4;have h5:=h4.U b7 hi hj d1 d0;refine zh ?_;refine zx (O5,w5,c8,Bl t s2 x r,c',l++[passB t s2 x]) ⟨h5,Ac ho a1 a0,?_,a7,(b0.J (b8.mono (λ_ h=>zo) hz)).J (b7.mono (λ_ h=>zo) hz),d4,by rw[M4,<-a4,Ad,a0];rfl,by rw[Lo];show l.length+1+r.length<=_;omega⟩ (by show r.length<_;omega);show Bl t s2 x r=_;rw[a'];rfl
 intro a2;rw[jQ t _ _ a2,Lr]at a4;subst a4;refine zh ?_;rw[a']at h3 a1;refine af rfl rfl ⟨O2,a6,h3,a1,a3,b0,c6⟩
end Go.Proofs.YtcfhbfflgnbacaaGreatDoor
namespace Go.VL
def Cd:∀(l:List ix) (k:Nat) (cells:Array ix),k+l.length<=cells.size->(l.zipIdx k).foldl (fun(cs:Array ix) (q:ix×Nat)=>cs.setIfInBounds (0+q.2) q.1) cells=(cells.toList.take k++l++cells.toList.drop (k+l.length)).toArray
 |[],k,cells,_=>by simp
 |c::l,k,cells,h=>by
  simp only[LL]at h;rw[List.zipIdx_cons,Pi,Cd l (k+1) _ (by simp;omega)];congr 1;simp only[Np,Array.toList_setIfInBounds,LL];rw[List.drop_set_of_lt zo,List.take_succ_eq_append_getElem (by simp;omega),List.take_set_of_le (M7 _)];simp[NJ,Nat.add_comm 1]
def DU(pl:Array (Nat×Nat))(us cells:Array ix)(hp:pl[0]? = some (0,us.size))(hs:us.size<=cells.size):PF (pl[·]?) cells [(0,.agg us)]=some (us.toList++cells.toList.drop us.size).toArray:=by
 have hc:(Value.agg us).cells=us:=rfl;have a0:¬(us.size≠us.size\/0+us.size>cells.size):=zo;simp only[PF,hp,hc];rw[am (by simp;omega)];have:=Cd us.toList 0 cells (by simpa using hs);rw[<-Array.foldl_toList,Array.toList_zipIdx];simpa using this
end Go.VL
namespace Go.Proofs.YtcfhbfflgnbacaaGreatDoor
def Lt:cC Mu 108 #[(0,17),(17,1),(18,1),(19,1),(20,2),(22,1)]:=⟨_,underlying108,λw=>by kernel_rfl⟩
def kD(t:TabM):RunS:=⟨stL t 0 36,[],false,(0,false),false⟩
def IZ{t:TabM}(ho:OkT t):OkS t (kD t):=⟨(ho.lN ho.lp zd).2,λx hx=>(by cases hx),(by show 0<36;decide),(by show 0<=1000000;decide)⟩
def yf(B:Nat)(O:Nat->Nat)(w:L3)(i j:Nat)(t:TabM)(gv:ix)(lc rc:List ix)(d5:Nq w gv t.groups)(c9:PartV w lc t.left t.lt)(c8:PartV w rc t.right t.rt)(d7:FreeL O w (gv::(lc++rc)))(hi:i≠0)(hj:j≠0)(d3:i≠j)(e2:i<1000)(ho:OkT t)(d1:lQ t=true)(hR:Nn B O w):
  NG Mu 18 [.agg (dY t.ig t.kp t.br t.rules gv lc rc).toArray] w λv w'=>∃O' rb,v=nP rb/\RunO O' w' i j rb t gv lc rc nS (kD t)/\M8 (λq=>q=i\/q=1000) O w O' w'/\Nn B O' w':=by
 have hz:¬(0=i\/0=1000):=zo;obtain⟨ll,lo⟩:=c9.one;obtain⟨rl,ro⟩:=c8.one;have a0:(dY t.ig t.kp t.br t.rules gv lc rc).length=17:=by simp[ll,rl]
 apply Ln func18 ntmps18 rfl rfl;refine zh ?_
 apply aI hR 1000 zo rfl rfl;intro db w1 O1 a8 d0 e0 c5;have b5:=d7.U d0;have a5:=d5.ext c5;have a4:=c9.ext c5;have a3:=c8.ext c5;refine zh ?_
 apply zv (ah (us:=dY t.ig t.kp t.br t.rules gv lc rc) a8.V (NA _) (by rw[a0];exact ME _) rfl);apply zc call9 (gd t _ w1 ⟨gv,lc,rc,rfl,a5,a4,a3⟩)
 rintro _ w2 ⟨rfl,b1⟩;have b0:=aa (S:=λ_=>False) (λh=>h) O1 b1;have a7:=a8.U b0 zd (λh=>h);have b4:=b5.U b0;have d':=e0.U b0;rw[d1];refine zh ?_;refine zFH rfl rfl ?_;apply zv (ah (us:=dY t.ig t.kp t.br t.rules gv lc rc) a7.V (NA _) (by rw[a0];exact ME _) rfl);apply zv (MW (cells:=(qM t gv lc rc nS ⟨0,[],false,(0,false),false⟩).toArray) Lt (zeroValue108 _) rfl (by rw[DU _ _ _ (by rw[Nk,a0];rfl) (by rw[Nk,a0];decide),Nk,a0];rfl));apply aI d' i zo rfl rfl;intro rb w3 O3 b2 b9 d9 b';have b3:=b4.U b9;have h3:RunO O3 w3 i j rb t gv lc rc nS ⟨0,[],false,(0,false),false⟩:=⟨b2,WinO.nil _ _ _ _ _ _,a5.ext (b1.J b'),a4.ext (b1.J b'),a3.ext (b1.J b'),b3⟩
 have a6:=a7.U b9 zd zo;have a9:=TabB.of (t:=t) a6 h3.groups h3.left h3.right;refine zh ?_;obtain⟨c',d6⟩:=ho.gN (c:=36) zd;obtain⟨d2,e1⟩:=ho.lN ho.lp (c:=36) zd;have e3:=ho.gl;have d4:w3.drew.cell? (nA db 4)=some gv:=a9.c4;have c7:∀(j:Nat) (u:ix),lc[j]? = some u->w3.drew.cell? ((nA db 5).add j)=some u:=a9.cl;have dg:w3.drew.cell? (adr gv 1 36)=some (nI ((grT t 36:Nat):Int)):=by have:=a9.groups.cell (i:=36) (j:=0) zo rfl;rw[ar,c']at this;exact this
 apply aN (λW=>W.cell? (nA db 4)=some gv/\W.cell? (adr gv 1 36)=some (nI ((grT t 36:Nat):Int))/\(∀(j:Nat) (u:ix),lc[j]? = some u->W.cell? ((nA db 5).add j)=some u)) 11 rfl zk;refine zin ⟨d4,dg,c7⟩ λzS=>?_
 apply zrm 0 rfl zS rfl;apply zrf 1 rfl zS rfl
 apply zt 2 rfl zS (λw1 a2=>ah (us:=lc) a2.2.2 (NB _) (by rw[ll];exact MM _) rfl);apply zrf 3 rfl zS rfl
 apply zt 4 rfl zS (λw1 a2=>RV.ld a2.1 rfl);apply zr 5 rfl zS (λ_=>ai a9.groups.sh Lj (Lz _) rfl rfl 36 rfl zo)
 apply zt 6 rfl zS (λw1 a2=>RV.ld a2.2.1 rfl);apply Lq 7 zk rfl
 apply zc PM (lE lc t.left t.lt 0 (grT t 36) w3.drew (a9.left.ext (Ll w3).drew) ho.okl ho.lp d6);rintro _ w5 ⟨rfl,a1⟩;rw[d2];refine zh ?_
 apply ae ⟨a1.cell d4,a1.cell dg,λj u hu=>a1.cell (c7 j u hu)⟩;have a':=aa (S:=λ_=>False) (λh=>h) O3 ((Ll w3).drew.J a1);have h5:=h3.U a' hi hj (λh=>h) (λh=>h);have b7:=a6.U a' zd (λh=>h);have d8:=d9.U a';refine zin ⟨a1.cell d4,a1.cell dg,λj u hu=>a1.cell (c7 j u hu)⟩ λzS=>?_
 apply zr 8 rfl zS (λ_=>ak rfl);apply zrf 9 rfl zS rfl
 apply Lq 10 zk rfl;apply aj (j:=17) h5.blk (h5.at_ 0 rfl) (Lz _) rfl rfl rfl rfl
 obtain⟨h6,b8⟩:=h5.store hi hj d3 0 (nI ((stL t 0 36:Nat):Int)) (wv':=nS) (s':=kD t) rfl h5.win;have b6:=b7.U b8 zd zo;have c6:=TabB.of (t:=t) b6 h6.groups h6.left h6.right;have q1:(w5.setCell ⟨rb,17+0,none⟩ (nI ((stL t 0 36:Nat):Int))).cell? (adr gv 1 36)=some (nI ((grT t 36:Nat):Int)):=by have:=c6.groups.cell (i:=36) (j:=0) zo rfl;rw[ar,c']at this;exact this
 refine zh ?_;apply ae ⟨c6.c4,q1,c6.cl⟩
 apply MC zk;refine zh ?_
 refine af rfl rfl ⟨O3,rb,rfl,h6,(((d0.mono (λ_ h=>zo) hz).J (b0.mono (λ_ h=>h.elim) hz)).J (b9.mono (λ_ h=>zo) hz)).J ((a'.mono (λ_ h=>h.elim) hz).J (b8.mono (λ_ h=>zo) hz)),d8.U b8⟩
def bJ(t:TabM)(s:RunS)(a0:List Int):RunS:=a0.foldl (λs id=>xK t s (bf id)) s
def zb(t:TabM)(a0:List Int):List Bool:=true::closeL t (bJ t (kD t) a0).wait (bJ t (kD t) a0).row++if 0<a0.length then [true]else []
def PartV.free0{w:L3}{cs:List ix}{p:Pv}{tl:List Nat}(h:PartV w cs p tl):FreeL (λ_=>0) w cs:=λv hv=>by
 obtain⟨uv,bv,kv,nv,tv,rfl,h1,h2,h3,h4,h5⟩:=h;simp only[Lk,Lu,or_false]at hv
 rcases hv with rfl|rfl|rfl|rfl|rfl|rfl
 ·exact λa n c e=>by cases e
 ·exact h1.free0 (λx=>by simp)
 ·exact h2.free0 (λx=>by simp)
 ·exact h3.free0 (λx=>by simp)
 ·exact h4.free0 (λx=>by simp)
 exact h5.free0 (λx=>by simp)
def Fa(h:gp w):KM<w.heap.size:=by
 have:=h 0 zd;refine MJ λhn=>?_
 simp[World.cell?,Array.getElem?_eq_none (show w.heap.size<=0 from Nat.le_of_not_lt hn)]at this
def Cu{t:TabM}(a2:Nq w gv t.groups)(a1:PartV w lc t.left t.lt)(a0:PartV w rc t.right t.rt):FreeL (λ_=>0) w (gv::(lc++rc)):=λv hv=>by
 rcases Lk.1 hv with rfl|hv
 ·exact a2.free0 (λx=>by simp)
 rcases Mp.1 hv with hv|hv
 ·exact a1.free0 v hv
 exact a0.free0 v hv
def uc(ts:List R3):∀i,fj ts i<2^i
 |0=>by unfold fj;decide
 |i+1=>by
  have h1:fj ts i<2^(i+1):=Ng (uc ts i) (NU zd (Nat.le_succ i));unfold fj
  split
  ·exact MG h1 (MI zd (Nat.lt_succ_self i))
  exact h1
def FV{g:Gr}(he:∀k,g.en k<=n)(s:List Int):df g s<2^n:=by
 have a0:∀(s:List Int) (b:Nat),b<2^n->s.foldl (λb p=>b ||| iU g p.toNat) b<2^n:=λs=>by
  induction s with
  |nil=>exact λb hb=>hb
  |cons p s ih=>exact λb hb=>ih _ (MG hb (lD he _ 0 (Pn n)))
 exact a0 s 0 (Pn n)
def uO{ts:List Nd}{d:List (List Nat)×List Nat}(h:stM se ts=some d):∀q∈d.2,q<2^ts.length:=λq hq=>by
 unfold stM at h
 split at h
 ·obtain⟨S,hS⟩:=jv h;obtain⟨j,hj,rfl⟩:=cd hq;rw[hS.tel j (by rw[<-hS.tl];exact hj)];exact FV (C6 ts) _
 cases h
def pP(hr:M9 rows a0)(cl:Nat->Nat)(h:∀q∈a0,q<2^n):∀q∈(aV cl rows a0).2,q<2^n:=λq hq=>by
 obtain⟨F,hF⟩:=iC (cl:=cl) (tl:=nth a0) hr.nx (rows.length+1) 0 [0] [] [] (mS hr.pos) zo;obtain⟨j,hj,rfl⟩:=cd hq;have a1:j<F.length:=by have:=hF.tln;change j<(fg _ _ _ _ _ _ _ _).2.length at hj;omega
 have ht:nth (aV cl rows a0).2 j=nth a0 (nth F j):=hF.tel j a1;rw[ht];have:=hF.reps.lt _ (aJ a1);exact h _ (aJ (by rw[hr.tl];exact this))
def IE{a:Nat}(ha:a<65536)(hb:b<65536)(h1:MB (a / 256)=MB (b / 256))(h2:MB (a % 256)=MB (b % 256)):a=b:=by
 have e1:=congrArg Py h1;have e2:=congrArg Py h2;simp only[UInt8.toNat_ofNat']at e1 e2;omega
def yY{i j:Nat}:∀(rows:List (List Nat)),(∀r∈rows,nth r i<65536/\nth r j<65536)->qW rows i=qW rows j->∀r∈rows,nth r i=nth r j
 |[],_,_=>λr hr=>by cases hr
 |a::l,h,he=>by
  have e:[MB (nth a i / 256),MB (nth a i % 256)]++qW l i=[MB (nth a j / 256),MB (nth a j % 256)]++qW l j:=he;simp only[P8,Ny,PU]at e;obtain⟨e1,e2,e3⟩:=e;have ha:=h a (by simp);intro r hr
  rcases Lk.1 hr with rfl|hr
  ·exact IE ha.1 ha.2 e1 e2
  exact yY l (λr hr=>h r (by simp[hr])) e3 r hr
def GS{A B:List (List Nat)}(hA:∀r∈A,nth r i<65536/\nth r j<65536)(hB:∀r∈B,nth r i<65536/\nth r j<65536)(h:lA [A,B] i=lA [A,B] j):(∀r∈A,nth r i=nth r j)/\∀r∈B,nth r i=nth r j:=by
 have h:qW A i++(qW B i++[])=qW A j++(qW B j++[]):=h;rw[Lr,Lr]at h;obtain⟨h1,h2⟩:=Pj h (by rw[mG,mG]);exact⟨yY A hA h1,yY B hB h2⟩
structure PartI(g:List Nat)(many n:Nat)(rows:List (List Nat))(p:Pv):Prop where
 right:dK p=true
 us:p.usual.length=rows.length
 wd:p.width=(many:Int)
 get:∀r,r<rows.length->∀c,c<37->getM p r (nth g c)=((nxD rows r c:Nat):Int)
 lo:∀r,r<rows.length->∀k,k<many->0<=getM p r k/\getM p r k<rows.length
def Af(hg:GrpI g many){a6:List Nat}(hr:M9 rows a6)(hc:∀i j,i<37->j<37->nth g i=nth g j->∀r∈rows,nth r i=nth r j):PartI g many rows.length rows (cZ g many rows):=by
 have a2:=nc hg hr;have a8:=hg.le;have a7:(lP g many rows).length=rows.length:=by simp[lP]
 have a5:∀r,r<rows.length->nth (lP g many rows) r=ints (lz g many (nth rows r)):=λr a0=>by
  unfold lP;rw[cz (by simpa using a0),cz a0]
 have a3:∀r,r<rows.length->(nth (lP g many rows) r).length=many:=λr a0=>by rw[a5 r a0];simp[oQ]
 obtain⟨s1,_,_,_,s5,_⟩:=nh (many:Int) (lP g many rows) (λr a0=>by
  obtain⟨j,hj,rfl⟩:=cd a0
  rw[a3 j zo];omega)
 have a1:∀r,r<rows.length->∀k,k<many->getM (cZ g many rows) r k=((nth (lz g many (nth rows r)) k:Nat):Int):=λr a0 k hk=>by
  unfold cZ;rw[DE _ _ r k zo (by rw[a3 r a0];exact hk),a5 r a0,cz (by rw[oQ];exact hk)]
 refine⟨yk _ _ a2,by show(jc _ _).usual.length=_;rw[s1];simpa using a7,s5,λr a0 c a4=>?_,λr a0 k hk=>?_⟩
 ·rw[a1 r a0 _ (hg.lt c a4),yz hg (λi j hi hj e=>hc i j hi hj e _ (aJ a0)) a4];rfl
 rw[a1 r a0 k hk];obtain⟨i,hi,rfl⟩:=hg.hit k hk;rw[yz hg (λi j hi hj e=>hc i j hi hj e _ (aJ a0)) hi];have:=(hr.row r a0).2 i hi;omega
def Jk{n:Int}(h:∀x∈l,x<n)(h0:nth l 0<n):Jl l<n:=by
 have a0:∀(l:List Int) (m:Int),(∀x∈l,x<n)->m<n->l.foldl max m<n:=λl=>by
  induction l with
  |nil=>exact λm _ hm=>hm
  |cons a l ih=>exact λm h hm=>ih _ (λx hx=>h x (by simp[hx])) (by have:=h a (by simp);omega)
 exact a0 l _ h h0
def AF{rules:Nat}{a4:List Nat}{p:Pv}(hp:PartI g many n rows p)(hm:1<=many)(hr:M9 rows a4)(ht:∀q∈a4,q<2^rules):mC p a4 many rules=true:=by
 obtain⟨f1,f2⟩:=si p;have a8:=hr.pos;have a7:=hr.tl;have a6:=hp.us;unfold mC;rw[hp.right,hp.wd,f1,a6,a7];have a1:jZ (λi=>!(nth a4 i / 2^rules==0)) rows.length=false:=bD.2 λi hi=>by
  rw[MV (ht _ (aJ zo))];rfl
 have a2:jZ (λi=>decide (((rows.length:Nat):Int)<=Jl (nth (im p) i))) rows.length=false:=bD.2 λi hi=>by
  have a0:nth (im p) i=FN p i:=by unfold im;rw[iy _ _ _ zo]
  have a5:p.width.toNat=many:=by rw[hp.wd];rfl
  have a3:∀k,k<many->nth (FN p i) k<rows.length:=λk hk=>by
   unfold FN;rw[a5,aB (xs:=List.map (getM p i) (M0 many)) (by simpa using hk),Nv,Nc];exact(hp.lo i hi k hk).2
  refine decide_eq_false (Int.not_le.2 (Jk (λx hx=>?_) ?_))
  ·rw[a0]at hx;obtain⟨k,hk,rfl⟩:=cd hx;exact a3 k (by unfold FN at hk;rw[a5]at hk;simpa using hk)
  rw[a0];exact a3 0 hm
 have h0:(rows.length==0)=false:=beq_eq_false_iff_ne.2 zo;rw[a1,a2,h0];simp
structure TabI(t:TabM)(A B:List (List Nat)×List Nat):Prop where
 right:lQ t=true
 ok:OkT t
 left:∀r c,r<A.1.length->c<37->stL t r c=nxD A.1 r c
 rght:∀r c,r<B.1.length->c<37->stR t r c=nxD B.1 r c
 ll:t.left.usual.length=A.1.length
 rl:t.right.usual.length=B.1.length
def IH{ts:List R3}{B:List (List Nat)×List Nat}(a8:dE li lk ts=true)(hA:M9 A.1 A.2)(hB:M9 B.1 B.2)(tA:∀q∈A.2,q<2^ts.length)(tB:∀q∈B.2,q<2^ts.length):TabI (pg li lk ts A B) A B:=by
 obtain⟨r1,r2,r3,r4⟩:=cL a8;obtain⟨many,hg,a5⟩:=nJ [A.1,B.1];have a2:=hg.pos;have b0:=hg.le;have a4:=hg.len;have a3:∀ {rows:List (List Nat)} {a7:List Nat},M9 rows a7->∀i,i<37->∀r∈rows,nth r i<65536:=fun {rows a7} h i hi r hr=>by
  obtain⟨j,hj,rfl⟩:=cd hr;have h1:=(h.row j hj).2 i hi;have h2:=h.le;omega
 have hc:∀i j,i<37->j<37->nth (bB [A.1,B.1]) i=nth (bB [A.1,B.1]) j->(∀r∈A.1,nth r i=nth r j)/\∀r∈B.1,nth r i=nth r j:=λi j hi hj e=>
  GS (λr hr=>⟨a3 hA i hi r hr,a3 hA j hj r hr⟩) (λr hr=>⟨a3 hB i hi r hr,a3 hB j hj r hr⟩) ((a5 i j hi hj).1 e)
 have a1:=hg.cnt;have iL:=Af hg hA (λi j hi hj e=>(hc i j hi hj e).1);have iR:=Af hg hB (λi j hi hj e=>(hc i j hi hj e).2);have fL:=AF iL a2 hA tA;have fR:=AF iR a2 hB tB;have e1:(pg li lk ts A B).left=cZ (bB [A.1,B.1]) many A.1:=by rw[uL,a1]
 have e2:(pg li lk ts A B).right=cZ (bB [A.1,B.1]) many B.1:=by rw[ri,a1]
 have e3:(pg li lk ts A B).groups=ints (bB [A.1,B.1]):=rfl;have gr:∀c,c<37->nth (pg li lk ts A B).groups c=((nth (bB [A.1,B.1]) c:Nat):Int):=λc hc=>by rw[e3,cz zo]
 have gt:∀c,c<37->grT (pg li lk ts A B) c=nth (bB [A.1,B.1]) c:=λc hc=>by unfold grT;rw[gr c hc];rfl
 have a6:∀q:Nat,q<2^ts.length->q<2^40:=λq hq=>Ng hq (NU zd r1)
 have a':=hA.tl;have a9:=hB.tl;have pA:=hA.pos;have pB:=hB.pos;refine⟨?_,⟨okP _ (by rw[e1];exact iL.right),okP _ (by rw[e2];exact iR.right),by rw[e3];simpa using a4,λc a0=>?_,by rw[e1,iL.us];exact a',by rw[e2,iR.us];exact a9,by rw[e1,iL.us];exact pA,by rw[e2,iR.us];exact pB,λr c hr a0=>?_,λr c hr a0=>?_,mY r2,mY r3,a6 _ (uc ts _),λq hq=>a6 q (tA q hq),λq hq=>a6 q (tB q hq)⟩,λr c hr a0=>?_,λr c hr a0=>?_,by rw[e1,iL.us],by rw[e2,iR.us]⟩
 ·unfold lQ;have q1:(pg li lk ts A B).ig / 2^36=0:=MV (mY r2);have q2:(pg li lk ts A B).kp / 2^36=0:=MV (mY r3);have q3:(pg li lk ts A B).rules.toNat=ts.length:=rfl;have q4:(pg li lk ts A B).br / 2^ts.length=0:=MV (uc ts _);have q5:fZ (pg li lk ts A B).groups=many:=by rw[e3,a1]
  have q6:(pg li lk ts A B).rules=(ts.length:Int):=rfl;rw[q1,q2,q3,q4,q5,q6,e1,e2,Cw,Cv,fL,fR,decide_eq_false zo,decide_eq_false zo,beq_eq_false_iff_ne.2 zo];rfl
 ·rw[gr c a0];have:=hg.lt c a0;omega
 ·rw[e1]at hr ⊢;rw[iL.us]at hr ⊢;rw[gt c a0,iL.get r hr c a0];have:=(hA.row r hr).2 c a0;unfold nxD;omega
 ·rw[e2]at hr ⊢;rw[iR.us]at hr ⊢;rw[gt c a0,iR.get r hr c a0];have:=(hB.row r hr).2 c a0;unfold nxD;omega
 ·unfold stL;rw[e1,gt c a0,iL.get r hr c a0];rfl
 unfold stR;rw[e2,gt c a0,iR.get r hr c a0];rfl
def F9(rows:List (List Nat))(u v:List Nat)(q:Nat):kN rows (u++v) q=kN rows v (kN rows u q):=P4
def Dl{cl:Nat->Nat}(hr:M9 rows a0)(a4:Q2 cl (rows,a0)):∃F,LI cl (nxD rows) (nth a0) rows.length F.length F (aV cl rows a0).1 (aV cl rows a0).2/\
  ∀(w:List Nat),(∀m∈w,m<37)->∀p q,p<F.length->q<rows.length->cl (nth F p)=cl q->kN (aV cl rows a0).1 w p<F.length/\kN rows w q<rows.length/\cl (nth F (kN (aV cl rows a0).1 w p))=cl (kN rows w q):=by
 obtain⟨F,hF⟩:=iC (cl:=cl) (tl:=nth a0) hr.nx (rows.length+1) 0 [0] [] [] (mS hr.pos) zo;refine⟨F,hF,λw=>?_⟩;have a6:LI cl (nxD rows) (nth a0) rows.length F.length F (aV cl rows a0).1 (aV cl rows a0).2:=hF;generalize aV cl rows a0=L at *
 induction w with
 |nil=>exact λ_ p q hp hq he=>⟨hp,hq,he⟩
 |cons m w ih=>
  intro hw p q hp hq he;have hm:=hw m (by simp);obtain⟨a1,a2⟩:=(a6.row p hp).2 m hm;have a5:=a6.reps.lt _ (aJ hp);have a3:=hr.nx q m hq hm;have a7:Alike (nxD rows) (nth a0) (nth F p) q:=(a4 _ _ a5 hq).1 he;exact ih (λx hx=>hw x (by simp[hx])) _ _ a1 a3 (a2.J ((a4 _ _ (hr.nx _ m a5 hm) a3).2 (a7.step hm)))
def uG{ts:List Nd}{cl:Nat->Nat}(h:stM se ts=some a)(hs:aU ts=true)(hr:M9 a.1 a.2)(a1:Q2 cl a)(w:List Nat)(hw:∀m∈w,m<37):
  kN (aV cl a.1 a.2).1 w 0<(aV cl a.1 a.2).1.length/\∀i,(nth (aV cl a.1 a.2).2 (kN (aV cl a.1 a.2).1 w 0)).testBit i=true↔i<ts.length/\∃u v,ints w=u++v/\(se=true\/u=[])/\Lg (nth ts i) v:=by
 obtain⟨F,hF,a0⟩:=Dl (cl:=cl) hr a1;obtain⟨c1,c2,c3⟩:=a0 w hw 0 0 hF.p0 hr.pos (by rw[hF.fst]);refine⟨by rw[hF.rl];exact c1,λi=>?_⟩;have hd:D2 (cD se (dy ts)) (df (dy ts))=some a:=by
  unfold stM at h
  split at h
  ·exact h
  cases h
 obtain⟨S,hS⟩:=jv hd;obtain⟨s1,s2⟩:=zY hS w hw 0 hS.p0;have a3:=(a1 _ _ (hF.reps.lt _ (aJ c1)) c2).1 c3;have a2:nth (aV cl a.1 a.2).2 (kN (aV cl a.1 a.2).1 w 0)=nth a.2 (kN a.1 w 0):=by
  rw[hF.tel _ c1];exact a3 [] (λm hm=>by cases hm)
 have a4:w.foldl (λs (m:Nat)=>cD se (dy ts) s (m:Int)) (nth S 0)=FM (cD se (dy ts)) (ints w):=by
  unfold FM;rw[hS.fst,List.foldl_map]
 rw[a2,hS.tel _ s1,s2,a4];exact A4 hs (iV se (dy ts)) (ints w) i
def Ao:∀(l:List Nd) (s:Bool) (acc:Int),0<=acc->0<=cT s acc l->acc<=cT s acc l
 |[],_,acc,_,_=>by unfold cT;exact MS _
 |t::r,s,acc,h0,h=>by
  unfold cT at h ⊢
  split at h
  ·omega
  rename_i hn;rw[am hn];have a0:acc<=if s=true then acc+ct t else max acc (ct t):=by split<;>omega
  exact Int.le_trans a0 (Ao r s _ zo h)
mutual
def yH:∀(t:Nd) (w:List Int),Lg t w->0<=ct t->(w.length:Int)<=ct t
 |.mk k c l,w,h,h0=>by
  unfold ct at h0 ⊢
  unfold Lg at h
  by_cases h67:k=6\/k=7
  ·rw[ap h67]at h0;omega
  rw[am h67]at h0 ⊢
  by_cases h9:k=9
  ·subst h9
   simp at h
   rw[ap rfl,h];exact MS _
  rw[am h9]at h0 ⊢
  by_cases h4:k=4
  ·subst h4
   simp at h
   rw[ap (.inl rfl)]at h0 ⊢
   have:=Ap l w 0 h (MS _) h0
   simpa using this
  by_cases h5:k=5
  ·subst h5
   simp at h
   rw[ap (.inr (.inl rfl))]at h0 ⊢
   exact tF l w 0 h (MS _) h0
  by_cases h8:k=8
  ·subst h8
   simp at h
   rw[ap (.inr (.inr rfl))]at h0 ⊢
   rcases h with rfl|h
   ·exact h0
   exact tF l w 0 (by
    cases l with
    |nil=>exact h.elim
    |cons t r=>exact .inl h) (MS _) h0
  have h6:¬k=6:=λe=>h67 (.inl e)
  have h7:¬k=7:=λe=>h67 (.inr e)
  rw[am h4,am h5,am h6,am h7,am h8,am h9]at h
  obtain⟨m,rfl,_⟩:=h
  rw[am zo]
  exact MS _
def Ap:∀(l:List Nd) (w:List Int) (acc:Int),Q7 l w->0<=acc->0<=cT true acc l->acc+w.length<=cT true acc l
 |[],w,acc,h,_,_=>by
  unfold Q7 at h
  subst h
  unfold cT
  simp
 |t::r,w,acc,h,ha,h0=>by
  unfold Q7 at h
  unfold cT at h0 ⊢
  obtain⟨u,v,rfl,hu,hv⟩:=h
  split at h0
  ·omega
  rename_i hn
  rw[am hn]
  rw[ap rfl]at h0 ⊢
  have h1:=yH t u hu zo
  have h2:=Ap r v _ hv zo h0
  rw[Lo]
  omega
def tF:∀(l:List Nd) (w:List Int) (acc:Int),Q0 l w->0<=acc->0<=cT false acc l->(w.length:Int)<=cT false acc l
 |[],w,acc,h,_,_=>by unfold Q0 at h;exact h.elim
 |t::r,w,acc,h,ha,h0=>by
  unfold Q0 at h
  unfold cT at h0 ⊢
  split at h0
  ·omega
  rename_i hn
  rw[am hn]
  rw[am zd]at h0 ⊢
  rcases h with h|h
  ·have h1:=yH t w h zo
   have h2:=Ao r false (max acc (ct t)) zo h0
   omega
  exact tF r w _ h zo h0
end
def Gt{t:Nd}(h:dG t=0){w:List Int}(hw:Lg t w):w.length<=4:=by
 unfold dG at h
 split at h
 ·omega
 split at h
 ·omega
 rename_i hn;simp only[MA,not_or,Bool.not_eq_true',decide_eq_true_eq]at hn;obtain⟨h1,h2⟩:=hn;have hb:vB t=true:=by simpa using h1
 have a0:=hb;unfold vB at a0;rw[LN]at a0;have h3:=of_decide_eq_true a0.2;have h4:=yH t w hw h3;unfold vA at h2;rw[ap a0.1]at h2;omega
def gJ:List En->List Nat
 |[]=>[]
 |(c,h)::r=>if h=true then gJ r else c::gJ r
def IC{l:List En}(h:∀x∈l,x.1<n):∀m∈gJ l,m<n:=by
 induction l with
 |nil=>exact λm hm=>by cases hm
 |cons x r ih=>
  obtain⟨c,hd⟩:=x;intro m hm;unfold gJ at hm
  split at hm
  ·exact ih (λy hy=>h y (by simp[hy])) m hm
  rcases Lk.1 hm with rfl|hm
  ·exact h (m,hd) (by simp)
  exact ih (λy hy=>h y (by simp[hy])) m hm
def ye{t:TabM}{A B:List (List Nat)×List Nat}(hI:TabI t A B)(hB:M9 B.1 B.2)(i:Nat):∀(l:List En) (row a0 a1:Nat),(∀x∈l,x.1<36)->row<B.1.length->a0<=4->
  ((rwL t l row a0 a1).testBit i=true↔a1.testBit i=true\/∃k,0<k/\k<=(gJ l).length/\a0+k<=4/\(nth t.rt (kN B.1 ((gJ l).take k) row)).testBit i=true)
 |[],row,a0,a1,_,_,_=>by
  unfold rwL gJ
  constructor
  ·exact .inl
  rintro(h|⟨k,h1,h2,_⟩)
  ·exact h
  simp at h2;omega
 |(c,hd)::r,row,a0,a1,hc,hrow,hseen=>by
  have a2:∀x∈r,x.1<36:=λx hx=>hc x (by simp[hx])
  have a4:c<36:=hc (c,hd) (by simp);unfold rwL gJ
  by_cases hh:hd=true
  ·rw[ap hh,ap hh];exact ye hI hB i r row a0 a1 a2 hrow hseen
  rw[am hh,am hh]
  by_cases h4:a0=4
  ·rw[ap h4]
   constructor
   ·exact .inl
   rintro(h|⟨k,h1,_,h3,_⟩)
   ·exact h
   omega
  have a3:=hI.rght row c hrow zo;have hn:=hB.nx row c hrow zo;rw[am h4,a3,ye hI hB i r _ _ _ a2 hn zo,NH,MA]
  constructor
  ·rintro((h|h)|⟨k,h1,h2,h3,h5⟩)
   ·exact .inl h
   ·exact .inr ⟨1,zd,by simp,zo,h⟩
   exact .inr ⟨k+1,zo,by simpa using h2,zo,h5⟩
  rintro(h|⟨k,h1,h2,h3,h5⟩)
  ·exact .inl (.inl h)
  cases k with
  |zero=>omega
  |succ k=>
   cases k with
   |zero=>exact .inl (.inr h5)
   |succ k=>exact .inr ⟨k+1,zo,by simpa using h2,zo,h5⟩
def Bf{t:TabM}{B:List (List Nat)×List Nat}(hI:TabI t A B)(hB:M9 B.1 B.2)(i:Nat)(l:List En)(hl:∀x∈l,x.1<36):
  (ff t l).testBit i=true↔∃k,k<=(gJ l).length/\k<=4/\(nth t.rt (kN B.1 ((gJ l).take k) 0)).testBit i=true:=by
 unfold ff;rw[ye hI hB i l 0 0 _ hl hB.pos zd]
 constructor
 ·rintro(h|⟨k,_,h2,h3,h4⟩)
  ·exact⟨0,Li _,Li _,h⟩
  exact⟨k,h2,zo,h4⟩
 rintro⟨k,h2,h3,h4⟩
 cases k with
 |zero=>exact .inl h4
 |succ k=>exact .inr ⟨k+1,zo,h2,zo,h4⟩
def GR{x:Nat}(h0:x≠0)(h:x<2^64):x.testBit (MY 64 x)=true/\∀j,j<MY 64 x->x.testBit j=false:=by
 obtain⟨m,e,_⟩:=Lib.ctzFrom_spec 64 x zo h;have hc:MY 64 x=PJ 64 x:=by unfold MY;rw[am h0]
 rw[hc];generalize PJ 64 x=c at *;subst e;refine⟨?_,λj hj=>?_⟩
 ·rw[NK,Nat.sub_self,decide_eq_true (M7 c),Nb,Nat.testBit_zero];exact decide_eq_true zo
 rw[NK,decide_eq_false zo,Bool.false_and]
def ly(ts:List R3)(a0 after:List Nat)(i:Nat):Prop:=i<ts.length/\(∃u v,ints a0=u++v/\Lg (nth (fM ts) i) v)/\∃u v,ints after=u++v/\Lg (nth (cR ts) i) u
def FirstR(ts:List R3)(a0 after:List Nat)(k:Int):Prop:=(k = -1/\∀i,¬ly ts a0 after i)\/∃i:Nat,k=i/\ly ts a0 after i/\∀j,j<i->¬ly ts a0 after j
def FirstR.uniq{ts:List R3}{b a:List Nat}{k k':Int}(h:FirstR ts b a k)(h':FirstR ts b a k'):k=k':=by
 rcases h with⟨rfl,h⟩|⟨i,rfl,h1,h2⟩<;>rcases h' with⟨rfl,h'⟩|⟨i',rfl,a0,a1⟩
 ·rfl
 ·exact absurd a0 (h i')
 ·exact absurd h1 (h' i)
 rcases Nat.lt_trichotomy i i' with h3|h3|h3
 ·exact absurd h1 (a1 i h3)
 ·rw[h3]
 exact absurd a0 (h2 i' h3)
def uQ{ts:List Nd}(h:∀t∈ts,aZ t=true):aU ts=true:=by
 induction ts with
 |nil=>rfl
 |cons t r ih=>
  unfold aU;rw[(gT (h t (by simp))).2.1,ih (λx hx=>h x (by simp[hx]))];rfl
structure Made(li lk:List Int)(ts:List R3)(a b:List (List Nat)×List Nat)(clA clB:Nat->Nat):Prop where
 rt:dE li lk ts=true
 sa:stM true (fM ts)=some a
 sb:stM false (cR ts)=some b
 ra:M9 a.1 a.2
 rb:M9 b.1 b.2
 ca:Q2 clA a
 cb:Q2 clB b
abbrev bF(li lk:List Int)(ts:List R3)(a b:List (List Nat)×List Nat)(a1 a0:Nat->Nat):TabM:=pg li lk ts (aV a1 a.1 a.2) (aV a0 b.1 b.2)
section
variable{li lk:List Int}{ts:List R3}{a b:List (List Nat)×List Nat}{clA clB:Nat→Nat}
def Made.inv(h:Made li lk ts a b clA clB):TabI (bF li lk ts a b clA clB) (aV clA a.1 a.2) (aV clB b.1 b.2):=
 IH h.rt (dL h.ra clA) (dL h.rb clB) (pP h.ra clA (by have:=uO h.sa;rwa[M5]at this)) (pP h.rb clB (by have:=uO h.sb;rwa[M5]at this))
def Made.rules(h:Made li lk ts a b clA clB):∀t∈ts,aZ t.1=true/\aZ t.2.1=true/\dG t.2.1=0:=λt ht=>by
 have:=(cL h.rt).2.2.2 t ht;unfold lM at this;simp only[LN,beq_iff_eq]at this;exact⟨this.1.1,this.1.2,this.2⟩
def Made.left(h:Made li lk ts a b clA clB)(w:List Nat)(hw:∀m∈w,m<37):kN (aV clA a.1 a.2).1 w 0<(aV clA a.1 a.2).1.length/\
  ∀i,(nth (aV clA a.1 a.2).2 (kN (aV clA a.1 a.2).1 w 0)).testBit i=true↔i<ts.length/\∃u v,ints w=u++v/\Lg (nth (fM ts) i) v:=by
 have hs:aU (fM ts)=true:=uQ λt ht=>by
  obtain⟨x,hx,rfl⟩:=MK.1 ht;exact(h.rules x hx).1
 obtain⟨h1,h2⟩:=uG h.sa hs h.ra h.ca w hw;refine⟨h1,λi=>?_⟩;rw[h2 i,M5];exact and_congr_right λ_=>⟨fun⟨u,v,e,_,hv⟩=>⟨u,v,e,hv⟩,fun⟨u,v,e,hv⟩=>⟨u,v,e,.inl rfl,hv⟩⟩
def Made.right(h:Made li lk ts a b clA clB)(l:List En)(hl:∀x∈l,x.1<36)(i:Nat):(ff (bF li lk ts a b clA clB) l).testBit i=true↔i<ts.length/\∃u v,ints (gJ l)=u++v/\Lg (nth (cR ts) i) u:=by
 have hs:aU (cR ts)=true:=uQ λt ht=>by
  obtain⟨x,hx,rfl⟩:=MK.1 ht;exact(h.rules x hx).2.1
 have hv:=IC hl;rw[Bf h.inv (dL h.rb clB) i l hl];have a0:∀k,(nth (bF li lk ts a b clA clB).rt (kN (aV clB b.1 b.2).1 ((gJ l).take k) 0)).testBit i=true↔i<ts.length/\Lg (nth (cR ts) i) (ints ((gJ l).take k)):=λk=>by
  have:=(uG h.sb hs h.rb h.cb ((gJ l).take k) (λm hm=>by have:=hv m (List.mem_of_mem_take hm);omega)).2 i;rw[M5]at this;refine this.J (and_congr_right λ_=>⟨?_,λhL=>⟨[],_,rfl,.inr rfl,hL⟩⟩);rintro⟨u,v,e,hu,hL⟩
  rcases hu with hu|rfl
  ·cases hu
  rw[e];exact hL
 constructor
 ·rintro⟨k,h1,h2,h3⟩;obtain⟨h4,h5⟩:=(a0 k).1 h3;exact⟨h4,ints ((gJ l).take k),ints ((gJ l).drop k),by unfold ints;rw[<-Mz,N1],h5⟩
 rintro⟨h1,u,v,e,h2⟩;have hi:i<(cR ts).length:=by rw[M5];exact h1
 have h4:u.length<=4:=Gt (by
  rw[cz h1]
  exact(h.rules _ (aJ h1)).2.2) h2
 have a1:u.length<=(gJ l).length:=by have:=congrArg MH e;rw[Lo]at this;unfold ints at this;rw[M5]at this;omega
 refine⟨u.length,a1,h4,(a0 _).2 ⟨h1,?_⟩⟩;have:ints ((gJ l).take u.length)=u:=by
  unfold ints at e ⊢;rw[List.map_take,e,Nx];rfl
 rw[this];exact h2
def Made.which(h:Made li lk ts a b clA clB)(a0:List Nat)(hb:∀m∈a0,m<37)(s:RunS)(hs:OkS (bF li lk ts a b clA clB) s)(a2:s.row=kN (aV clA a.1 a.2).1 a0 0):FirstR ts a0 (gJ s.wait) (dP (bF li lk ts a b clA clB) s):=by
 have hl:=(h.left a0 hb).2;have hr:=h.right s.wait hs.wait;have hi:=h.inv;have a3:=pF hi.ok hs;unfold dP;have a4:(bF li lk ts a b clA clB).lt=(aV clA a.1 a.2).2:=rfl;rw[a4,a2];generalize ff (bF li lk ts a b clA clB) s.wait=R at *;generalize nth (aV clA a.1 a.2).2 (kN (aV clA a.1 a.2).1 a0 0)=L at *;have a1:∀i,(L &&& R).testBit i=true↔ly ts a0 (gJ s.wait) i:=λi=>by
  rw[Nat.testBit_and,LN,hl i,hr i];unfold ly;exact⟨fun⟨⟨h1,h2⟩,_,h3⟩=>⟨h1,h2,h3⟩,fun⟨h1,h2,h3⟩=>⟨⟨h1,h2⟩,h1,h3⟩⟩
 have a5:L &&& R<2^64:=Nh Pg (Nat.lt_trans a3 zd)
 split
 ·rename_i h0;exact .inl ⟨rfl,λi hA=>by have:=(a1 i).2 hA;rw[h0]at this;simp at this⟩
 rename_i h0;obtain⟨c1,c2⟩:=GR h0 a5;exact .inr ⟨_,rfl,(a1 _).1 c1,λj hj hA=>by have:=(a1 j).2 hA;rw[c2 j hj]at this;cases this⟩
end
def AO(ts:List R3)(i:Nat):∀n,(fj ts n).testBit i=(decide (i<n)&&(nth ts i).2.2)
 |0=>by unfold fj;simp
 |n+1=>by
  have ih:=AO ts i n;unfold fj
  by_cases hb:(nth ts n).2.2=true
  ·rw[ap hb,NH,ih,NZ]
   by_cases e:n=i
   ·subst e;rw[hb];simp
   rw[decide_eq_false e,Bool.or_false];congr 1;exact decide_eq_decide.2 zo
  rw[am hb,ih]
  by_cases e:n=i
  ·subst e;rw[show(nth ts n).2.2=false from by simpa using hb];simp
  congr 1;exact decide_eq_decide.2 zo
def brk(ts:List R3)(k:Int):Bool:=decide (k<0)||(nth ts k.toNat).2.2
def sQ(l r:List En):gJ (l++r)=gJ l++gJ r:=by
 induction l with
 |nil=>rfl
 |cons x l ih=>
  obtain⟨c,h⟩:=x
  cases h with
  |true=>exact ih
  |false=>exact congrArg (c :: ·) ih
section
variable{li lk:List Int}{ts:List R3}{a b:List (List Nat)×List Nat}{clA clB:Nat→Nat}
def Made.stepL(h:Made li lk ts a b clA clB)(x:En)(hx:x.1<36)(a0:List Nat)(hb:∀m∈a0,m<37):stepL (bF li lk ts a b clA clB) (kN (aV clA a.1 a.2).1 a0 0) x=kN (aV clA a.1 a.2).1 (a0++gJ [x]) 0/\∀m∈a0++gJ [x],m<37:=by
 obtain⟨c,hd⟩:=x;have a1:=(h.left a0 hb).1;unfold Go.Proofs.YtcfhbfflgnbacaaGreatDoor.stepL gJ
 by_cases hh:hd=true
 ·rw[ap hh,ap hh];unfold gJ;rw[Lr];exact⟨rfl,hb⟩
 rw[am hh,am hh];unfold gJ;refine⟨?_,λm hm=>?_⟩
 ·rw[h.inv.left _ c a1 (by show c<37;simp at hx;omega),F9];rfl
 rcases Mp.1 hm with hm|hm
 ·exact hb m hm
 rw[ln.1 hm];simp at hx;omega
def Made.passB(h:Made li lk ts a b clA clB)(l:List En)(x:En)(hl:∀y∈l,y.1<36)(hf:l.length<=1000000)(a0:List Nat)(hb:∀m∈a0,m<37):
  FirstR ts a0 (gJ l) (dP (bF li lk ts a b clA clB) (qL (kN (aV clA a.1 a.2).1 a0 0) l))/\
  Go.Proofs.YtcfhbfflgnbacaaGreatDoor.passB (bF li lk ts a b clA clB) (qL (kN (aV clA a.1 a.2).1 a0 0) l) x=(!x.2&&brk ts (dP (bF li lk ts a b clA clB) (qL (kN (aV clA a.1 a.2).1 a0 0) l))):=by
 have a1:=(h.left a0 hb).1;have hk:=h.which a0 hb (qL (kN (aV clA a.1 a.2).1 a0 0) l) ⟨by show _<(bF li lk ts a b clA clB).left.usual.length;rw[h.inv.ll];exact a1,hl,by show 0<36;decide,hf⟩ rfl;refine⟨hk,?_⟩;unfold Go.Proofs.YtcfhbfflgnbacaaGreatDoor.passB brk;have a2:FirstR ts a0 (gJ l) (dP (bF li lk ts a b clA clB) (qL (kN (aV clA a.1 a.2).1 a0 0) l)):=hk;generalize dP (bF li lk ts a b clA clB) (qL (kN (aV clA a.1 a.2).1 a0 0) l)=k at *
 rcases a2 with⟨rfl,_⟩|⟨i,rfl,h1,_⟩
 ·rfl
 have a3:(bF li lk ts a b clA clB).br=fj ts ts.length:=rfl;rw[a3,AO,Nr,decide_eq_true h1.1,Nb]
def Made.closeL(h:Made li lk ts a b clA clB):∀(l:List En) (a0:List Nat),(∀m∈a0,m<37)->(∀y∈l,y.1<36)->l.length<=1000000->∀i,i<l.length->
  ∃k,FirstR ts (a0++gJ (l.take i)) (gJ (l.drop i)) k/\nth (closeL (bF li lk ts a b clA clB) l (kN (aV clA a.1 a.2).1 a0 0)) i=(!(nth l i).2&&brk ts k)
 |[],_,_,_,_,i,hi=>absurd hi (M6 i)
 |x::r,a0,hb,hl,hf,i,hi=>by
  obtain⟨s1,s2⟩:=h.stepL x (hl x (by simp)) a0 hb;unfold Go.Proofs.YtcfhbfflgnbacaaGreatDoor.closeL
  cases i with
  |zero=>
   obtain⟨p1,p2⟩:=h.passB (x::r) x hl hf a0 hb;refine⟨dP (bF li lk ts a b clA clB) (qL (kN (aV clA a.1 a.2).1 a0 0) (x::r)),?_,?_⟩
   ·rw[Po,Pq];show FirstR ts (a0++[]) _ _;rw[Lr];exact p1
   rw[ao,ao];exact p2
  |succ i=>
   rw[aW,aW,s1];obtain⟨k,k1,k2⟩:=Made.closeL h r (a0++gJ [x]) s2 (λy hy=>hl y (by simp[hy])) (by simp at hf;omega) i (by simpa using hi);refine⟨k,?_,k2⟩;rw[List.take_succ_cons,List.drop_succ_cons,show x::r.take i=[x]++r.take i from rfl,sQ,<-M4];exact k1
end
def rY(t:TabM):En->List Int->List En
 |_,[]=>[]
 |last,c::r=>(bf c,t.ig.testBit (bf c)&&(last.2 || !(t.kp.testBit last.1)))::rY t (bf c,t.ig.testBit (bf c)&&(last.2 || !(t.kp.testBit last.1))) r
def lR(t:TabM):∀(a0:List Int) (s:RunS),s.begun=true->(bJ t s a0).wait=s.wait++rY t s.last a0/\(bJ t s a0).row=s.row
 |[],s,_=>⟨by unfold rY;rw[Lr];rfl,rfl⟩
 |c::r,s,hb=>by
  have e:xK t s (bf c) = {s with last:=(bf c,FQ t s (bf c)),wait:=s.wait++[(bf c,FQ t s (bf c))]}:=by unfold xK;rw[ap hb]
  obtain⟨h1,h2⟩:=lR t r (xK t s (bf c)) (by rw[e];exact hb);have e2:bJ t s (c::r)=bJ t (xK t s (bf c)) r:=rfl;rw[e2,h1,h2,e];refine⟨?_,rfl⟩;rw[rY,M4];rfl
def vg(t:TabM)(c:Int)(r:List Int):(bJ t (kD t) (c::r)).wait=rY t (bf c,false) r/\(bJ t (kD t) (c::r)).row=stL t (stL t 0 36) (bf c):=by
 have e2:bJ t (kD t) (c::r)=bJ t (xK t (kD t) (bf c)) r:=rfl;have e:xK t (kD t) (bf c) = {kD t with begun:=true,last:=(bf c,false),row:=stL t (stL t 0 36) (bf c)}:=rfl;obtain⟨h1,h2⟩:=lR t r (xK t (kD t) (bf c)) rfl;rw[e2,h1,h2,e];exact⟨rfl,rfl⟩
def oT(t:TabM):∀(l:List Int) (e:En),(rY t e l).length=l.length
 |[],_=>rfl
 |c::r,e=>by rw[rY,LL,oT t r,LL]
def DB(t:TabM):∀(l:List Int) (e:En),∀x∈rY t e l,x.1<36
 |[],_,x,hx=>by cases hx
 |c::r,e,x,hx=>by
  rw[rY]at hx
  rcases Lk.1 hx with rfl|hx
  ·exact jy c
  exact DB t r _ x hx
def xO(li lk ids:List Int):Nat->Bool
 |0=>false
 |i+1=>decide (((bf (nth ids (i+1)):Nat):Int)∈li)&&(xO li lk ids i || !(decide (((bf (nth ids i):Nat):Int)∈lk)))
def Lv(k c m:Int):Bool:=
 if k=0 then m==c else if k=1 then decide (0<=m)&&decide (m<=35)else if k=2 then(decide (0<=m)&&decide (m<=35))&&(m != c)else(k==3)&&(m==36)
def Kf(f g:Nat->Nat->Bool)(i k j:Nat):Bool:=(M0 k).any λt=>f i t&&g t j
abbrev Tb:=Nat->Nat->Bool
def seg(ms:List Int)(i j:Nat):List Int:=(ms.drop i).take (j-i)
def pz(ms:List Int)(h:i<=j)(hj:j<=ms.length):(seg ms i j).length=j-i:=by simp[seg];omega
def qG(ms:List Int)(i:Nat):seg ms i i=[]:=by simp[seg]
def yd(ms:List Int)(h1:i<=m)(h2:m<=j):seg ms i j=seg ms i m++seg ms m j:=by
 unfold seg;obtain⟨a,rfl⟩:∃a,m=i+a:=⟨m-i,zo⟩
 obtain⟨b,rfl⟩:∃b,j=i+a+b:=⟨j-(i+a),zo⟩
 rw[show i+a+b-i=a+b from by omega,show i+a-i=a from by omega,show i+a+b-(i+a)=b from by omega,List.take_add,Pr]
def uS(h:i<=j)(hj:j<=ms.length){u v:List Int}(e:seg ms i j=u++v):i+u.length<=j/\u=seg ms i (i+u.length)/\v=seg ms (i+u.length) j:=by
 have hl:=congrArg MH e;rw[pz ms h hj,Lo]at hl;have h1:i+u.length<=j:=zo;have e2:=yd ms (show i<=i+u.length by omega) h1;rw[e]at e2;obtain⟨e3,e4⟩:=Pj e2 (by rw[pz ms zo zo];omega);exact⟨h1,e3,e4⟩
def IN(h:i<ms.length):seg ms i (i+1)=[nth ms i]:=by
 unfold seg;rw[show i+1-i=1 from by omega,Mv h,aB h];rfl
def KQ(n:Nat)(t:Tb):Nat->Tb
 |0=>t
 |r+1=>λi j=>KQ n t r i j||Kf (KQ n t r) t i n j
def stepT(n:Nat)(k:Int)(a0 t:Tb):Tb:=
 if k=4 then λi j=>Kf a0 t i n j else if k=6\/k=7 then λi j=>a0 i j||KQ n t n i j else λi j=>a0 i j||t i j
def zf(ms:List Int)(k c:Int):Tb:=λi j=>if i=j then decide (k=4\/k=6\/k=8\/k=9)else if j=i+1/\k<4 then Lv k c (nth ms i)else false
mutual
/-- From which place of marks a node leads to which. -/
def gV(ms:List Int):Nd->Tb
 |.mk k c l=>fO ms k l (zf ms k c)
def fO(ms:List Int)(k:Int):List Nd->Tb->Tb
 |[],out=>out
 |t::r,out=>fO ms k r (stepT (ms.length+1) k out (gV ms t))
end
def Cf(f g:Tb)(i n j:Nat):Kf f g i n j=true↔∃m,m<n/\f i m=true/\g m j=true:=by
 unfold Kf;rw[P9]
 constructor
 ·rintro⟨m,hm,h⟩;rw[LN]at h;exact⟨m,MO.1 hm,h.1,h.2⟩
 rintro⟨m,hm,h1,h2⟩;exact⟨m,MO.2 hm,by rw[h1,h2];rfl⟩
def Says(ms:List Int)(t:Tb)(L:List Int->Prop):Prop:=∀i j,i<=ms.length->j<=ms.length->(t i j=true↔i<=j/\L (seg ms i j))
def zW{f g:Tb}(hf:Says ms f L)(hg:Says ms g M):Says ms (λi j=>Kf f g i (ms.length+1) j) (λw=>∃u v,w=u++v/\L u/\M v):=λi j hi hj=>by
 rw[Cf]
 constructor
 ·rintro⟨m,hm,h1,h2⟩;obtain⟨a1,a2⟩:=(hf i m hi zo).1 h1;obtain⟨b1,b2⟩:=(hg m j zo hj).1 h2;exact⟨zo,_,_,yd ms a1 b1,a2,b2⟩
 rintro⟨a0,u,v,e,h1,h2⟩;obtain⟨s1,s2,s3⟩:=uS a0 hj e;exact⟨i+u.length,zo,(hf i _ hi zo).2 ⟨zo,s2▸h1⟩,(hg _ j zo hj).2 ⟨s1,s3▸h2⟩⟩
def sZ{f g:Tb}(hf:Says ms f L)(hg:Says ms g M):Says ms (λi j=>f i j||g i j) (λw=>L w\/M w):=λi j hi hj=>by
 rw[MA,hf i j hi hj,hg i j hi hj];exact⟨λh=>h.elim (λh=>⟨h.1,.inl h.2⟩) (λh=>⟨h.1,.inr h.2⟩),fun⟨h1,h2⟩=>h2.elim (λh=>.inl ⟨h1,h⟩) (λh=>.inr ⟨h1,h⟩)⟩
def Says.congr{f:Tb}(h:Says ms f L)(e:∀w,L w↔M w):Says ms f M:=λi j hi hj=>by rw[h i j hi hj,e]
def K8(P:List Int->Prop):Nat->List Int->Prop
 |0,w=>P w
 |r+1,w=>∃u v,w=u++v/\K8 P r u/\P v
def zX{ms:List Int}{t:Tb}{L:List Int->Prop}(h:Says ms t L):∀r,Says ms (KQ (ms.length+1) t r) (λw=>∃s,s<=r/\K8 L s w)
 |0=>h.congr λw=>⟨λhw=>⟨0,M7 _,hw⟩,fun⟨s,hs,hw⟩=>(match s,hs,hw with|0,_,hw=>hw)⟩
 |r+1=>by
  have ih:=zX h r;refine(sZ ih (zW ih h)).congr λw=>?_
  constructor
  ·rintro(⟨s,hs,hw⟩|⟨u,v,rfl,⟨s,hs,hu⟩,hv⟩)
   ·exact⟨s,zo,hw⟩
   exact⟨s+1,zo,u,v,rfl,hu,hv⟩
  rintro⟨s,hs,hw⟩
  by_cases e:s<=r
  ·exact .inl ⟨s,e,hw⟩
  obtain rfl:s=r+1:=zo;obtain⟨u,v,rfl,hu,hv⟩:=hw;exact .inr ⟨u,v,rfl,⟨r,M7 _,hu⟩,hv⟩
def CE{k c:Int}(hk:4<=k):Says ms (zf ms k c) (λw=>(k=4\/k=6\/k=8\/k=9)/\w=[]):=λi j hi hj=>by
 unfold zf
 by_cases e:i=j
 ·subst e;rw[ap rfl,qG,decide_eq_true_eq];exact⟨λh=>⟨M7 _,h,rfl⟩,λh=>h.2.1⟩
 rw[am e,am zo];refine⟨λh=>(by cases h),fun⟨h1,_,h2⟩=>?_⟩;have:=congrArg MH h2;rw[pz ms h1 hj]at this;simp at this;omega
def CZ{k c m:Int}(hk:k=0/\0<=c/\c<36\/k=1\/k=2\/k=3):Lv k c m=ck k c m:=by
 unfold Lv ck
 rcases hk with⟨rfl,h1,h2⟩|rfl|rfl|rfl
 ·rw[ap rfl,ap rfl]
  by_cases e:m=c
  ·subst e;rw[decide_eq_true h1,decide_eq_true h2];rfl
  rw[beq_eq_false_iff_ne.2 e,Bool.and_false]
 ·rw[am zd,ap rfl,am zd,ap rfl];congr 1;exact decide_eq_decide.2 zo
 ·rw[am zd,am zd,ap rfl,am zd,am zd,ap rfl];congr 2;exact decide_eq_decide.2 zo
 rw[am zd,am zd,am zd,am zd,am zd,am zd];rfl
def lL{k c:Int}(hk:k=0/\0<=c/\c<36\/k=1\/k=2\/k=3):Says ms (zf ms k c) (λw=>∃m,w=[m]/\ck k c m=true):=λi j hi hj=>by
 unfold zf
 by_cases e:i=j
 ·subst e;rw[ap rfl,qG,decide_eq_false zo];exact⟨λh=>(by cases h),fun⟨_,m,h,_⟩=>by cases h⟩
 rw[am e]
 by_cases e2:j=i+1
 ·subst e2;rw[ap ⟨rfl,zo⟩,IN zo,CZ hk];exact⟨λh=>⟨zo,_,rfl,h⟩,fun⟨_,m,h,ht⟩=>by cases h;exact ht⟩
 rw[am zo];refine⟨λh=>(by cases h),fun⟨h1,m,h2,_⟩=>?_⟩;have:=congrArg MH h2;rw[pz ms h1 hj]at this;simp at this;omega
def F6{P:List Int->Prop}{w:List Int}(h:PN P w):w=[]\/∃s,s+1<=w.length/\∃l:List (List Int),l.length=s+1/\w=l.flatten/\∀u∈l,P u:=by
 induction h with
 |nil=>exact .inl rfl
 | @cons u v hu hv ih=>
  by_cases a0:u=[]
  ·subst a0;rw[Ny];exact ih
  have a1:0<u.length:=N9.2 a0
  rcases ih with rfl|⟨s,hs,l,hl,rfl,hP⟩
  ·exact .inr ⟨0,by rw[Lr];exact a1,[u],rfl,by simp,λx hx=>by rw[ln.1 hx];exact hu⟩
  refine .inr ⟨s+1,by rw[Lo];omega,u::l,by simp[hl],rfl,λx hx=>?_⟩
  rcases Lk.1 hx with rfl|hx
  ·exact hu
  exact hP x hx
def Ie{P:List Int->Prop}:∀(s:Nat) (l:List (List Int)),l.length=s+1->(∀u∈l,P u)->K8 P s l.flatten
 |0,l,hl,hP=>by
  match l,hl with
  |[u],_=>have:=hP u (by simp);show P _;simpa using this
 |s+1,l,hl,hP=>by
  have a0:l≠[]:=λe=>by rw[e]at hl;cases hl
  refine⟨l.dropLast.flatten,l.getLast a0,?_,Ie s _ (by rw[List.length_dropLast];omega) (λu hu=>hP u (List.dropLast_subset l hu)),hP _ (List.getLast_mem a0)⟩
  conv=>lhs;rw[<-List.dropLast_concat_getLast a0]
  simp
def Aa{P:List Int->Prop}:∀(s:Nat) (w:List Int),K8 P s w->∃l:List (List Int),l.length=s+1/\w=l.flatten/\∀u∈l,P u
 |0,w,h=>⟨[w],rfl,by simp,λu hu=>by rw[ln.1 hu];exact h⟩
 |s+1,w,⟨u,v,e,hu,hv⟩=>by
  obtain⟨l,h1,h2,h3⟩:=Aa s u hu;refine⟨l++[v],by simp[h1],by rw[e,h2];simp,λx hx=>?_⟩
  rcases Mp.1 hx with hx|hx
  ·exact h3 x hx
  rw[ln.1 hx];exact hv
def uN{P:List Int->Prop}:∀(l:List (List Int)),(∀u∈l,P u)->PN P l.flatten
 |[],_=>.nil
 |u::l,h=>.cons (h u (by simp)) (uN l (λx hx=>h x (by simp[hx])))
def vG{ms:List Int}:∀(l:List Nd),(∀t∈l,Says ms (gV ms t) (Lg t))->∀(a0:Tb) (L:List Int->Prop),Says ms a0 L->Says ms (fO ms 4 l a0) (λw=>∃u v,w=u++v/\L u/\Q7 l v)
 |[],_,a0,L,h=>by
  unfold fO;refine h.congr λw=>?_
  constructor
  ·intro hw;exact⟨w,[],by simp,hw,by unfold Q7;rfl⟩
  rintro⟨u,v,rfl,hu,hv⟩;unfold Q7 at hv;subst hv
  rwa[Lr]
 |t::r,hl,a0,L,h=>by
  unfold fO;have h1:Says ms (stepT (ms.length+1) 4 a0 (gV ms t)) (λw=>∃u v,w=u++v/\L u/\Lg t v):=zW h (hl t (by simp));refine(vG r (λx hx=>hl x (by simp[hx])) _ _ h1).congr λw=>?_
  constructor
  ·rintro⟨_,v,rfl,⟨a,b,rfl,ha,hb⟩,hv⟩;exact⟨a,b++v,by rw[M4],ha,by unfold Q7;exact⟨b,v,rfl,hb,hv⟩⟩
  rintro⟨a,v,rfl,ha,hv⟩;unfold Q7 at hv;obtain⟨b,v',rfl,hb,a1⟩:=hv;exact⟨a++b,v',by rw[M4],⟨a,b,rfl,ha,hb⟩,a1⟩
def pR{ms:List Int}{k:Int}(h4:k≠4)(h6:¬(k=6\/k=7)):∀(l:List Nd),(∀t∈l,Says ms (gV ms t) (Lg t))->∀(a0:Tb) (L:List Int->Prop),Says ms a0 L->Says ms (fO ms k l a0) (λw=>L w\/Q0 l w)
 |[],_,a0,L,h=>by
  unfold fO;refine h.congr λw=>⟨.inl,λhw=>hw.elim id λhw=>?_⟩
  unfold Q0 at hw;exact hw.elim
 |t::r,hl,a0,L,h=>by
  unfold fO;have h1:Says ms (stepT (ms.length+1) k a0 (gV ms t)) (λw=>L w\/Lg t w):=by
   unfold stepT;rw[am h4,am h6];exact sZ h (hl t (by simp))
  refine(pR h4 h6 r (λx hx=>hl x (by simp[hx])) _ _ h1).congr λw=>?_
  rw[Q0];exact or_assoc
def uT{t:Tb}(h:Says ms t L):Says ms (KQ (ms.length+1) t (ms.length+1)) (λw=>∃u v,w=u++v/\L u/\PN L v):=λi j hi hj=>by
 rw[zX h _ i j hi hj];refine and_congr_right λa0=>?_
 have hl:=pz ms a0 hj
 constructor
 ·rintro⟨s,_,hw⟩;obtain⟨l,h1,h2,h3⟩:=Aa s _ hw
  match l,h1,h3 with
  |u::r,_,h3=>exact⟨u,r.flatten,h2,h3 u (by simp),uN r (λx hx=>h3 x (by simp[hx]))⟩
 rintro⟨u,v,e,hu,hv⟩;have a1:v.length<=ms.length:=by have:=congrArg MH e;rw[Lo]at this;omega
 rw[e]
 rcases F6 hv with rfl|⟨s,hs,l,h1,rfl,h3⟩
 ·exact⟨0,Li _,by rw[Lr];exact hu⟩
 refine⟨s+1,zo,?_⟩
 have:=Ie (s+1) (u::l) (by simp[h1]) (λx hx=>by
  rcases Lk.1 hx with rfl|hx
  ·exact hu
  exact h3 x hx)
 exact this
def lg4(c:Int)(l:List Nd)(w:List Int):Lg (.mk 4 c l) w↔Q7 l w:=by rw[Lg];simp
def lg5(c:Int)(l:List Nd)(w:List Int):Lg (.mk 5 c l) w↔Q0 l w:=by rw[Lg];simp
def lg6(c:Int)(t:Nd)(w:List Int):Lg (.mk 6 c [t]) w↔PN (Lg t) w:=by
 have eH:LgH [t]=Lg t:=by rw[LgH]
 rw[Lg,<-eH];simp
def lg7(c:Int)(t:Nd)(w:List Int):Lg (.mk 7 c [t]) w↔∃u v,w=u++v/\Lg t u/\PN (Lg t) v:=by
 have eH:LgH [t]=Lg t:=by rw[LgH]
 rw[Lg,<-eH];simp
def lg8(c:Int)(t:Nd)(w:List Int):Lg (.mk 8 c [t]) w↔w=[]\/Lg t w:=by
 have eH:LgH [t]=Lg t:=by rw[LgH]
 rw[Lg,<-eH];simp
mutual
def rR(ms:List Int):∀(t:Nd) (wi:Bool),bP t wi=true->Says ms (gV ms t) (Lg t)
 |.mk k c l,wi,h=>by
  unfold bP at h
  rw[LN]at h
  have hall:=vH ms l h.2
  have hb:=λhk:4<=k=>CE (ms:=ms) (c:=c) hk
  unfold gV
  rcases dv h.1 with⟨rfl,hn,h1,h2⟩|⟨rfl,hn,h1⟩|⟨rfl,hn,h1,h2⟩|⟨rfl,hn,h1⟩|⟨rfl,hn,h1⟩|⟨rfl,hn,h1⟩|⟨rfl,hn,h1⟩|⟨rfl,hn,h1⟩|⟨rfl,hn,h1⟩|⟨rfl,hn,h1,h2⟩
  ·obtain rfl:=Lm hn
   unfold fO
   exact(lL (.inl ⟨rfl,h1,h2⟩)).congr λw=>by rw[Lg];simp
  ·obtain rfl:=Lm hn
   unfold fO
   exact(lL (.inr (.inl rfl))).congr λw=>by rw[Lg];simp
  ·obtain rfl:=Lm hn
   unfold fO
   exact(lL (.inr (.inr (.inl rfl)))).congr λw=>by rw[Lg];simp
  ·obtain rfl:=Lm hn
   unfold fO
   exact(lL (.inr (.inr (.inr rfl)))).congr λw=>by rw[Lg];simp
  ·refine(vG l hall _ _ (hb zd)).congr λw=>?_
   rw[lg4]
   constructor
   ·rintro⟨u,v,rfl,⟨_,rfl⟩,hv⟩;exact hv
   intro hw;exact⟨[],w,rfl,⟨.inl rfl,rfl⟩,hw⟩
  ·refine(pR zd zd l hall _ _ (hb zd)).congr λw=>?_
   rw[lg5]
   exact⟨λhw=>hw.elim (λhw=>absurd hw.1 zd) id,.inr⟩
  ·match l,hn,hall with
   |[t],_,hall=>
    have ht:=hall t (by simp)
    have h3:Says ms (fO ms 6 [t] (zf ms 6 c)) _:=sZ (hb zd) (uT ht)
    refine h3.congr λw=>?_
    rw[lg6]
    constructor
    ·rintro(⟨_,rfl⟩|⟨u,v,rfl,hu,hv⟩)
     ·exact .nil
     exact .cons hu hv
    intro hw
    cases hw with
    |nil=>exact .inl ⟨zd,rfl⟩
    |cons hu hv=>exact .inr ⟨_,_,rfl,hu,hv⟩
  ·match l,hn,hall with
   |[t],_,hall=>
    have ht:=hall t (by simp)
    have h3:Says ms (fO ms 7 [t] (zf ms 7 c)) _:=sZ (hb zd) (uT ht)
    refine h3.congr λw=>?_
    rw[lg7]
    constructor
    ·rintro(⟨h,_⟩|hw)
     ·exact absurd h zd
     exact hw
    exact .inr
  ·match l,hn,hall with
   |[t],_,hall=>
    refine(pR zd zd [t] hall _ _ (hb zd)).congr λw=>?_
    rw[lg8]
    constructor
    ·rintro(⟨_,hw⟩|hw)
     ·exact .inl hw
     rw[Q0,Q0]at hw
     exact .inr (hw.elim id False.elim)
    rintro(hw|hw)
    ·exact .inl ⟨zd,hw⟩
    exact .inr (by rw[Q0];exact .inl hw)
  obtain rfl:=Lm hn
  unfold fO
  refine(hb zd).congr λw=>?_
  rw[Lg];simp
def vH(ms:List Int):∀(l:List Nd),eT l=true->∀t∈l,Says ms (gV ms t) (Lg t)
 |[],_,t,ht=>by cases ht
 |a::r,h,t,ht=>by
  unfold eT at h
  rw[LN]at h
  have h1:=rR ms a true h.1
  have h2:=vH ms r h.2
  rcases Lk.1 ht with e|ht
  ·rw[e];exact h1
  exact h2 t ht
end
def pQ(ms:List Int){t:Nd}(h:aZ t=true):Says ms (gV ms t) (Lg t):=by
 unfold aZ at h;rw[LN]at h;exact rR ms t false h.2
section
variable{α:Type}
def Lx(n:Nat)(p q:Nat->α)(j:Nat):List α:=(M0 n).map λt=>if t<j then p t else q t
def Kw(n:Nat)(p q:Nat->α)(h:p j=q j):Lx n p q j=Lx n p q (j+1):=by
 unfold Lx;refine Mr λt _=>?_
 by_cases e:t=j
 ·subst e;rw[am zo,ap zo,h]
 by_cases e2:t<j
 ·rw[ap e2,ap zo]
 rw[am e2,am zo]
end
def xS(li lk ids:List Int):Nat->List Int
 |0=>[36]
 |k+1=>if xO li lk ids k=true then xS li lk ids k else xS li lk ids k++[((bf (nth ids k):Nat):Int)]
def FS(li lk a0:List Int):∀k,(xS li lk a0 k).length<=k+1/\1<=(xS li lk a0 k).length
 |0=>⟨M7 _,M7 _⟩
 |k+1=>by
  obtain⟨h1,h2⟩:=FS li lk a0 k;unfold xS
  split
  ·exact⟨zo,h2⟩
  rw[Lo,ka];exact⟨zo,zo⟩
def atN(li lk a0:List Int)(i:Nat):Nat:=if xO li lk a0 i=true then 0 else(xS li lk a0 i).length
def sI(f:Tb)(a:Nat):Nat->Bool
 |0=>false
 |k+1=>sI f a k||f k a
def qu(f:Tb)(a:Nat):∀k,sI f a k=true↔∃m,m<k/\f m a=true
 |0=>by simp[sI]
 |k+1=>by
  unfold sI;rw[MA,qu f a k]
  constructor
  ·rintro(⟨m,h1,h2⟩|h)
   ·exact⟨m,zo,h2⟩
   exact⟨k,zo,h⟩
  rintro⟨m,h1,h2⟩
  by_cases e:m=k
  ·subst e;exact .inr h2
  exact .inl ⟨m,zo,h2⟩
def nT(f:Tb)(a:Nat):Nat->Bool
 |0=>false
 |k+1=>nT f a k||f a (a+k)
def ot(f:Tb)(a:Nat):∀k,nT f a k=true↔∃m,m<k/\f a (a+m)=true
 |0=>by simp[nT]
 |k+1=>by
  unfold nT;rw[MA,ot f a k]
  constructor
  ·rintro(⟨m,h1,h2⟩|h)
   ·exact⟨m,zo,h2⟩
   exact⟨k,zo,h⟩
  rintro⟨m,h1,h2⟩
  by_cases e:m=k
  ·subst e;exact .inr h2
  exact .inl ⟨m,zo,h2⟩
def Is(ms:List Int)(x:R3)(a:Nat):Bool:=sI (gV ms x.1) a (a+1)&&nT (gV ms x.2.1) a (ms.length+1-a)
def sk(ms:List Int)(a:Nat):List R3->Nat->Int
 |[],_=>-1
 |x::l,r=>if Is ms x a=true then(r:Int)else sk ms a l (r+1)
def kV(ms:List Int)(a:Nat):∀(l:List R3) (r:Nat),(sk ms a l r = -1/\∀i,i<l.length->Is ms (nth l i) a=false)\/∃i,i<l.length/\sk ms a l r=((r+i:Nat):Int)/\Is ms (nth l i) a=true/\∀j,j<i->Is ms (nth l j) a=false
 |[],r=>.inl ⟨rfl,λi hi=>absurd hi (M6 i)⟩
 |x::l,r=>by
  unfold sk
  by_cases hx:Is ms x a=true
  ·rw[ap hx];exact .inr ⟨0,Nat.succ_pos _,rfl,by rw[ao];exact hx,λj hj=>absurd hj (M6 j)⟩
  rw[am hx];have a0:Is ms x a=false:=by simpa using hx
  rcases kV ms a l (r+1)with⟨h1,h2⟩|⟨i,h1,h2,h3,h4⟩
  ·refine .inl ⟨h1,λi hi=>?_⟩
   cases i with
   |zero=>rw[ao];exact a0
   |succ i=>rw[aW];exact h2 i (by simpa using hi)
  refine .inr ⟨i+1,by simpa using h1,by rw[h2];congr 1;omega,by rw[aW];exact h3,λj hj=>?_⟩
  cases j with
  |zero=>rw[ao];exact a0
  |succ j=>rw[aW];exact h4 j zo
def iT(li lk a0:List Int)(ts:List R3)(r i:Nat):Int:=if xO li lk a0 i=true then -2 else sk (xS li lk a0 a0.length) (atN li lk a0 i) (ts.drop r) r
def Fb(li lk a0:List Int)(ts:List R3)(i:Nat):Bool:=iT li lk a0 ts 0 i == -1||(decide (0<=iT li lk a0 ts 0 i)&&(nth ts (iT li lk a0 ts 0 i).toNat).2.2)
def za(li lk a0:List Int)(ts:List R3):List Bool:=true::(M0 (a0.length-1)).map (λi=>Fb li lk a0 ts (i+1))++if 0<a0.length then [true]else []
def zq{t:Nd}(h:aZ t=true){a:Nat}(ha:a<=ms.length):sI (gV ms t) a (a+1)=true↔∃u v,ms.take a=u++v/\Lg t v:=by
 rw[qu];have hS:=pQ ms h
 constructor
 ·rintro⟨m,h1,h2⟩;obtain⟨_,h3⟩:=(hS m a zo ha).1 h2;refine⟨ms.take m,seg ms m a,?_,h3⟩;have:=yd ms (Li m) (show m<=a by omega);simpa[seg]using this
 rintro⟨u,v,e,h3⟩;have hl:=congrArg MH e;rw[List.length_take,Lo]at hl;have e0:seg ms 0 a=u++v:=by simpa[seg]using e
 obtain⟨s1,s2,s3⟩:=uS (Li a) ha e0;rw[Np]at s1 s3;exact⟨u.length,zo,(hS _ a zo ha).2 ⟨s1,s3▸h3⟩⟩
def xu{t:Nd}(h:aZ t=true){a:Nat}(ha:a<=ms.length):nT (gV ms t) a (ms.length+1-a)=true↔∃u v,ms.drop a=u++v/\Lg t u:=by
 rw[ot];have hS:=pQ ms h
 constructor
 ·rintro⟨m,h1,h2⟩;obtain⟨_,h3⟩:=(hS a (a+m) ha zo).1 h2;refine⟨seg ms a (a+m),ms.drop (a+m),?_,h3⟩;unfold seg;rw[show a+m-a=m from by omega,<-Pr,N1]
 rintro⟨u,v,e,h3⟩;have hl:=congrArg MH e;rw[List.length_drop,Lo]at hl;refine⟨u.length,zo,(hS a _ ha zo).2 ⟨zo,?_⟩⟩;unfold seg;rw[show a+u.length-a=u.length from by omega,e,Nx]
 ·exact h3
 rfl
def xf{ts:List R3}(hr:∀t∈ts,aZ t.1=true/\aZ t.2.1=true){a:Nat}(ha:a<=ms.length){after:List Nat}(hb:ints a0=ms.take a)(hf:ints after=ms.drop a):FirstR ts a0 after (sk ms a ts 0):=by
 have a1:∀i,ly ts a0 after i↔i<ts.length/\Is ms (nth ts i) a=true:=λi=>by
  unfold ly;refine and_congr_right λhi=>?_
  obtain⟨r1,r2⟩:=hr _ (aJ hi);unfold Is;rw[LN,zq r1 ha,xu r2 ha,hb,hf,cz hi,cz hi]
 rcases kV ms a ts 0 with⟨h1,h2⟩|⟨i,h1,h2,h3,h4⟩
 ·refine .inl ⟨h1,λi hi=>?_⟩;obtain⟨k1,k2⟩:=(a1 i).1 hi;rw[h2 i k1]at k2;cases k2
 refine .inr ⟨i,by rw[h2,Np],(a1 i).2 ⟨h1,h3⟩,λj hj hA=>?_⟩;have:=((a1 j).1 hA).2;rw[h4 j hj]at this;cases this
def zU(h:∀c∈l,0<=c/\c<=35)(c:Nat):(dd l).testBit c=decide ((c:Int)∈l):=by
 have a0:∀(l:List Int),(∀c∈l,0<=c/\c<=35)->∀b:Nat,(l.foldl (λb c=>b ||| 2^c.toNat) b).testBit c=(b.testBit c||decide ((c:Int)∈l)):=by
  intro l
  induction l with
  |nil=>intro _ b;simp
  |cons x r ih=>
   intro hl b;have hx:=hl x (by simp);rw[Pi,ih (λy hy=>hl y (by simp[hy])),NH,NZ,Bool.or_assoc];congr 1;rw[Bool.eq_iff_iff,MA,decide_eq_true_eq,decide_eq_true_eq,decide_eq_true_eq,Lk];apply or_congr_left;omega
 have:=a0 l h 0;simpa[dd]using this
def tO(t:TabM)(li lk a0:List Int)(a2:∀c:Nat,t.ig.testBit c=decide ((c:Int)∈li))(a1:∀c:Nat,t.kp.testBit c=decide ((c:Int)∈lk)):∀(r:List Int) (k:Nat),r=a0.drop (k+1)->∀j,j<r.length->nth (rY t (bf (nth a0 k),xO li lk a0 k) r) j=(bf (nth a0 (k+1+j)),xO li lk a0 (k+1+j))
 |[],_,_,j,hj=>absurd hj (M6 j)
 |c::r,k,e,j,hj=>by
  have hk:k+1<a0.length:=by
   refine MJ λhn=>?_
   rw[List.drop_of_length_le zo]at e;cases e
  rw[Mv hk,<-aB hk]at e;obtain⟨rfl,e2⟩:=PV e;have hh:(t.ig.testBit (bf (nth a0 (k+1)))&&(xO li lk a0 k || !(t.kp.testBit (bf (nth a0 k)))))=xO li lk a0 (k+1):=by rw[a2,a1,xO]
  unfold rY;dsimp only;rw[hh]
  cases j with
  |zero=>rw[ao,PE]
  |succ j=>
   rw[aW,tO t li lk a0 a2 a1 r (k+1) e2 j (by simpa using hj),show k+1+(j+1)=k+1+1+j from by omega]
def xR(t:TabM)(li lk:List Int)(c:Int)(r:List Int)(a1:∀c:Nat,t.ig.testBit c=decide ((c:Int)∈li))(a0:∀c:Nat,t.kp.testBit c=decide ((c:Int)∈lk)):∀n,n<=r.length->xS li lk (c::r) (n+1)=ints ([36,bf c]++gJ ((rY t (bf c,false) r).take n))
 |0,_=>by
  unfold xS xS;rw[Po,am (by rw[xO];simp),ao];rfl
 |n+1,hn=>by
  have hL:=oT t r (bf c,false);have hx:=tO t li lk (c::r) a1 a0 r 0 rfl n hn;rw[ao,show xO li lk (c::r) 0=false from rfl,show 0+1+n=n+1 from by omega]at hx;rw[xS,xR t li lk c r a1 a0 n zo,aG zo,hx,sQ,<-M4];generalize [36,bf c]++gJ ((rY t (bf c,false) r).take n)=X
  cases xO li lk (c::r) (n+1)with
  |true=>
   show ints X=ints (X++[]);rw[Lr]
  |false=>
   show ints X++[((bf (nth (c::r) (n+1)):Nat):Int)]=ints (X++[bf (nth (c::r) (n+1))]);unfold ints;rw[Mz];rfl
section
variable{li lk:List Int}{ts:List R3}{a b:List (List Nat)×List Nat}{clA clB:Nat→Nat}
def Made.ig(h:Made li lk ts a b clA clB)(c:Nat):(bF li lk ts a b clA clB).ig.testBit c=decide ((c:Int)∈li):=zU (cL h.rt).2.1 c
def Made.kp(h:Made li lk ts a b clA clB)(c:Nat):(bF li lk ts a b clA clB).kp.testBit c=decide ((c:Int)∈lk):=zU (cL h.rt).2.2.1 c
def Made.row(h:Made li lk ts a b clA clB)(c:Int):stL (bF li lk ts a b clA clB) (stL (bF li lk ts a b clA clB) 0 36) (bf c)=kN (aV clA a.1 a.2).1 [36,bf c] 0:=by
 have h0:=(h.left [] (λm hm=>by cases hm)).1;have h1:=(h.left [36] (λm hm=>by rw[ln.1 hm];decide)).1;rw[h.inv.left 0 36 h0 zd];have hc:=jy c;exact h.inv.left _ _ h1 zo
def uF(hr:∀t∈ts,aZ t.1=true/\aZ t.2.1=true)(t:TabM)(c:Int)(r:List Int)(a1:∀c:Nat,t.ig.testBit c=decide ((c:Int)∈li))(a0:∀c:Nat,t.kp.testBit c=decide ((c:Int)∈lk))(hn:n<r.length)(hh:xO li lk (c::r) (n+1)=false):
  FirstR ts ([36,bf c]++gJ ((rY t (bf c,false) r).take n)) (gJ ((rY t (bf c,false) r).drop n)) (iT li lk (c::r) ts 0 (n+1)):=by
 have hL:=oT t r (bf c,false);have hw:=xR t li lk c r a1 a0 n zo;have hN:=xR t li lk c r a1 a0 r.length (M7 _);rw[NL zo]at hN;have a2:gJ (rY t (bf c,false) r)=gJ ((rY t (bf c,false) r).take n)++gJ ((rY t (bf c,false) r).drop n):=by rw[<-sQ,N1]
 have hA:atN li lk (c::r) (n+1)=(xS li lk (c::r) (n+1)).length:=by unfold atN;rw[hh];rfl
 have e0:xS li lk (c::r) (c::r).length=xS li lk (c::r) (n+1)++ints (gJ ((rY t (bf c,false) r).drop n)):=by
  rw[hw,LL,hN,a2,<-M4];unfold ints;rw[Mz]
 unfold iT;rw[hh,am zd,Pq,hA,e0];refine xf hr (by rw[Lo];omega) ?_ ?_
 ·rw[Nx rfl,hw]
 rw[List.drop_left' rfl]
def BV(li lk a0:List Int)(ts:List R3)(i:Nat):Fb li lk a0 ts i=if xO li lk a0 i=true then false else brk ts (iT li lk a0 ts 0 i):=by
 unfold Fb brk
 split
 ·rename_i hh;have:iT li lk a0 ts 0 i = -2:=by unfold iT;rw[ap hh]
  rw[this];rfl
 rename_i hh;have hk : -1<=iT li lk a0 ts 0 i:=by
  unfold iT;rw[am hh]
  rcases kV (xS li lk a0 a0.length) (atN li lk a0 i) (ts.drop 0) 0 with⟨h1,_⟩|⟨_,_,h1,_⟩<;>rw[h1]<;>omega
 generalize iT li lk a0 ts 0 i=k at *
 by_cases e:k = -1
 ·subst e;rfl
 rw[decide_eq_false (show¬k<0 by omega),decide_eq_true (show 0<=k by omega),MT,Nb,show(k == -1)=false from by simpa using e,MT]
def Made.rules2(h:Made li lk ts a b clA clB):∀t∈ts,aZ t.1=true/\aZ t.2.1=true:=λt ht=>⟨(h.rules t ht).1,(h.rules t ht).2.1⟩
def Made.breaks(h:Made li lk ts a b clA clB)(a0:List Int)(hn:a0.length<=100000):zb (bF li lk ts a b clA clB) a0=za li lk a0 ts:=by
 cases a0 with
 |nil=>rfl
 |cons c r=>
  obtain⟨p1,p2⟩:=vg (bF li lk ts a b clA clB) c r;unfold zb za;rw[p1,p2,h.row,LL,P3];congr 2;have hL:=oT (bF li lk ts a b clA clB) r (bf c,false);have a1:∀m∈[36,bf c],m<37:=λm hm=>by
   have:=jy c;simp only[Lk,Lu,or_false]at hm;omega
  refine P6 (by rw[sx,hL];simp) λi h1 h2=>?_
  have hi:i<r.length:=by simpa using h2
  rw[<-aB h1,Nv,Nc];obtain⟨k,k1,k2⟩:=h.closeL (rY (bF li lk ts a b clA clB) (bf c,false) r) [36,bf c] a1 (DB _ _ _) (by rw[hL];simp at hn;omega) i zo;have hx:=tO (bF li lk ts a b clA clB) li lk (c::r) h.ig h.kp r 0 rfl i hi;rw[ao,show xO li lk (c::r) 0=false from rfl,show 0+1+i=i+1 from by omega]at hx;rw[k2,hx,BV]
  cases hh:xO li lk (c::r) (i+1)with
  |true=>rfl
  |false=>
   have:=uF h.rules2 _ c r h.ig h.kp hi hh;rw[this.uniq k1];rfl
end
def iX{ru:ix}{xs:List X3}(h:Sl cB 7 w ru xs)(hk:k<xs.length):(∀j u,(aY (nth xs k).1)[j]? = some u->w.cell? (((adr ru 7 k).add 0).add j)=some u)/\(∀j u,(aY (nth xs k).2.1)[j]? = some u->w.cell? (((adr ru 7 k).add 3).add j)=some u)/\w.cell? ((adr ru 7 k).add 6)=some (.bool (nth xs k).2.2):=by
 refine⟨λj u hu=>?_,λj u hu=>?_,h.cell hk (j:=6) rfl⟩
 ·match j,hu with
  |0,hu=>exact h.cell hk (j:=0) hu
  |1,hu=>exact h.cell hk (j:=1) hu
  |2,hu=>exact h.cell hk (j:=2) hu
  |j+3,hu=>simp at hu
 match j,hu with
 |0,hu=>exact h.cell hk (j:=3) hu
 |1,hu=>exact h.cell hk (j:=4) hu
 |2,hu=>exact h.cell hk (j:=5) hu
 |j+3,hu=>simp at hu
end Go.Proofs.YtcfhbfflgnbacaaGreatDoor
