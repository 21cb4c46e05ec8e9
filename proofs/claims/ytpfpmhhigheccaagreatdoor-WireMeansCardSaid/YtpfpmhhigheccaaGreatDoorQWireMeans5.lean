/- Texts that the proof of this statement needs, merged and shortened. -/
import Derived.Test.YtpfpmhhigheccaaGreatDoorQWireMeans4
open Go renaming Value->ix,World->ln,TypeId->IU,Operand->JW,Program->Ke,Addr->KW,Oper->Lw,sizeOf->LJ,IntKind->LV,Edge->Mo,Exit->MB
open List renaming length_singleton->ka,mem_singleton->I3,length_append->I4,append_assoc->I5,all_cons->IG,mem_cons->IH,not_mem_nil->II,length_cons->IL,getElem?_append_right->IN,getElem?_eq_some_iff->IQ,take_length->IR,eq_nil_of_length_eq_zero->J1,take_of_length_le->J2,map_toArray->J7,map_cons->J9,mem_append->Jc,length_map->Jd,append_nil->Je,mem_of_mem_take->Jr,flatMap_append->Jw,mem_map->Jy,all_nil->Jz,getElem?_append_left->JH,size_toArray->JJ,foldl_append->JK,flatMap_cons->JL,length_take->JP,map_nil->JX,flatMap_singleton->JY,getElem?_toArray->K6,getElem?_take->Ki,take_succ_eq_append_getElem->Kp,take_append_of_le_length->Kz,map_append->KC,foldl_cons->KD,take_set_of_le->L7,any_eq_false->Ll,flatMap_nil->Lr,nil_append->Lz,drop->Mg,map->Mk
open Go.VL.WC renaming region->I0,seq->I7,block->JV,skip->Kg,ret->KA,exit->Lv,loop->M6,cond->M7,tail->My
open Go.VL.RV renaming move->I1,assign->I6,fieldAddr->IT,load->JC,build->JF,extract->K5,indexAddr->Kw,lss->Lo,len->Lp,add->Lq,not->LQ,eql->LU,sub->Mi,gtr->Mj
open Go.VL.WL renaming nil->I2,off->IW,call->Kf,val->KR,push->M5
open Go.VL.Ret renaming enter->I8
open Go.VL.Upd renaming setRow->I9,trans->IJ,mono->Jk,set->Jq,refl->JS,alloc->KX
open Go.VL.Ext renaming refl->ID
open Go.VL.WH renaming one->IE,done->Jg,leaf->Jt
open Go.VL.RowT renaming upd->IF,nil->KK
open Nat renaming zero_le->IK,le_refl->IV,two_pow_pos->Jf,lt_of_lt_of_le->Jh,add_sub_cancel_left->Ji,or_lt_two_pow->Jm,pow_lt_pow_right->Ju,pow_le_pow_right->Jv,lt_of_le_of_lt->JE,mul_one->JM,zero_add->JZ,mod_lt->K0,div_eq_zero_iff_lt->K1,add_assoc->Kh,le_trans->Kr,blt->Ku,and_two_pow_sub_one_eq_mod->Ky,one_mul->KB,not_lt_zero->KG,two_pow_add_eq_or_of_lt->KM,le_of_ble_eq_true->L2,mul_le_mul_right->L6,add_sub_cancel->Lk,mod_eq_of_lt->Lx,and_le_right->Ly,min_eq_left->LH,mul_le_mul->LN,pow_succ->LZ,mul_comm->M0,add_zero->M1,add_comm->M4,or_comm->Ma,add_mul->Mb,ble->Mr,beq->Ms
open Bool renaming and_eq_true->IM,not_eq_true'->Jj,or_eq_false_iff->Js,false_or->KV,and_eq_false_iff->L1,not_eq_false'->Ld,or_eq_true->LD,true_or->LW
open Go.VL renaming Upd->IP,Rng->Jo,Ints->K2,RowT->Kc,BlkO->Kv,Ret->Kx,Free->KI,Ext->KU,NewV->Lj,Elem->LC
open Go.Value renaming oneCell'->IS,ownBlock->JA,bool->L5,int->M8
open UInt8 renaming ofNat->IX
open Go.Result renaming andThen_ok->IY
open Go.Proofs.Tryz renaming sizeOf91->IZ,underlying24->J0,prog->J3,zeroValue32->J4,sizeOf30->J5,sizeOf136->J6,sizeOf32->J8,underlying30->Jb,zeroValue91->Jn,sizeOf4->Jp,underlying25->JI,underlying5->JT,underlying3->JU,sizeOf27->K7,underlying28->K8,underlying27->K9,isAgg91->Ka,isAgg30->Kb,zeroValue30->Kj,sizeOf3->Km,isAgg32->Ko,zeroValue136->KE,sizeOf25->KF,zeroValue27->KQ,isAgg136->KZ,underlying134->L4,underlying89->Le,underlying22->Lh,isAgg25->Li,zeroValue25->Lt,sizeOf24->Lu,call34->LK,call26->LL,sizeOf28->Mc,call69->Md,call24->Me,call22->Mf,underlying99->Ml,sizeOf5->Mm,call70->Mt,call66->Mu,call29->Mv,call27->Mw,call23->Mx
open Go.VL.Free renaming upd->Ja
open Go.Sem renaming run_bind->Jl,run_pure->LY
open Go.VL.Fit renaming i64->JB,u64->KN,u8->MA
open Option renaming none->JD,some->Kq
open Option.some renaming inj->JG,injEq->KT
open Int renaming toNat_natCast->JN,toNat_of_nonneg->Lb
open Go.VL.Sl renaming ext->JO
open Go.VL.BlkO renaming upd->JQ,setRow->L3
open Go.Addr renaming add->JR
open Go.IntKind renaming u64->K4,wrap_u64->L8,signed->Lm,wrap->LA,bits->LB,u8->Mz
open Go.Proofs.YtpfpmhhigheccaaGreatDoor renaming RightD->Kd,telR->Kk,lstR->Kl,PSt->La,RowsG->Mq
open Go.Instr renaming fill->KH,buildSlice->Ln
open Array renaming toList_setIfInBounds->KJ,getElem?_eq_getElem->KO,getElem?_modify->KY,range->LX
open Go.VL.Rng renaming upd->KL
open Go.World renaming setCell->KP,ownsRow_lit->L9,frozen?->LF
open Go.Value.slice renaming injEq->KS
open Go.Lib renaming ctz->L0,deBruijn64tab->Ls,lowest_bit->LO
open Go.Builtin renaming append_->Lc,zeroCells->MC
open Prod.mk renaming inj->LG
open Go.Proofs renaming TabAt->LP
open Go.VL.QF renaming next->M9
open Go.VL.RowO renaming nil->Mh
open Go.Value.agg renaming inj->Mn
open Classical renaming byContradiction->Mp
set_option maxRecDepth 10000
open Go.VL Go.Proofs Go.Proofs.Tryz
namespace Go.Proofs.YtpfpmhhigheccaaGreatDoor
theorem _root_.Go.VL.BlkO.ext{O:Nat->Nat}{w w':ln}{i b:Nat}{cs:Array ix}{E:IU}(h:Kv O w i b cs E)(e:KU w w'):Kv O w' i b cs E:=⟨by rw[e.block b (bt h.blk)];exact h.blk,h.tag⟩
theorem RowsG.upd{S:Nat->Prop}{B:Nat}{O O':Nat->Nat}{w0 w w':ln}{v:ix}{rows:List (List Nat)}(h:Mq w0.heap.size w v rows)(r:Jo B O w0)(u:IP S O w O' w'):Mq w0.heap.size w' v rows:=by
 obtain⟨vs,h1,h2,h3,h4⟩:=h;exact⟨vs,h1.upd (h2.free h1 (fun x _=>by simp) r) u,h2,h3,fun i hi=>⟨(h4 i hi).1.upd ((h4 i hi).2.free (h4 i hi).1 (fun x _=>by simp) r) u,(h4 i hi).2⟩⟩
theorem _root_.Go.VL.NewV.slU{S:Nat->Prop}{B:Nat}{O O':Nat->Nat}{w0 w w':ln}{v:ix}{l:List Nat}(h:Lj w0.heap.size v)(hs:Sl fj 1 w v l)(r:Jo B O w0)(u:IP S O w O' w'):Sl fj 1 w' v l:=hs.upd (h.free hs (fun x _=>by simp) r) u
def cS(l:List Int):Nat:=l.foldl (fun b c=>b ||| 2^c.toNat) 0
theorem mJ{l:List Int}(h:∀c∈l,0<=c/\c<=35):cS l<2^36:=by
 have a0:∀(l:List Int) (b:Nat),(∀c∈l,0<=c/\c<=35)->b<2^36->l.foldl (fun b c=>b ||| 2^c.toNat) b<2^36:=fun l=>by
  induction l with
  |nil=>exact fun b _ hb=>hb
  |cons c l ih=>exact fun b h hb=>ih _ (fun x hx=>h x (by simp[hx])) (Jm hb (Ju zd (by have:=h c (by simp);omega)))
 exact a0 l 0 h zd
theorem zf{l:List Int}{i:Nat}(h:i<l.length):cS (l.take (i+1))=cS (l.take i) ||| 2^(nth l i).toNat:=by
 unfold cS;rw[aI h,JK];rfl
theorem mI(l:List Int)(sv:ix)(w:ln)(h:Sl encI 1 w sv l)(hr:∀c∈l,0<=c/\c<=35):Kx J3 34 [sv] w fun v w'=>v=.int .u64 ((cS l:Nat):Int)/\w'=w:=by
 have hl:=h.len_le;have a1:K4.max=18446744073709551615:=rfl;refine I8 func34 ntmps34 rfl rfl ?_;refine zh ?_;refine zlp (fun z:Nat=>[(3,.int .u64 ((cS (l.take z):Nat):Int)),(6,sv),(7,nI l.length),(8,nI z)]) (fun z=>w) (fun z=>z<=l.length) (fun z=>l.length-z) 0 (IK _) ?_;intro i hi;refine zh ?_;refine zC ?_ ?_
 ·intro a0;replace a0:i<l.length:=dT a0;have hc:=hr _ (aM a0);have m1:w.cell? (adr sv 1 i)=some (nI (nth l i)):=by have:=h.cell (i:=i) (j:=0) a0 rfl;rwa[ay]at this
  obtain⟨c,a3⟩:∃c:Nat,nth l i=(c:Int):=⟨(nth l i).toNat,zo⟩
  have hs:=zf a0;rw[a3]at m1 hs;simp only[JN]at hs;have a7:cS (l.take i)<2^36:=mJ fun x hx=>hr x (Jr hx)
  have a6:2^c<=2^35:=Jv zd zo;have a5:(2^35:Nat)=34359738368:=zd;have a4:(2^36:Nat)=68719476736:=zd;refine zh ?_;refine zv (uY (a:=1) (b:=c) rfl rfl rfl rfl (by show _<=64;omega) (by show _<=(18446744073709551615:Int);omega)) ?_;rw[KB];refine zvH (nJ (a:=cS (l.take i)) (b:=2^c) rfl rfl rfl rfl (by show _<=(18446744073709551615:Int);omega) (by show _<=(18446744073709551615:Int);omega)) ?_;rw[<-hs];refine zxd (i+1) (a0)
 intro a2;obtain rfl:i=l.length:=dF a2;rw[IR];refine zh ?_;refine af rfl rfl (⟨rfl,rfl⟩)
def stM(se:Bool)(ts:List Nd):Option (List (List Nat)×List Nat):=if du ts=0 then CY (cP se (qZ ts)) (dJ (qZ ts))else none
def Cls(cl:Nat->Nat)(d:List (List Nat)×List Nat):Prop:=∀p q,p<d.1.length->q<d.1.length->(cl p=cl q↔Alike (nxD d.1) (nth d.2) p q)
def PostSt(B:Nat)(w:ln)(v:ix):Option (List (List Nat)×List Nat)->Prop
 |some d=>∃cl nv tv,v=.tuple #[.agg #[nv,tv],nI 0]/\nv.oneCell'=true/\tv.oneCell'=true/\Kd d.1 d.2/\Cls cl d/\Mq B w nv (cL cl d.1 d.2).1/\Sl fj 1 w tv (cL cl d.1 d.2).2/\Lj B tv
 |none=>∃e:Int,e≠0/\v=.tuple #[.agg #[nS,nS],nI e]
theorem zU{ts:List Nd}(h:du ts=0):ts.length<=40/\(∀t∈ts,bM t=true)/\1+aU ts<=1000:=by
 unfold du at h
 split at h
 ·cases h
 split at h
 ·cases h
 rename_i h1 h2
 split at h
 ·cases h
 rename_i h3;refine⟨zo,fun t ht=>?_,zo⟩;have:ts.any (fun t=>!bM t)=false:=by simpa using h2
 have:=Ll.1 this t ht;simpa using this
set_option maxHeartbeats 1000000 in
theorem oG(se:Bool)(ts:List Nd)(xs:List N3)(sv:ix)(w:ln)(hs:Sl aW 3 w sv xs)(hl:ts.length=xs.length)(hk:∀i,i<xs.length->Nt (fun _=>0) w (nth ts i) (nth xs i)):
  Kx J3 35 [.bool se,sv] w fun v w'=>KU w w'/\PostSt w.heap.size w' v (stM se ts):=by
 refine I8 func35 ntmps35 rfl rfl ?_;refine zh ?_
 refine ar (aw w) 1 zo (Jn _) rfl ?_;intro cb w1 O1 c6 e2 e5 d4;refine zh ?_
 refine zc call56 (DM se ts xs sv w1 (hs.ext d4) hl (fun i hi=>(hk i hi).ext d4)) ?_;rintro _ w2 ⟨nb,rfl,e',e6⟩;have c8:IP (fun _=>False) O1 w1 O1 w2:=aa (fun h=>h) O1 e';have a2:=c6.upd c8 zd (fun h=>h);have e4:=e5.upd c8;have b2:=e2.trans (c8.mono (fun _ h=>h.elim) zd);refine zh ?_
 by_cases he:du ts=0
 ·have hD:=e6 he;obtain⟨f5,a4,f4⟩:=zU he;obtain⟨a',a3⟩:=js a4;obtain⟨d5,h0⟩:=DL ts;have d9:=oO a' a3;have d':∀q,(qZ ts).en q<=40:=fun q=>by have:=zR ts q;omega
  have b6:stM se ts=CY (cP se (qZ ts)) (dJ (qZ ts)):=by unfold stM;rw[if_pos he]
  have d8:zT nb (du ts)=nP nb:=by unfold zT;rw[if_pos he]
  rw[d8,he,b6];refine zFH rfl rfl ?_;have hC:=AV nb se (qZ ts) w2 hD d5 h0 (DK ts) zo d';generalize hd:CY (cP se (qZ ts)) (dJ (qZ ts))=D at hC b6 ⊢;refine zc call57 (hC) ?_;rintro v w3 ⟨e9,hP⟩;have c7:IP (fun _=>False) O1 w2 O1 w3:=aa (fun h=>h) O1 e9;have b1:=a2.upd c7 zd (fun h=>h);have d3:=e4.upd c7;have a8:=b2.trans (c7.mono (fun _ h=>h.elim) zd)
  cases D with
  |none=>
   obtain rfl:=hP;refine zh ?_;refine ar d3 2 zo (Jn _) rfl ?_;intro db w4 O4 a0 b8 e3 e8;refine zsa (us:=#[nS,nS]) a0 (IZ _) ?_;have b7:IP (fun j=>j=2) O4 w4 O4 (w4.setRow db #[nS,nS]):=I9 zd a0.tag rfl;have a6:=(b1.upd b8 zd zd).upd b7 zd zd;have c':=(a8.mono (S':=fun q=>q=1\/q=2) (fun _ h=>.inl h) zd).trans ((b8.trans b7).mono (fun _ h=>.inr h) zd);generalize w4.setRow db #[nS,nS]=w5 at *;refine zh ?_;refine zTH rfl rfl ?_;refine zvH (aE Fl (Jn _) rfl (by first|rfl|(simp only[IG,Jz];rfl)) rfl rfl) ?_;refine zsa (us:=#[nS,nS]) a6 (IZ _) ?_;have b0:=a6.setRow (us:=#[nS,nS]);have a7:IP (fun j=>j=1) O4 w5 O4 (w5.setRow cb #[nS,nS]):=I9 zd a6.tag rfl;refine zh ?_;refine aS rfl rfl rfl (b0.cellsAdd) (Ka _) (IZ _) (⟨(c'.trans (a7.mono (fun _ h=>.inl h) zd)).ext,7,zd,rfl⟩)
  |some d=>
   obtain⟨nv,tv,rfl,o1,o2,d7,d6⟩:=hP;obtain⟨S,f3⟩:=sQ hd;have d1:=f3.right;refine zh ?_;refine ar (aw w3) 2 zo (Jn _) rfl ?_;intro db w4 O4 a0 b8 e3 e8;refine zsb (us:=#[nv,tv]) a0 (IZ _) (by simp only[IG,o1,o2];rfl) ?_;have c5:=a0.setRow (us:=#[nv,tv]);have b7:IP (fun j=>j=2) O4 w4 O4 (w4.setRow db #[nv,tv]):=I9 zd a0.tag rfl;have a1:KU w3 (w4.setRow db #[nv,tv]):=(b8.trans b7).ext;generalize w4.setRow db #[nv,tv]=w5 at *;refine zh ?_;refine zFH rfl rfl ?_;refine zv (ah (us:=[nv,tv]) c5.cellsAdd (Ka _) (IZ _) rfl) ?_;refine zc call58 (uw nv tv d.1 d.2 w5 (d7.ext a1) (d6.ext a1) d1) ?_;rintro _ w6 ⟨cl,b5,b4,rfl,p1,p2,e7,e0,b',b9,a9⟩;have b3:=a1.trans e7;have a5:=b1.ext b3;have e1:IP (fun q=>q=1) O1 w3 O1 w6:=aa zd O1 b3;have c9:=a8.trans e1;have d2:=d3.ext a1;refine zsb (us:=#[b5,b4]) a5 (IZ _) (by simp only[IG,p1,p2];rfl) ?_;have b0:=a5.setRow (us:=#[b5,b4]);have a7:IP (fun j=>j=1) O1 w6 O1 (w6.setRow cb #[b5,b4]):=I9 zd a5.tag rfl;have d0:w.heap.size<=w5.heap.size:=Kr a8.size a1.size;refine zh ?_;refine aS rfl rfl rfl (b0.cellsAdd) (Ka _) (IZ _) (⟨(c9.trans a7).ext,cl,b5,b4,rfl,p1,p2,d1,e0,(b'.upd d2 a7).mono d0,a9.slU b9 d2 a7,a9.mono d0⟩)
 have b6:stM se ts=none:=by unfold stM;rw[if_neg he]
 rw[b6];refine zTH rfl ((by simpa using he)) ?_;refine zvH (aE Fl (Jn _) rfl (by first|rfl|(simp only[IG,Jz];rfl)) rfl rfl) ?_;refine zsa (us:=#[nS,nS]) a2 (IZ _) ?_;have b0:=a2.setRow (us:=#[nS,nS]);have a7:IP (fun j=>j=1) O1 w2 O1 (w2.setRow cb #[nS,nS]):=I9 zd a2.tag rfl;refine zh ?_;refine aS rfl rfl rfl (b0.cellsAdd) (Ka _) (IZ _) (⟨(b2.trans a7).ext,du ts,he,rfl⟩)
theorem Ib:cB J3 30 #[(0,5),(5,1)]:=⟨_,Jb,fun w=>by kernel_rfl⟩
def PartV(w:ln)(cs:List ix)(p:La)(tl:List Nat):Prop:=
 ∃uv bv kv nv tv,cs=[nI p.width,uv,bv,kv,nv,tv]/\K2 w uv p.usual/\K2 w bv p.base/\K2 w kv p.check/\K2 w nv p.next/\Sl fj 1 w tv tl
theorem PartV.ext{w w':ln}{cs:List ix}{p:La}{tl:List Nat}(h:PartV w cs p tl)(e:KU w w'):PartV w' cs p tl:=by
 obtain⟨uv,bv,kv,nv,tv,h0,h1,h2,h3,h4,h5⟩:=h;exact⟨uv,bv,kv,nv,tv,h0,h1.ext e,h2.ext e,h3.ext e,h4.ext e,h5.ext e⟩
def Fp(B:Nat)(cs:List ix):Prop:=∀v∈cs,Lj B v
theorem _root_.Go.VL.NewV.slI{S:Nat->Prop}{B:Nat}{O O':Nat->Nat}{w0 w w':ln}{v:ix}{l:List Int}(h:Lj w0.heap.size v)(hs:K2 w v l)(r:Jo B O w0)(u:IP S O w O' w'):K2 w' v l:=hs.upd (h.free hs (fun x _=>by simp) r) u
theorem PartV.upd{S:Nat->Prop}{B:Nat}{O O':Nat->Nat}{w0 w w':ln}{cs:List ix}{p:La}{tl:List Nat}(h:PartV w cs p tl)(n:Fp w0.heap.size cs)(r:Jo B O w0)(u:IP S O w O' w'):PartV w' cs p tl:=by
 obtain⟨uv,bv,kv,nv,tv,rfl,h1,h2,h3,h4,h5⟩:=h;exact⟨uv,bv,kv,nv,tv,rfl,(n uv (by simp)).slI h1 r u,(n bv (by simp)).slI h2 r u,(n kv (by simp)).slI h3 r u,(n nv (by simp)).slI h4 r u,(n tv (by simp)).slU h5 r u⟩
theorem PartV.one{w:ln}{cs:List ix}{p:La}{tl:List Nat}(h:PartV w cs p tl):cs.length=6/\∀v∈cs,v.oneCell'=true:=by
 obtain⟨uv,bv,kv,nv,tv,rfl,h1,h2,h3,h4,h5⟩:=h;refine⟨rfl,fun v hv=>?_⟩;simp only[IH,II,or_false]at hv
 rcases hv with rfl|rfl|rfl|rfl|rfl|rfl
 ·rfl
 ·exact h1.one
 ·exact h2.one
 ·exact h3.one
 ·exact h4.one
 exact h5.one
theorem RowsN.pack{w:ln}{v:ix}{rows:List (List Nat)}(h:RowsN w v rows):Rows w v (rows.map ints):=by
 obtain⟨vs,h1,h2,h3⟩:=h
 exact⟨vs,h1,by rw[Jd];exact h2,fun i hi=>by
  rw[Jd]at hi
  rw[ei hi];exact(h3 i hi).natIv⟩
def jU(g:List Nat)(many:Nat)(rows:List (List Nat)):List (List Int):=(rows.map (oe g many)).map ints
def dk(g:List Nat)(many:Nat)(rows:List (List Nat)):La:=kZ (many:Int) (jU g many rows)
theorem oK{g:List Nat}{many:Nat}(hg:GrpI g many){rows:List (List Nat)}{a0:List Nat}(hr:Kd rows a0):bQ (many:Int) (jU g many rows)=false:=by
 have h1:=hg.pos;have h2:=hg.le;have h3:=hr.le;unfold bQ;have hl:(jU g many rows).length=rows.length:=by simp[jU]
 rw[decide_eq_false zo,decide_eq_false zo,decide_eq_false zo];simp only[KV];refine Ll.2 fun r a1=>?_
 obtain⟨q,hq,rfl⟩:=Jy.1 a1;obtain⟨o,ho,rfl⟩:=Jy.1 hq;obtain⟨j,hj,rfl⟩:=IC ho;obtain⟨r1,r2⟩:=hr.row j hj;unfold ib;rw[show(ints (oe g many (nth rows j))).length=many from by simp[mA]];have a2:inB 0 65535 (ints (oe g many (nth rows j)))=true:=sJ fun n hn=>by
  obtain⟨x,hx,rfl⟩:=Jy.1 hn;unfold oe at hx;obtain⟨k,hk,rfl⟩:=Jy.1 hx
  cases hf:g.findIdx? (· == k)with
  |none=>simp only[Option.getD_none];have:=r2 0 (zd);unfold nxD at *;omega
  |some q=>
   obtain⟨h1,_⟩:=List.findIdx?_eq_some_iff_getElem.1 hf;have a3:=hg.len;simp only[Option.getD_some];have:=r2 q zo;omega
 rw[a2];simp
theorem vt(g:List Nat)(many:Nat)(gv nv tv:ix)(rows:List (List Nat))(d4:List Nat)(w:ln)(hg:GrpI g many)(e':Sl aN 1 w gv g)(hn:RowsN w nv rows)(g0:Sl fj 1 w tv d4)(hr:Kd rows d4) 
  (hc:∀p,p<rows.length->∀i j,i<37->j<37->nth g i=nth g j->nth (nth rows p) i=nth (nth rows p) j) :
  Kx J3 37 [gv,.agg #[nv,tv]] w fun v w'=>∃cs,v=.agg cs.toArray/\PartV w' cs (dk g many rows) d4/\Fp w.heap.size cs/\KU w w':=by
 have a4:=oK hg hr;refine I8 func37 ntmps37 rfl rfl ?_;refine zh ?_;refine aF (aw w) 1 zo rfl rfl ?_;intro db w1 O1 e4 g' h4 h9;refine ar h4 2 zo (Kj _) rfl ?_;intro cb w2 O2 e8 f8 b8 h8;have e3:=e4.upd f8 zd zd;have b6:IP (fun q=>1<=q) (fun _=>0) w O2 w2:=(g'.mono (fun _ h=>zo) zd).trans (f8.mono (fun _ h=>zo) zd);have b7:=b6.ext;refine zh ?_;refine zv (ah (us:=[nv,tv]) e3.cellsAdd (Ka _) (IZ _) rfl) ?_;refine zc call65 (Ca g many gv nv tv rows d4 w2 hg (e'.ext b7) (hn.ext b7) (g0.ext b7) hr hc) ?_;rintro _ w3 ⟨d8,a6,a5,rfl,o1,o2,o3,c9,a',a9,h5⟩;have d6:IP (fun _=>False) O2 w2 O2 w3:=aa (fun h=>h) O2 h5;have e7:=e8.upd d6 zd (fun h=>h);have e9:=b6.trans (d6.mono (fun _ h=>h.elim) zd);have h3:=b8.upd d6;refine zh ?_;refine ar h3 3 zo (zeroValue127 _) rfl ?_;intro nb w4 O4 b3 g8 h2 h7;refine zsb (us:=#[d8,a6,a5]) b3 (sizeOf127 _) (by simp only[IG,o1,o2,o3];rfl) ?_;have b2:=b3.setRow (us:=#[d8,a6,a5]);have f7:IP (fun j=>j=3) O4 w4 O4 (w4.setRow nb #[d8,a6,a5]):=I9 zd b3.tag rfl;have a2:=g8.trans f7;have g9:=(d6.mono (S':=fun q=>q=3) (fun _ h=>h.elim) zd).trans a2;have e6:=e7.upd a2 zd zd;have g6:=c9.upd b8 a2;have f':=a9.slU a' b8 a2;have h1:=h2.upd f7;have b5:=e9.trans (a2.mono (fun _ h=>zo) zd);generalize w4.setRow nb #[d8,a6,a5]=w5 at *;have h6:(rows.map (oe g many)).length=rows.length:=by simp
 refine zh ?_;have d1:w5.drew.cell? (nA nb 1)=some a6:=b2.cell 1 rfl;refine aL (fun W=>W.cell? (nA nb 1)=some a6) 11 rfl zk ?_
 refine zrm 0 rfl d1 rfl ?_;refine zrf 2 rfl d1 rfl ?_
 refine zt 3 rfl d1 (fun w1 f9=>RV.ld f9 rfl) ?_;refine tp (fun x:ix×ix×ix×ix×Int×Nat×(Nat->Nat)×World=>[(4,nP cb),(5,nP nb),(7,.pointer (some ⟨x.2.2.2.2.2.1,0,none⟩)),(21,.agg #[nI (dk g many rows).width,x.1,x.2.1,x.2.2.1,x.2.2.2.1]),(22,nI x.2.2.2.2.1)]) (fun x=>x.2.2.2.2.2.2.2) (fun x=>K2 x.2.2.2.2.2.2.2 x.1 (dk g many rows).usual/\K2 x.2.2.2.2.2.2.2 x.2.1 (dk g many rows).base/\K2 x.2.2.2.2.2.2.2 x.2.2.1 (dk g many rows).check/\K2 x.2.2.2.2.2.2.2 x.2.2.2.1 (dk g many rows).next/\Lj w5.heap.size x.1/\Lj w5.heap.size x.2.1/\Lj w5.heap.size x.2.2.1/\Lj w5.heap.size x.2.2.2.1/\Kv x.2.2.2.2.2.2.1 x.2.2.2.2.2.2.2 4 x.2.2.2.2.2.1 #[nI 0,nS,nS,nS,nS] 27/\IP (fun q=>q=4) O4 w5 x.2.2.2.2.2.2.1 x.2.2.2.2.2.2.2/\Jo w.heap.size x.2.2.2.2.2.2.1 x.2.2.2.2.2.2.2/\KI x.2.2.2.2.2.2.1 x.2.2.2.2.2.2.2 x.1/\KI x.2.2.2.2.2.2.1 x.2.2.2.2.2.2.2 x.2.1/\KI x.2.2.2.2.2.2.1 x.2.2.2.2.2.2.2 x.2.2.1/\KI x.2.2.2.2.2.2.1 x.2.2.2.2.2.2.2 x.2.2.2.1) #[true,true,true,true,true,true,true,true,true,false,false] 2 ?_ ?_
 ·intro hN;have hR:=h1.drew;have hU:IP (fun q=>q=4) O4 w5 O4 w5.drew:=aa zd O4 (ID w5).drew;have k0:∀O W,IP (fun q=>q=4) O4 w5 O W->W.cell? (nA nb 1)=some a6:=fun O W u=>(b2.upd u zd zd).cell 1 rfl
  have kg:∀O W,IP (fun q=>q=4) O4 w5 O W->Sl encI 1 W gv (ints g):=fun O W u=>(e'.ext (b5.trans (u.mono (fun _ h=>zo) zd)).ext).natIv
  have kn:∀O W,IP (fun q=>q=4) O4 w5 O W->Rows W a6 (jU g many rows):=fun O W u=>(c9.upd b8 (a2.mono (S':=fun q=>q=3\/q=4) (fun _ h=>.inl h) zd |>.trans (u.mono (fun _ h=>.inr h) zd))).rows.pack
  refine bI 1 8 zk rfl rfl ?_ ?_ 
  ·refine zc Mv (iy (ints g) gv _ (kg _ _ hU)) ?_;rintro _ wa ⟨rfl,c8⟩;rw[c8,hg.cnt];clear c8 wa;refine zh ?_
   refine ae (k0 _ _ hU) ?_;refine bI 4 8 zk rfl rfl ?_ ?_ 
   ·refine zc Mu (mO (many:Int) (jU g many rows) a6 _ (kn _ _ hU)) ?_;rintro _ wb ⟨pv,ep,rfl,fP,f5,d2,gP⟩;have gP:=gP a4;rw[a4,if_neg zd]at fP;obtain⟨b9,b',d3,c7,c6,c5,n1,n2,n3,n4⟩:=gP;obtain⟨uv,bv,kv,a0,pe,f1,f2,f3,f4⟩:=fP;subst pe;obtain⟨rfl,rfl,rfl,rfl,rfl⟩:_=b9/\uv=b'/\bv=d3/\kv=c7/\a0=c6:=by simpa using c5
    have fU:=hU.size;have g1:=n1.free f1 (fun x _=>by simp) hR;have g2:=n2.free f2 (fun x _=>by simp) hR;have g3:=n3.free f3 (fun x _=>by simp) hR;have g4:=n4.free f4 (fun x _=>by simp) hR;have n1:=n1.mono fU;have n2:=n2.mono fU;have n3:=n3.mono fU;have n4:=n4.mono fU;have a7:=fun O=>aa (S:=fun _=>False) (fun h=>h) O d2
    have hU:=IJ hU ((a7 _).mono (fun _ h=>h.elim) zd);have hR:=KL hR (a7 _)
    try have fC:=JQ fC (a7 _) zd (fun h=>h)
    refine zh ?_;refine zaf (k0 _ _ hU) fun zS=>?_
    refine zrm 5 rfl zS rfl ?_;refine zr 6 rfl zS (fun _=>K5 rfl rfl) ?_
    refine zr 7 rfl zS (fun _=>K5 rfl rfl) ?_;refine IE 8 zk rfl ?_
    refine ar hR 4 zd (KQ _) rfl ?_;intro pb wc Oc fC a1 d0 a3;have hU:=IJ hU a1;have hR:=d0
    try have f1:=JO f1 a3
    try have f2:=JO f2 a3
    try have f3:=JO f3 a3
    try have f4:=JO f4 a3
    try have g1:=Ja g1 a1
    try have g2:=Ja g2 a1
    try have g3:=Ja g3 a1
    try have g4:=Ja g4 a1
    refine zh ?_;refine ae (k0 _ _ hU) ?_
    exact Jt (hN (uv,bv,kv,a0,ep,pb,_,_) ⟨f1,f2,f3,f4,n1,n2,n3,n4,fC,hU,hR,g1,g2,g3,g4⟩) zk ⟨rfl,rfl,rfl,rfl,rfl,trivial⟩ rfl
   refine ar hR 4 zd (KQ _) rfl ?_;intro pb wc Oc fC a1 d0 a3;have hU:=IJ hU a1;have hR:=d0
   try have f1:=JO f1 a3
   try have f2:=JO f2 a3
   try have f3:=JO f3 a3
   try have f4:=JO f4 a3
   try have g1:=Ja g1 a1
   try have g2:=Ja g2 a1
   try have g3:=Ja g3 a1
   try have g4:=Ja g4 a1
   refine zh ?_;refine ae (k0 _ _ hU) ?_
   refine IE 4 zk rfl ?_;refine zc Mu (mO (many:Int) (jU g many rows) a6 _ (kn _ _ hU)) ?_
   rintro _ wb ⟨pv,ep,rfl,fP,f5,d2,gP⟩;have gP:=gP a4;rw[a4,if_neg zd]at fP;obtain⟨b9,b',d3,c7,c6,c5,n1,n2,n3,n4⟩:=gP;obtain⟨uv,bv,kv,a0,pe,f1,f2,f3,f4⟩:=fP;subst pe;obtain⟨rfl,rfl,rfl,rfl,rfl⟩:_=b9/\uv=b'/\bv=d3/\kv=c7/\a0=c6:=by simpa using c5
   have fU:=hU.size;have g1:=n1.free f1 (fun x _=>by simp) hR;have g2:=n2.free f2 (fun x _=>by simp) hR;have g3:=n3.free f3 (fun x _=>by simp) hR;have g4:=n4.free f4 (fun x _=>by simp) hR;have n1:=n1.mono fU;have n2:=n2.mono fU;have n3:=n3.mono fU;have n4:=n4.mono fU;have a7:=fun O=>aa (S:=fun _=>False) (fun h=>h) O d2
   have hU:=IJ hU ((a7 _).mono (fun _ h=>h.elim) zd);have hR:=KL hR (a7 _)
   try have fC:=JQ fC (a7 _) zd (fun h=>h)
   refine zh ?_;refine zaf (k0 _ _ hU) fun zS=>?_
   refine zrm 5 rfl zS rfl ?_;refine zr 6 rfl zS (fun _=>K5 rfl rfl) ?_
   refine zr 7 rfl zS (fun _=>K5 rfl rfl) ?_;exact Jt (hN (uv,bv,kv,a0,ep,pb,_,_) ⟨f1,f2,f3,f4,n1,n2,n3,n4,fC,hU,hR,g1,g2,g3,g4⟩) zk ⟨rfl,rfl,rfl,rfl,rfl,trivial⟩ rfl
  refine ar hR 4 zd (KQ _) rfl ?_;intro pb wc Oc fC a1 d0 a3;have hU:=IJ hU a1;have hR:=d0
  try have f1:=JO f1 a3
  try have f2:=JO f2 a3
  try have f3:=JO f3 a3
  try have f4:=JO f4 a3
  try have g1:=Ja g1 a1
  try have g2:=Ja g2 a1
  try have g3:=Ja g3 a1
  try have g4:=Ja g4 a1
  refine zh ?_;refine ae (k0 _ _ hU) ?_
  refine IE 1 zk rfl ?_;refine zc Mv (iy (ints g) gv _ (kg _ _ hU)) ?_
  rintro _ wa ⟨rfl,c8⟩;rw[c8,hg.cnt];clear c8 wa;refine zh ?_;refine ae (k0 _ _ hU) ?_;refine IE 4 zk rfl ?_;refine zc Mu (mO (many:Int) (jU g many rows) a6 _ (kn _ _ hU)) ?_;rintro _ wb ⟨pv,ep,rfl,fP,f5,d2,gP⟩;have gP:=gP a4;rw[a4,if_neg zd]at fP;obtain⟨b9,b',d3,c7,c6,c5,n1,n2,n3,n4⟩:=gP;obtain⟨uv,bv,kv,a0,pe,f1,f2,f3,f4⟩:=fP;subst pe;obtain⟨rfl,rfl,rfl,rfl,rfl⟩:_=b9/\uv=b'/\bv=d3/\kv=c7/\a0=c6:=by simpa using c5
  have fU:=hU.size;have g1:=n1.free f1 (fun x _=>by simp) hR;have g2:=n2.free f2 (fun x _=>by simp) hR;have g3:=n3.free f3 (fun x _=>by simp) hR;have g4:=n4.free f4 (fun x _=>by simp) hR;have n1:=n1.mono fU;have n2:=n2.mono fU;have n3:=n3.mono fU;have n4:=n4.mono fU;have a7:=fun O=>aa (S:=fun _=>False) (fun h=>h) O d2
  have hU:=IJ hU ((a7 _).mono (fun _ h=>h.elim) zd);have hR:=KL hR (a7 _)
  try have fC:=JQ fC (a7 _) zd (fun h=>h)
  refine zh ?_;refine zaf (k0 _ _ hU) fun zS=>?_
  refine zrm 5 rfl zS rfl ?_;refine zr 6 rfl zS (fun _=>K5 rfl rfl) ?_
  refine zr 7 rfl zS (fun _=>K5 rfl rfl) ?_;exact Jt (hN (uv,bv,kv,a0,ep,pb,_,_) ⟨f1,f2,f3,f4,n1,n2,n3,n4,fC,hU,hR,g1,g2,g3,g4⟩) zk ⟨rfl,rfl,rfl,rfl,rfl,trivial⟩ rfl
 rintro⟨uv,bv,kv,a0,ep,pb,O7,w7⟩ ⟨f1,f2,f3,f4,n1,n2,n3,n4,b0,a8,h0,g1,g2,g3,g4⟩;dsimp only at f1 f2 f3 f4 n1 n2 n3 n4 b0 a8 h0 g1 g2 g3 g4 ⊢;have q1:=f1.one;have q2:=f2.one;have q3:=f3.one;have q4:=f4.one;have e1:=b2.upd a8 zd zd;have e5:=e6.upd a8 zd zd;refine IE 9 zk rfl ?_;refine zsb (us:=#[nI (dk g many rows).width,uv,bv,kv,a0]) b0 (K7 _) (by simp only[IG,q1,q2,q3,q4];rfl) ?_;have e0:=b0.setRow (us:=#[nI (dk g many rows).width,uv,bv,kv,a0]);have d7:IP (fun j=>j=4) O7 w7 O7 (w7.setRow pb #[nI (dk g many rows).width,uv,bv,kv,a0]):=I9 zd b0.tag rfl;generalize w7.setRow pb #[nI (dk g many rows).width,uv,bv,kv,a0]=w8 at *;have b1:=e1.upd d7 zd zd;have b4:=e5.upd d7 zd zd;have c':=a8.trans d7;have d9:=a9.slU a' b8 ((a2.mono (S':=fun q=>q=3\/q=4) (fun _ h=>.inl h) zd).trans (c'.mono (fun _ h=>.inr h) zd));have d':=(a9.free a' (fun x _=>by simp) b8).upd ((a2.mono (S':=fun q=>q=3\/q=4) (fun _ h=>.inl h) zd).trans (c'.mono (fun _ h=>.inr h) zd));refine zh ?_;refine ae (b1.cell 1 rfl) ?_;have e2:w8.cell? (nA nb 2)=some a5:=b1.cell 2 rfl;refine zra 10 rfl (b1.cell 1 rfl) rfl ?_;refine Jg zk ?_;refine zh ?_;refine zv (ah (us:=[nI (dk g many rows).width,uv,bv,kv,a0]) e0.cellsAdd (isAgg27 _) (K7 _) rfl) ?_;obtain⟨ta,tc,g5,_⟩:=a'.shape;refine zh ?_;refine zv (JF (cells:=#[nI (dk g many rows).width,uv,bv,kv,a0,a5]) Ib (Kj _) rfl (by rw[g5];rfl)) ?_
 refine zsb (us:=#[nI (dk g many rows).width,uv,bv,kv,a0,a5]) b4 (J5 _) (by simp only[IG,q1,q2,q3,q4,o3];rfl) ?_;have g7:=b4.setRow (us:=#[nI (dk g many rows).width,uv,bv,kv,a0,a5]);have f6:IP (fun j=>j=2) O7 w8 O7 (w8.setRow cb #[nI (dk g many rows).width,uv,bv,kv,a0,a5]):=I9 zd b4.tag rfl;have hU8z:=(d7.mono (S':=fun q=>q=2\/q=4) (fun _ h=>.inr h) zd).trans (f6.mono (fun _ h=>.inl h) zd);have d5:=b5.size;refine zh ?_
 refine aJ rfl rfl (g7.cellsAdd) (Kb _) (J5 _) (⟨[nI (dk g many rows).width,uv,bv,kv,a0,a5],rfl,⟨uv,bv,kv,a0,a5,rfl,f1.upd g1 hU8z,f2.upd g2 hU8z,f3.upd g3 hU8z,f4.upd g4 hU8z,d9.upd d' f6⟩,fun v hv=>?_,((b5.trans (a8.mono (fun _ h=>zo) zd)).trans (hU8z.mono (fun _ h=>zo) zd)).ext⟩);simp only[IH,II,or_false]at hv
 rcases hv with rfl|rfl|rfl|rfl|rfl|rfl
 ·exact fun a n c e=>by cases e
 ·exact n1.mono d5
 ·exact n2.mono d5
 ·exact n3.mono d5
 ·exact n4.mono d5
 exact a9.mono b6.size
end Go.Proofs.YtpfpmhhigheccaaGreatDoor
section
namespace Go.VL
open Go.Proofs
theorem dZ{P:Ke}{N:Nat}{ops:Array Lw}{Q:MB->Act->ln->Prop}{a0:List Lw}{st:St}{w:ln}{t:IU}{p:String}{e:Array Mo}{x y:JW} 
  {T:IU} {O:Nat->Nat} {i b:Nat} {cs us:Array ix} {E:IU} (off:Nat) (a1:Array ix) (hb:Kv O w i b cs E) (a2:(cs.toList.take off++us.toList++cs.toList.drop (off+us.size)).toArray=a1) (hs:off+us.size<=cs.size) (hT:(LJ T).run P w=.ok us.size w) (h1:us.toList.all IS=true)
  {q:KW} (hx:ev st x=some (.pointer (some q))) (hq:q=⟨b,off,none⟩) (hy:ev st y=some (.agg us))
  (h:WL P N ops Q a0 st (w.setRow b a1)):WL P N ops Q (⟨none,.store T x y,t,p,e,none⟩::a0) st w:=by
 subst a2;exact kJ off hb hs hT h1 hx hq hy h
end Go.VL
namespace Go.Proofs.YtpfpmhhigheccaaGreatDoor
open Go.VL Go.Proofs
set_option maxRecDepth 10000
theorem zJ:cB J3 32 #[(0,1),(1,1),(2,1),(3,1),(4,1),(5,6),(11,6)]:=⟨_,underlying32,fun w=>by kernel_rfl⟩
structure TabM where
 ig:Nat
 kp:Nat
 br:Nat
 rules:Int
 groups:List Int
 left:La
 lt:List Nat
 right:La
 rt:List Nat
abbrev bE(ig kp br:Nat)(a0:Int)(gv:ix)(lc rc:List ix):List ix:=[.int .u64 (ig:Int),.int .u64 (kp:Int),.int .u64 (br:Int),nI a0,gv]++lc++rc
def TabV(w:ln)(v:ix)(t:TabM):Prop:=∃gv lc rc,v=.agg (bE t.ig t.kp t.br t.rules gv lc rc).toArray/\K2 w gv t.groups/\PartV w lc t.left t.lt/\PartV w rc t.right t.rt
def TabN(B:Nat)(v:ix):Prop:=∀cs:List ix,v=.agg cs.toArray->Fp B cs
abbrev dr:List ix:=[nI 0,nS,nS,nS,nS,nS]
abbrev iw:Array ix:=(bE 0 0 0 0 (nS) dr dr).toArray
def jD(ts:List R3):Nat->Nat
 |0=>0
 |i+1=>if(nth ts i).2.2=true then jD ts i ||| 2^i else jD ts i
theorem uL(ts:List R3):∀i,i<=40->jD ts i<2^40
 |0,_=>by unfold jD;decide
 |i+1,h=>by
  unfold jD
  split
  ·exact Jm (uL ts i zo) (Ju zd zo)
  exact uL ts i zo
abbrev sx(ts:List R3):List Nd:=ts.map (·.1)
abbrev lP(ts:List R3):List Nd:=ts.map (·.2.1)
def mF(li lk:List Int)(ts:List R3)(A B:List (List Nat)×List Nat):TabM:=
 ⟨cS li,cS lk,jD ts ts.length,ts.length,ints (bD [A.1,B.1]),dk (bD [A.1,B.1]) (fX (ints (bD [A.1,B.1]))) A.1,A.2,dk (bD [A.1,B.1]) (fX (ints (bD [A.1,B.1]))) B.1,B.2⟩
def PostC(B:Nat)(w:ln)(v:ix)(li lk:List Int)(ts:List R3):Prop:=
 (eE li lk ts=false/\v=.tuple #[.agg iw,nI 1])\/eE li lk ts=true/\
  ((∃a b clA clB u,stM true (sx ts)=some a/\stM false (lP ts)=some b/\Kd a.1 a.2/\Kd b.1 b.2/\Cls clA a/\Cls clB b/\v=.tuple #[u,nI 0]/\TabV w u (mF li lk ts (cL clA a.1 a.2) (cL clB b.1 b.2))/\TabN B u)\/
   ((stM true (sx ts)=none\/stM false (lP ts)=none)/\v=.tuple #[.agg iw,nI 7]))
theorem lQ{li lk:List Int}{ts:List R3}(h:eE li lk ts=true):ts.length<=40/\(∀c∈li,0<=c/\c<=35)/\(∀c∈lk,0<=c/\c<=35)/\∀t∈ts,rH t=true:=by
 have a0:∀ {l:List Int},jW l=true->∀c∈l,0<=c/\c<=35:=fun {l} h c hc=>by
  obtain⟨j,hj,rfl⟩:=IC hc;have:=bY.1 (show iY (Cz l) l.length=false by simpa[jW]using h) j hj;simp only[Cz,Js,decide_eq_false_iff_not]at this;omega
 simp only[eE,IM,decide_eq_true_eq]at h;obtain⟨⟨⟨h1,h2⟩,h3⟩,h4⟩:=h;refine⟨zo,a0 h2,a0 h3,fun t ht=>?_⟩;obtain⟨j,hj,rfl⟩:=IC ht;have:=bY.1 (show iY (fun i=>!(rH (nth ts i))) ts.length=false by simpa[Gt]using h4) j hj;simpa using this
theorem PostSt.uni{B:Nat}{w:ln}{v:ix}{o:Option (List (List Nat)×List Nat)}(h:PostSt B w v o):∃nv tv,∃e:Int,v=.tuple #[.agg #[nv,tv],nI e]/\nv.oneCell'=true/\tv.oneCell'=true/\(e≠0->o=none)/\
  (e=0->∃d cl,o=some d/\Kd d.1 d.2/\Cls cl d/\Mq B w nv (cL cl d.1 d.2).1/\Sl fj 1 w tv (cL cl d.1 d.2).2/\Lj B tv):=by
 cases o with
 |none=>
  obtain⟨e,he,rfl⟩:=h;exact⟨_,_,e,rfl,rfl,rfl,fun _=>rfl,fun e0=>absurd e0 he⟩
 |some d=>
  obtain⟨cl,nv,tv,rfl,o1,o2,h1,h2,h3,h4,h5⟩:=h;exact⟨nv,tv,0,rfl,o1,o2,fun e=>absurd rfl e,fun _=>⟨d,cl,rfl,h1,h2,h3,h4,h5⟩⟩
theorem fZ{rows:List (List Nat)}{a0:List Nat}(hr:Kd rows a0)(cl:Nat->Nat):Kd (cL cl rows a0).1 (cL cl rows a0).2:=by
 obtain⟨F,h⟩:=jx (cl:=cl) (tl:=nth a0) hr.nx (rows.length+1) 0 [0] [] [] (qW hr.pos) zo;have h1:=h.rl;have h2:=h.tln;have h3:=h.reps.len;have h4:=hr.le;have h5:=h.p0
 exact⟨by show 0<(fe _ _ _ _ _ _ _ _).1.length;omega,by show(fe _ _ _ _ _ _ _ _).1.length<=1000;omega,by show(fe _ _ _ _ _ _ _ _).2.length=(fe _ _ _ _ _ _ _ _).1.length;omega,fun j hj=>by
  obtain⟨r1,r2⟩:=h.row j (by rw[<-h1];exact hj)
  exact⟨r1,fun m hm=>by have:=(r2 m hm).1;rw[<-h1]at this;exact this⟩⟩
section
variable(li lk:List Int)(ts:List R3)(A B:List (List Nat)×List Nat)
theorem Df:(mF li lk ts A B).ig=cS li:=rfl
theorem De:(mF li lk ts A B).kp=cS lk:=rfl
theorem Dg:(mF li lk ts A B).br=jD ts ts.length:=rfl
theorem xo:(mF li lk ts A B).rules=(ts.length:Int):=rfl
theorem tI:(mF li lk ts A B).groups=ints (bD [A.1,B.1]):=rfl
theorem ry:(mF li lk ts A B).left=dk (bD [A.1,B.1]) (fX (ints (bD [A.1,B.1]))) A.1:=rfl
theorem oF:(mF li lk ts A B).right=dk (bD [A.1,B.1]) (fX (ints (bD [A.1,B.1]))) B.1:=rfl
theorem yS:(mF li lk ts A B).lt=A.2:=rfl
theorem yR:(mF li lk ts A B).rt=B.2:=rfl
end
theorem BQ{B0:Nat}{w:ln}{li lk:List Int}{ts:List R3}{xs:List X3}{a b A B:List (List Nat)×List Nat}{a6 a5:Nat->Nat}{g:List Nat}{many a7:Nat}{pa pb:La}{gv:ix}{lc rc:List ix}(a8:eE li lk ts=true)(b4:stM true (sx ts)=some a)(b1:stM false (lP ts)=some b)(b5:Kd a.1 a.2)(b2:Kd b.1 b.2)(b6:Cls a6 a)(b3:Cls a5 b) 
  (hA:A=cL a6 a.1 a.2) (hB:B=cL a5 b.1 b.2) (a1:g=bD [A.1,B.1]) (a0:fX (ints g)=many) (a':pa=dk g many A.1) (a9:pb=dk g many B.1) (a4:a7=jD ts xs.length) (hl:ts.length=xs.length) (b0:Sl aN 1 w gv g) (b8:PartV w lc pa A.2) (b7:PartV w rc pb B.2)
  (n1:Lj B0 gv) (n2:Fp B0 lc) (n3:Fp B0 rc):PostC B0 w (.tuple #[.agg (bE (cS li) (cS lk) a7 (xs.length:Nat) gv lc rc).toArray,nI 0]) li lk ts:=by
 refine .inr ⟨a8,.inl ⟨a,b,a6,a5,_,b4,b1,b5,b2,b6,b3,rfl,?_,?_⟩⟩
 ·rw[<-hA,<-hB];have a0:fX (ints (bD [A.1,B.1]))=many:=by rw[<-a1];exact a0
  refine⟨gv,lc,rc,?_,?_,?_,?_⟩
  ·rw[Df,De,Dg,xo,hl,<-a4]
  ·rw[tI,<-a1];exact b0.natIv
  ·rw[ry,yS,a0,<-a1,<-a'];exact b8
  rw[oF,yR,a0,<-a1,<-a9];exact b7
 intro cs a3;have a2:cs=bE (cS li) (cS lk) a7 (xs.length:Nat) gv lc rc:=by
  have:=(Mn a3).symm;simpa using this
 subst a2;intro v hv
 rcases Jc.1 hv with hv|hv
 ·rcases Jc.1 hv with hv|hv
  ·simp only[IH,II,or_false]at hv
   rcases hv with rfl|rfl|rfl|rfl|rfl
   ·exact fun a n c e=>by cases e
   ·exact fun a n c e=>by cases e
   ·exact fun a n c e=>by cases e
   ·exact fun a n c e=>by cases e
   exact n1
  exact n2 v hv
 exact n3 v hv
set_option maxHeartbeats 1000000 in
theorem nt(li lk:List Int)(ts:List R3)(v:ix)(w:ln)(h:Tx w v li lk ts):
  Kx J3 14 [v] w fun u w'=>KU w w'/\PostC w.heap.size w' u li lk ts:=by
 obtain⟨ig,kp,ru,xs,rfl,hi,hk,l9,hl,hx⟩:=h.ex;have i1:=hi.one;have i2:=hk.one;have i3:=l9.one;refine I8 func14 ntmps14 rfl rfl ?_;refine zh ?_;refine aF (aw w) 1 zo rfl rfl ?_;intro db w1 O1 t' hU1 hR1 hE1;refine ar hR1 2 zo (J4 _) rfl ?_;intro cb w2 O2 u4 x9 hR2 hE2;have m6:=t'.upd x9 zd zd;have n8:IP (fun q=>1<=q) (fun _=>0) w O2 w2:=(hU1.mono (fun _ h=>zo) zd).trans (x9.mono (fun _ h=>zo) zd);have h8:=n8.ext;refine zh ?_;refine zv (ah (us:=[ig,kp,ru]) m6.cellsAdd (isAgg49 _) (sizeOf49 _) rfl) ?_;refine zc call33 (xu li lk ts xs ig kp ru w2 (hi.ext h8) (hk.ext h8) (l9.ext h8) hl (fun i hi=>(hx i hi).ext h8)) ?_;rintro _ w3 ⟨rfl,hE3⟩;have p9:IP (fun _=>False) O2 w2 O2 w3:=aa (fun h=>h) O2 hE3;have j9:=m6.upd p9 zd (fun h=>h);have g8:=u4.upd p9 zd (fun h=>h);have g1:=n8.trans (p9.mono (fun _ h=>h.elim) zd);have hR3:=hR2.upd p9;refine zh ?_
 by_cases s9:eE li lk ts=false
 ·refine zTH rfl ((by rw[s9];rfl)) ?_;refine zv (JF (cells:=iw) zJ (J4 _) rfl rfl) ?_
  refine zsa (us:=iw) g8 (J8 _) ?_;have j':=g8.setRow (us:=iw);have k6:IP (fun j=>j=2) O2 w3 O2 (w3.setRow cb iw):=I9 zd g8.tag rfl;refine zh ?_
  refine aS rfl rfl rfl (j'.cellsAdd) (Ko _) (J8 _) (⟨(g1.trans (k6.mono (fun _ h=>zo) zd)).ext,.inl ⟨s9,rfl⟩⟩)
 have l':eE li lk ts=true:=by simpa using s9
 obtain⟨h40,x4,t5,hrr⟩:=lQ l';refine aR rfl ((by rw[l'];rfl)) ?_;have s8:=l9.ext g1.ext;refine zh ?_;have d0:=j9.drew.cellsAdd;refine aL (fun W=>∀j u,[ig,kp,ru][j]? = some u->W.cell? (nA db j)=some u) 12 rfl zk ?_;refine zrf 0 rfl d0 rfl ?_;refine zt 1 rfl d0 (fun w1 a6=>RV.ld (a6 0 _ rfl) rfl) ?_;refine zrf 3 rfl d0 rfl ?_;refine zt 4 rfl d0 (fun w1 a6=>RV.ld (a6 1 _ rfl) rfl) ?_;refine zrf 6 rfl d0 rfl ?_;refine zt 7 rfl d0 (fun w1 a6=>RV.ld (a6 2 _ rfl) rfl) ?_;refine zr 8 rfl d0 (fun _=>bj s8.sh underlying47 rfl) ?_;refine tp (fun x:Nat×(Nat->Nat)×World=>[(1,nP db),(2,nP cb),(4,.pointer (some ⟨x.1,0,none⟩)),(26,.agg (bE (cS li) (cS lk) 0 (xs.length:Nat) (nS) dr dr).toArray)]) (fun x=>x.2.2) (fun x=>Kv x.2.1 x.2.2 3 x.1 iw 32/\IP (fun q=>q=3) O2 w3 x.2.1 x.2.2/\Jo w.heap.size x.2.1 x.2.2) #[true,true,true,true,true,true,true,true,true,true,true,false] 1 ?_ ?_
 ·intro hN;have hR:=hR3.drew;have hU:IP (fun q=>q=3) O2 w3 O2 w3.drew:=aa zd O2 (ID w3).drew;have k0:∀O W,IP (fun q=>q=3) O2 w3 O W->∀(j:Nat) (u:ix),[ig,kp,ru][j]? = some u->W.cell? (nA db j)=some u:=fun O W u=>(j9.upd u zd zd).cellsAdd
  have ki:∀O W,IP (fun q=>q=3) O2 w3 O W->Sl encI 1 W ig li:=fun O W u=>hi.ext (g1.trans (u.mono (fun _ h=>zo) zd)).ext
  have kk:∀O W,IP (fun q=>q=3) O2 w3 O W->Sl encI 1 W kp lk:=fun O W u=>hk.ext (g1.trans (u.mono (fun _ h=>zo) zd)).ext
  refine bI 2 10 zk rfl rfl ?_ ?_ 
  ·refine zc LK (mI li ig _ (ki _ _ hU) x4) ?_;rintro _ wa ⟨rfl,c6⟩;rw[c6];clear c6 wa;refine zh ?_
   refine ae (k0 _ _ hU) ?_;refine bI 5 10 zk rfl rfl ?_ ?_ 
   ·refine zc LK (mI lk kp _ (kk _ _ hU) t5) ?_;rintro _ wa ⟨rfl,c6⟩;rw[c6];clear c6 wa;refine zh ?_
    refine ae (k0 _ _ hU) ?_;refine zr 9 rfl (k0 _ _ hU) (fun _=>JF (cells:=(bE (cS li) (cS lk) 0 (xs.length:Nat) (nS) dr dr).toArray) zJ (J4 _) rfl rfl) ?_
    refine IE 10 zk rfl ?_;refine ar hR 3 zd (J4 _) rfl ?_
    intro tb wc Oc fC b0 g2 y0;have hU:=IJ hU b0;have hR:=g2;refine zh ?_;refine ae (k0 _ _ hU) ?_;exact Jt (hN (tb,_,_) ⟨fC,hU,hR⟩) zk ⟨rfl,rfl,rfl,rfl,trivial⟩ rfl
   refine ar hR 3 zd (J4 _) rfl ?_;intro tb wc Oc fC b0 g2 y0;have hU:=IJ hU b0;have hR:=g2;refine zh ?_
   refine ae (k0 _ _ hU) ?_;refine IE 5 zk rfl ?_
   refine zc LK (mI lk kp _ (kk _ _ hU) t5) ?_;rintro _ wa ⟨rfl,c6⟩;rw[c6];clear c6 wa;refine zh ?_
   refine ae (k0 _ _ hU) ?_;refine zr 9 rfl (k0 _ _ hU) (fun _=>JF (cells:=(bE (cS li) (cS lk) 0 (xs.length:Nat) (nS) dr dr).toArray) zJ (J4 _) rfl rfl) ?_
   exact Jt (hN (tb,_,_) ⟨fC,hU,hR⟩) zk ⟨rfl,rfl,rfl,rfl,trivial⟩ rfl
  refine ar hR 3 zd (J4 _) rfl ?_;intro tb wc Oc fC b0 g2 y0;have hU:=IJ hU b0;have hR:=g2;refine zh ?_
  refine ae (k0 _ _ hU) ?_;refine IE 2 zk rfl ?_
  refine zc LK (mI li ig _ (ki _ _ hU) x4) ?_;rintro _ wa ⟨rfl,c6⟩;rw[c6];clear c6 wa;refine zh ?_
  refine ae (k0 _ _ hU) ?_;refine IE 5 zk rfl ?_
  refine zc LK (mI lk kp _ (kk _ _ hU) t5) ?_;rintro _ wa ⟨rfl,c6⟩;rw[c6];clear c6 wa;refine zh ?_
  refine ae (k0 _ _ hU) ?_;refine zr 9 rfl (k0 _ _ hU) (fun _=>JF (cells:=(bE (cS li) (cS lk) 0 (xs.length:Nat) (nS) dr dr).toArray) zJ (J4 _) rfl rfl) ?_
  exact Jt (hN (tb,_,_) ⟨fC,hU,hR⟩) zk ⟨rfl,rfl,rfl,rfl,trivial⟩ rfl
 rintro⟨tb,O4,w4⟩ ⟨g5,r6,x'⟩;dsimp only at g5 r6 x' ⊢;have t9:=j9.upd r6 zd zd;have u3:=g8.upd r6 zd zd;refine IE 11 zk rfl ?_;refine zsa (us:=(bE (cS li) (cS lk) 0 (xs.length:Nat) (nS) dr dr).toArray) g5 (J8 _) ?_;have s6:=g5.setRow (us:=(bE (cS li) (cS lk) 0 (xs.length:Nat) (nS) dr dr).toArray);have q':IP (fun j=>j=3) O4 w4 O4 (w4.setRow tb (bE (cS li) (cS lk) 0 (xs.length:Nat) (nS) dr dr).toArray):=I9 zd g5.tag rfl;generalize w4.setRow tb (bE (cS li) (cS lk) 0 (xs.length:Nat) (nS) dr dr).toArray=w5 at *;have m5:=t9.upd q' zd zd;have u0:=u3.upd q' zd zd;have hR5:=x'.upd q';have n7:=g1.trans ((r6.trans q').mono (fun _ h=>zo) zd);refine zh ?_;refine ae (m5.cellsAdd) ?_;have y7:=l9.ext n7.ext;have c2:w5.cell? (nA db 2)=some ru:=m5.cell 2 rfl;have z6:(2^40:Nat)=1099511627776:=zd;refine Jg zk ?_;refine zh ?_
 refine zlp (fun z:Nat×(Nat->Nat)×World×ix×ix=>[(1,nP db),(2,nP cb),(4,nP tb),(5,z.2.2.2.1),(6,z.2.2.2.2),(28,ru),(29,nI xs.length),(30,nI z.1)]) (fun z=>z.2.2.1) (fun z=>z.1<=xs.length/\IP (fun q=>3<=q) O4 w5 z.2.1 z.2.2.1/\Jo w.heap.size z.2.1 z.2.2.1/\Kv z.2.1 z.2.2.1 3 tb (bE (cS li) (cS lk) (jD ts z.1) (xs.length:Nat) (nS) dr dr).toArray 32/\Kc aW 86 3 z.2.1 z.2.2.1 4 z.2.2.2.1 ((xs.take z.1).map (·.1))/\Kc aW 86 3 z.2.1 z.2.2.1 5 z.2.2.2.2 ((xs.take z.1).map (·.2.1))) (fun z=>xs.length-z.1) (0,O4,w5,nS,nS) (⟨IK _,JS zd _ _,hR5,s6,KK _ _ _ _ _ _,KK _ _ _ _ _ _⟩) ?_;rintro⟨i,O9,w9,lv,rv⟩ ⟨z1,p',j3,j6,g7,g6⟩;dsimp only at z1 p' j3 j6 g7 g6 ⊢;have h0:=n7.trans (p'.mono (fun _ h=>zo) zd);have s7:=l9.ext h0.ext;have hxl:xs.length<=40:=zo;refine zh ?_
 refine zC ?_ ?_
 ·intro i5;replace i5:i<xs.length:=dT i5;obtain⟨x,p5⟩:∃x,x=nth xs i:=⟨_,rfl⟩
  have p4:=hx i i5;rw[<-p5]at p4;have p1:=p4.1.one;have p2:=p4.2.1.one;have y8:(cd x).toArray.toList.all IS=true:=by obtain⟨x1,x2,bk⟩:=x;exact jS p1 p2
  refine zh ?_;refine zv (ah (us:=cd x) (fun j u hu=>s7.cell i5 (by rw[<-p5];exact hu)) (isAgg88 _) (sizeOf88 _) rfl) ?_
  refine ar j3 6 zo (zeroValue88 _) rfl ?_;intro rb l0 O10 e5 u9 k8 p0;refine zh ?_
  refine zsb (us:=(cd x).toArray) e5 (sizeOf88 _) y8 ?_;have e4:=e5.setRow (us:=(cd x).toArray);have h7:IP (fun j=>j=6) O10 l0 O10 (l0.setRow rb (cd x).toArray):=I9 zd e5.tag rfl;generalize l0.setRow rb (cd x).toArray=d7 at *;have d3:=u9.trans h7;have l6:=j6.upd d3 zd zd;have m2:=g7.upd d3 zd zd;have m0:=g6.upd d3 zd zd;have k7:=k8.upd h7;obtain⟨y6,y5,rc3,_⟩:=jT e4;have hll:((xs.take i).map (·.1)).length=i:=by simp;omega
  have hrl:((xs.take i).map (·.2.1)).length=i:=by simp;omega
  refine zh ?_;refine aL (fun W=>(∀(q:Nat) (u:ix),(aW x.1)[q]? = some u->W.cell? (nA rb q)=some u)/\(∀(q:Nat) (u:ix),(aW x.2.1)[q]? = some u->W.cell? ((nA rb 3).add q)=some u)) 12 rfl zk ?_
  refine zin ⟨y6 _ (ID d7).drew,y5 _ (ID d7).drew⟩ fun zS=>?_
  refine zrm 0 rfl zS rfl ?_;refine zrf 1 rfl zS rfl ?_
  refine zt 2 rfl zS (fun w1 a6=>ah (us:=aW x.1) a6.1 (isAgg86 _) (sizeOf86 _) rfl) ?_;refine zrm 5 rfl zS rfl ?_
  refine zrf 6 rfl zS rfl ?_;refine zt 7 rfl zS (fun w1 a6=>ah (us:=aW x.2.1) a6.2 (isAgg86 _) (sizeOf86 _) rfl) ?_
  refine tp (fun y:ix×ix×(Nat->Nat)×World=>[(1,nP db),(2,nP cb),(4,nP tb),(7,nI (i:Nat)),(8,nP rb),(28,ru),(29,nI xs.length),(30,nI (i:Nat)),(39,y.1),(44,y.2.1)]) (fun y=>y.2.2.2) (fun y=>Kc aW 86 3 y.2.2.1 y.2.2.2 4 y.1 ((xs.take i).map (·.1)++[x.1])/\Kc aW 86 3 y.2.2.1 y.2.2.2 5 y.2.1 ((xs.take i).map (·.2.1)++[x.2.1])/\IP (fun q=>q=4\/q=5\/q=7\/q=8) O10 d7 y.2.2.1 y.2.2.2/\Jo w.heap.size y.2.2.1 y.2.2.2) #[true,true,true,true,true,true,true,true,true,true,false,false] 2 ?_ ?_
  ·intro hN;have hR:=k7.drew;have hU:IP (fun q=>q=4\/q=5\/q=7\/q=8) O10 d7 O10 d7.drew:=aa zd O10 (ID d7).drew;have k0:∀O W,IP (fun q=>q=4\/q=5\/q=7\/q=8) O10 d7 O W->(∀(q:Nat) (u:ix),(aW x.1)[q]? = some u->W.cell? (nA rb q)=some u)/\(∀(q:Nat) (u:ix),(aW x.2.1)[q]? = some u->W.cell? ((nA rb 3).add q)=some u):=fun O W u=>by
    obtain⟨r1,r2,_,_⟩:=jT (e4.upd u zd zd);exact⟨r1 _ (ID _),r2 _ (ID _)⟩
   have rA:=m2.drew;have rB:=m0.drew;refine bI 3 8 zk rfl rfl ?_ ?_ 
   ·refine bJ elN (enc:=aW) hR 7 zd x.1 rfl rfl rfl zd rfl ?_;intro y4 Wa Oa sA g9 u';have hU:=IJ hU (Jk g9 (fun _ h=>.inr (.inr (.inl h))) zd);have hR:=u';have rA:=IF rA g9 zd zd;have rB:=IF rB g9 zd zd
    try have sB:=IF sB g9 zd zd
    refine zh ?_;refine ae (k0 _ _ hU) ?_
    refine bI 4 8 zk rfl rfl ?_ ?_ 
    ·refine aC elN rA hR sA.sl (by simp) rfl rfl (by simp) (fun u hu c hc=>by rw[I3.1 hu]at hc;simp only[aW,IH,II,or_false]at hc;rcases hc with rfl|rfl|rfl;rfl;rfl;exact p1) (by simp only[ka];omega) (by simp only[ka];omega) zd rfl ?_;intro h' Wc Oc rA b0 g2;have hU:=IJ hU (Jk b0 (fun _ h=>.inl h) zd);have hR:=g2;have rB:=IF rB b0 zd zd
     try have sB:=IF sB b0 zd zd
     refine zh ?_;refine ae (k0 _ _ hU) ?_
     refine IE 8 zk rfl ?_;refine bJ elN (enc:=aW) hR 8 zd x.2.1 rfl rfl rfl zd rfl ?_
     intro w6 Wb Ob sB d1 o5;have hU:=IJ hU (Jk d1 (fun _ h=>.inr (.inr (.inr h))) zd);have hR:=o5;have rA:=IF rA d1 zd zd;have rB:=IF rB d1 zd zd
     try have sA:=IF sA d1 zd zd
     refine zh ?_;refine ae (k0 _ _ hU) ?_
     refine IE 9 zk rfl ?_;refine aC elN rB hR sB.sl (by simp) rfl rfl (by simp) (fun u hu c hc=>by rw[I3.1 hu]at hc;simp only[aW,IH,II,or_false]at hc;rcases hc with rfl|rfl|rfl;rfl;rfl;exact p2) (by simp only[ka];omega) (by simp only[ka];omega) zd rfl ?_
     intro h9 Wd Od rB g3 o4;have hU:=IJ hU (Jk g3 (fun _ h=>.inr (.inl h)) zd);have hR:=o4;have rA:=IF rA g3 zd zd;refine zh ?_;refine ae (k0 _ _ hU) ?_;exact Jt (hN (h',h9,_,_) ⟨rA,rB,hU,hR⟩) zk ⟨rfl,rfl,rfl,rfl,rfl,rfl,rfl,rfl,rfl,rfl,trivial⟩ rfl
    refine bJ elN (enc:=aW) hR 8 zd x.2.1 rfl rfl rfl zd rfl ?_;intro w6 Wb Ob sB d1 o5;have hU:=IJ hU (Jk d1 (fun _ h=>.inr (.inr (.inr h))) zd);have hR:=o5;have rA:=IF rA d1 zd zd;have rB:=IF rB d1 zd zd
    try have sA:=IF sA d1 zd zd
    refine zh ?_;refine ae (k0 _ _ hU) ?_
    refine IE 4 zk rfl ?_;refine aC elN rA hR sA.sl (by simp) rfl rfl (by simp) (fun u hu c hc=>by rw[I3.1 hu]at hc;simp only[aW,IH,II,or_false]at hc;rcases hc with rfl|rfl|rfl;rfl;rfl;exact p1) (by simp only[ka];omega) (by simp only[ka];omega) zd rfl ?_
    intro h' Wc Oc rA b0 g2;have hU:=IJ hU (Jk b0 (fun _ h=>.inl h) zd);have hR:=g2;have rB:=IF rB b0 zd zd
    try have sB:=IF sB b0 zd zd
    refine zh ?_;refine ae (k0 _ _ hU) ?_
    refine IE 9 zk rfl ?_;refine aC elN rB hR sB.sl (by simp) rfl rfl (by simp) (fun u hu c hc=>by rw[I3.1 hu]at hc;simp only[aW,IH,II,or_false]at hc;rcases hc with rfl|rfl|rfl;rfl;rfl;exact p2) (by simp only[ka];omega) (by simp only[ka];omega) zd rfl ?_
    intro h9 Wd Od rB g3 o4;have hU:=IJ hU (Jk g3 (fun _ h=>.inr (.inl h)) zd);have hR:=o4;have rA:=IF rA g3 zd zd;refine zh ?_;refine ae (k0 _ _ hU) ?_;exact Jt (hN (h',h9,_,_) ⟨rA,rB,hU,hR⟩) zk ⟨rfl,rfl,rfl,rfl,rfl,rfl,rfl,rfl,rfl,rfl,trivial⟩ rfl
   refine bJ elN (enc:=aW) hR 8 zd x.2.1 rfl rfl rfl zd rfl ?_;intro w6 Wb Ob sB d1 o5;have hU:=IJ hU (Jk d1 (fun _ h=>.inr (.inr (.inr h))) zd);have hR:=o5;have rA:=IF rA d1 zd zd;have rB:=IF rB d1 zd zd
   try have sA:=IF sA d1 zd zd
   refine zh ?_;refine ae (k0 _ _ hU) ?_
   refine IE 3 zk rfl ?_;refine bJ elN (enc:=aW) hR 7 zd x.1 rfl rfl rfl zd rfl ?_
   intro y4 Wa Oa sA g9 u';have hU:=IJ hU (Jk g9 (fun _ h=>.inr (.inr (.inl h))) zd);have hR:=u';have rA:=IF rA g9 zd zd;have rB:=IF rB g9 zd zd
   try have sB:=IF sB g9 zd zd
   refine zh ?_;refine ae (k0 _ _ hU) ?_
   refine IE 4 zk rfl ?_;refine aC elN rA hR sA.sl (by simp) rfl rfl (by simp) (fun u hu c hc=>by rw[I3.1 hu]at hc;simp only[aW,IH,II,or_false]at hc;rcases hc with rfl|rfl|rfl;rfl;rfl;exact p1) (by simp only[ka];omega) (by simp only[ka];omega) zd rfl ?_
   intro h' Wc Oc rA b0 g2;have hU:=IJ hU (Jk b0 (fun _ h=>.inl h) zd);have hR:=g2;have rB:=IF rB b0 zd zd
   try have sB:=IF sB b0 zd zd
   refine zh ?_;refine ae (k0 _ _ hU) ?_
   refine IE 9 zk rfl ?_;refine aC elN rB hR sB.sl (by simp) rfl rfl (by simp) (fun u hu c hc=>by rw[I3.1 hu]at hc;simp only[aW,IH,II,or_false]at hc;rcases hc with rfl|rfl|rfl;rfl;rfl;exact p2) (by simp only[ka];omega) (by simp only[ka];omega) zd rfl ?_
   intro h9 Wd Od rB g3 o4;have hU:=IJ hU (Jk g3 (fun _ h=>.inr (.inl h)) zd);have hR:=o4;have rA:=IF rA g3 zd zd;refine zh ?_;refine ae (k0 _ _ hU) ?_;exact Jt (hN (h',h9,_,_) ⟨rA,rB,hU,hR⟩) zk ⟨rfl,rfl,rfl,rfl,rfl,rfl,rfl,rfl,rfl,rfl,trivial⟩ rfl
  rintro⟨h',h9,O12,g4⟩ ⟨e6,a',b8,a5⟩;dsimp only at e6 a' b8 a5 ⊢;have m1:=e4.upd b8 zd zd;have a9:=l6.upd b8 zd zd;obtain⟨s1,s2,s3,_⟩:=jT m1;have b3:=(p'.trans (d3.mono (fun _ h=>zo) zd)).trans (b8.mono (fun _ h=>zo) zd);have s3':=s3 _ (ID _);have x6:x.2.2=(nth ts i).2.2:=p4.2.2;have el:(xs.take (i+1)).map (·.1)=(xs.take i).map (·.1)++[x.1]:=by rw[aI i5,KC,<-p5];rfl
  have er:(xs.take (i+1)).map (·.2.1)=(xs.take i).map (·.2.1)++[x.2.1]:=by rw[aI i5,KC,<-p5];rfl
  refine zin (⟨s1 _ (ID _),s2 _ (ID _)⟩) fun zS=>?_
  refine zra 10 rfl zS rfl ?_;refine zra 11 rfl zS rfl ?_
  refine Jg zk ?_;refine zh ?_
  have z3:=uL ts i zo;refine zC ?_ ?_
  ·intro hb;have u5:jD ts (i+1)=jD ts i ||| 2^i:=by rw[show jD ts (i+1)=if(nth ts i).2.2=true then jD ts i ||| 2^i else jD ts i from rfl,if_pos (by rw[<-x6];exact hb)]
   have hpw:2^i<2^40:=Ju zd zo;have t2:g4.cell? (nA tb 2)=some (.int .u64 ((jD ts i:Nat):Int)):=a9.cell 2 rfl;refine My 6 rfl rfl zk zk ?_;refine zh ?_;refine zw (uY (a:=1) (b:=i) rfl rfl rfl rfl (by show _<=64;omega) (by show _<=(18446744073709551615:Int);omega)) ?_;rw[KB];refine zwH (nJ (a:=jD ts i) (b:=2^i) rfl rfl rfl rfl (by show _<=(18446744073709551615:Int);omega) (by show _<=(18446744073709551615:Int);omega)) ?_;refine WS.go ?_;rw[<-u5];refine aj (j:=2) a9.drew rfl (Lu _) rfl rfl rfl rfl ?_;have h6:IP (fun j=>j=3) O12 g4.drew O12 (g4.drew.setCell ⟨tb,2,none⟩ (.int .u64 ((jD ts (i+1):Nat):Int))):=Jq zd a9.tag rfl;have l5:Kv O12 (g4.drew.setCell ⟨tb,2,none⟩ (.int .u64 ((jD ts (i+1):Nat):Int))) 3 tb (bE (cS li) (cS lk) (jD ts (i+1)) (xs.length:Nat) (nS) dr dr).toArray 32:=a9.drew.set 2 _;generalize g4.drew.setCell ⟨tb,2,none⟩ (.int .u64 ((jD ts (i+1):Nat):Int))=s0 at *;refine zh ?_;refine zxd (i+1,O12,s0,h',h9) (⟨i5,b3.drew.trans (h6.mono (fun _ h=>zo) zd),a5.drew.upd h6,l5,by dsimp only;rw[el];exact e6.drew.upd h6 zd zd,by dsimp only;rw[er];exact a'.drew.upd h6 zd zd⟩)
  intro hb;have u5:jD ts (i+1)=jD ts i:=by rw[show jD ts (i+1)=if(nth ts i).2.2=true then jD ts i ||| 2^i else jD ts i from rfl,if_neg (by rw[<-x6,hb];decide)]
  refine zh ?_;refine zxd (i+1,O12,g4,h',h9) (⟨i5,b3,a5,by dsimp only;rw[u5];exact a9,by dsimp only;rw[el];exact e6,by dsimp only;rw[er];exact a'⟩)
 intro p6;obtain rfl:i=xs.length:=dF p6;rw[IR]at g7 g6;have hR9':=j3;refine zh ?_;refine zc call35 (oG true (sx ts) (xs.map (·.1)) lv w9 g7.sl (by simp[hl]) (fun j hj=>by rw[Jd]at hj;rw[ei hj,show sx ts=ts.map (·.1)from rfl,ei zo];exact(hx j hj).1.ext h0.ext)) ?_;rintro va l0 ⟨p0,hPa⟩;obtain⟨e0,d9,ea,rfl,a1,a2,ha0,ha1⟩:=hPa.uni;have k5:IP (fun _=>False) O9 w9 O9 l0:=aa (fun h=>h) O9 p0;have k8:=j3.upd k5;refine zh ?_;refine ar k8 7 zo (Jn _) rfl ?_;intro ab d7 O11 f4 h7 k7 hE11;refine zsb (us:=#[e0,d9]) f4 (IZ _) (by simp only[IG,a1,a2];rfl) ?_;have n3:=f4.setRow (us:=#[e0,d9]);have b8:IP (fun j=>j=7) O11 d7 O11 (d7.setRow ab #[e0,d9]):=I9 zd f4.tag rfl;generalize d7.setRow ab #[e0,d9]=g4 at *;have g0:=h7.trans b8;have b3:=(k5.mono (S':=fun q=>q=7) (fun _ h=>h.elim) zd).trans g0;have a5:=k7.upd b8;have a':=g6.upd b3 zd zd;have n5:=h0.trans (b3.mono (fun _ h=>zo) zd);refine zh ?_;refine zc call35 (oG false (lP ts) (xs.map (·.2.1)) rv g4 a'.sl (by simp[hl]) (fun j hj=>by rw[Jd]at hj;rw[ei hj,show lP ts=ts.map (·.2.1)from rfl,ei zo];exact(hx j hj).2.1.ext n5.ext)) ?_;rintro vb s0 ⟨v6,hPb⟩;obtain⟨d',d8,eb,rfl,b1,b2,z8,z7⟩:=hPb.uni;have n4:IP (fun _=>False) O11 g4 O11 s0:=aa (fun h=>h) O11 v6;have v2:=a5.upd n4;refine zh ?_;refine ar v2 8 zo (Jn _) rfl ?_
 intro bb r' O14 e' u7 v1 hE14;refine zsb (us:=#[d',d8]) e' (IZ _) (by simp only[IG,b1,b2];rfl) ?_;have i':=e'.setRow (us:=#[d',d8]);have n6:IP (fun j=>j=8) O14 r' O14 (r'.setRow bb #[d',d8]):=I9 zd e'.tag rfl;generalize r'.setRow bb #[d',d8]=w15 at *;have b7:=u7.trans n6;have f8:=(n4.mono (S':=fun q=>q=8) (fun _ h=>h.elim) zd).trans b7;have b9:=(g0.mono (S':=fun q=>q=7\/q=8) (fun _ h=>.inl h) zd).trans (f8.mono (fun _ h=>.inr h) zd);have f5:=(k5.mono (S':=fun q=>q=7\/q=8) (fun _ h=>h.elim) zd).trans b9;have o7:=v1.upd n6;have d2:=h0.trans (f5.mono (fun _ h=>zo) zd);have j1:=n3.upd f8 zd zd;have l4:=j6.upd f5 zd zd;have a4:=(u0.upd p' zd zd).upd f5 zd zd;refine zh ?_
 by_cases p8:ea=0
 ·refine au (d:=66) rfl (b':=false) ((by rw[p8];rfl)) ?_;refine zh ?_
  by_cases p7:eb=0
  ·obtain⟨a,y3,z9,x8,z',j8,j5,l3⟩:=ha1 p8;obtain⟨b,y2,z4,x7,z5,j7,j4,l2⟩:=z7 p7;have r8:=fZ x8 y3;have r7:=fZ x7 y2;obtain⟨A,hA⟩:∃A,A=cL y3 a.1 a.2:=⟨_,rfl⟩
   obtain⟨B,hB⟩:∃B,B=cL y2 b.1 b.2:=⟨_,rfl⟩
   rw[<-hA]at r8 j8 j5;rw[<-hB]at r7 j7 j4;refine zFH rfl ((by rw[p7];rfl)) ?_;refine zv (ah (us:=[e0,d9]) j1.cellsAdd (Ka _) (IZ _) rfl) ?_;refine zv (ah (us:=[d',d8]) i'.cellsAdd (Ka _) (IZ _) rfl) ?_;refine iQ underlying119 (IZ _) (Jn _) xS [(e0,d9),(d',d8)] rfl rfl rfl rfl zk (by simp) rfl ?_;intro l1 p3 l8 o';have g':IP (fun _=>False) O14 w15 O14 p3:=aa (fun h=>h) O14 o';have f':=b9.trans (g'.mono (S':=fun q=>q=7\/q=8) (fun _ h=>h.elim) zd);have f7:=b7.trans (g'.mono (S':=fun q=>q=8) (fun _ h=>h.elim) zd);have v':=j8.upd j3 f';have v8:=j7.upd a5 f7;have o2:=l3.slU j5 j3 f';have o0:=l2.slU j4 a5 f7
   have n9:TabsD p3 l1 [(e0,d9),(d',d8)] [A.1,B.1] [A.2,B.2]:=⟨l8,rfl,rfl,fun i hi=>by
    match i,hi with
    |0,_=>exact⟨by rw[ax,ax];exact v'.rows,by rw[ax,ax];exact o2,by rw[ax,ax];exact r8⟩
    |1,_=>exact⟨by rw[bA,bA,ax,ax];exact v8.rows,by rw[bA,bA,ax,ax];exact o0,by rw[bA,bA,ax,ax];exact r7⟩⟩
   refine zc call36 (xM [(e0,d9),(d',d8)] [A.1,B.1] [A.2,B.2] l1 p3 n9 (by simp)) ?_;rintro gv k' ⟨c8,v5,i6⟩;obtain⟨many,hg,m4⟩:=pc [A.1,B.1];obtain⟨g,p6⟩:∃g,g=bD [A.1,B.1]:=⟨_,rfl⟩
   rw[<-p6]at hg m4 c8;have x5:∀T∈[A,B],∀p,p<T.1.length->∀i j,i<37->j<37->nth g i=nth g j->nth (nth T.1 p) i=nth (nth T.1 p) j:=fun T hT p hp i j hi hj e=>by
    refine vU (tabs:=[A.1,B.1]) (fun rows e2 r hr=>?_) ((m4 i j hi hj).1 e) T.1 ?_ _ (aM hp)
    ·have o3:∃w0,Kd rows w0:=by
      rcases IH.1 e2 with rfl|e2
      ·exact⟨_,r8⟩
      rw[I3.1 e2];exact⟨_,r7⟩
     obtain⟨w0,o3⟩:=o3;obtain⟨q,hq,rfl⟩:=IC hr;have h1:=(o3.row q hq).2 i hi;have h2:=(o3.row q hq).2 j hj;have:=o3.le;omega
    rcases IH.1 hT with rfl|hT
    ·simp
    rw[I3.1 hT];simp
   have u6:IP (fun _=>False) O14 p3 O14 k':=aa (fun h=>h) O14 v5;have b6:=g'.trans u6;have e1:=l4.upd b6 zd (fun h=>h);have v0:=o7.upd b6;have y1:=c8.one;have i8:=i6.free c8 (fun x _=>by simp) (o7.upd g');refine zh ?_;refine aj (j:=4) e1 rfl (KF _) y1 rfl rfl rfl ?_;have h5:IP (fun j=>j=3) O14 k' O14 (k'.setCell ⟨tb,4,none⟩ gv):=Jq zd e1.tag rfl;have c7:Kv O14 (k'.setCell ⟨tb,4,none⟩ gv) 3 tb (bE (cS li) (cS lk) (jD ts xs.length) (xs.length:Nat) gv dr dr).toArray 32:=e1.set 4 _;generalize k'.setCell ⟨tb,4,none⟩ gv=w18 at *;have e7:=c8.upd i8 h5;have i7:=i8.upd h5;have o6:=v0.upd h5;have a0:=(b6.mono (S':=fun q=>q=3) (fun _ h=>h.elim) zd).trans h5;have c':=j1.upd a0 zd zd;have c9:=i'.upd a0 zd zd;have m9:=a4.upd a0 zd zd;have j2:=d2.trans (a0.mono (fun _ h=>zo) zd);have f9:=(b9.mono (S':=fun q=>q=3\/q=7\/q=8) (fun _ h=>.inr h) zd).trans (a0.mono (fun _ h=>.inl h) zd);have f6:=(b7.mono (S':=fun q=>q=3\/q=8) (fun _ h=>.inr h) zd).trans (a0.mono (fun _ h=>.inl h) zd);have v9:=j8.upd j3 f9;have v7:=j7.upd a5 f6;have o1:=l3.slU j5 j3 f9;have n':=l2.slU j4 a5 f6;refine zh ?_;have d4:w18.drew.cell? (nA tb 4)=some gv:=c7.cell 4 rfl;refine aL (fun W=>W.cell? (nA tb 4)=some gv/\(∀j u,[e0,d9][j]? = some u->W.cell? (nA ab j)=some u)/\∀j u,[d',d8][j]? = some u->W.cell? (nA bb j)=some u) 12 rfl zk ?_;refine zin ⟨d4,c'.drew.cellsAdd,c9.drew.cellsAdd⟩ fun zS=>?_
   refine zrf 0 rfl zS rfl ?_;refine zt 1 rfl zS (fun w1 a6=>RV.ld a6.1 rfl) ?_
   refine zt 2 rfl zS (fun w1 a6=>ah (us:=[e0,d9]) a6.2.1 (Ka _) (IZ _) rfl) ?_;refine zrf 4 rfl zS rfl ?_
   refine zt 5 rfl zS (fun w1 a6=>RV.ld a6.1 rfl) ?_;refine zt 6 rfl zS (fun w1 a6=>ah (us:=[d',d8]) a6.2.2 (Ka _) (IZ _) rfl) ?_
   have g3:IP (fun _=>False) O14 w18 O14 w18.drew:=aa (fun h=>h) O14 (ID w18).drew;refine IE 3 zk rfl ?_;refine zc call37 (vt g many gv e0 d9 A.1 A.2 w18.drew hg e7.drew (v9.ext (ID w18).drew).rows o1.drew r8 (x5 A (by simp))) ?_;rintro _ r9 ⟨lc,rfl,y',t4,o9⟩;have d5:IP (fun _=>False) O14 w18 O14 r9:=g3.trans (aa (fun h=>h) O14 o9);have a3:KU w18 r9:=(ID w18).drew.trans o9;refine zh ?_;refine ae (⟨a3.cell (c7.cell 4 rfl),(c'.upd d5 zd (fun h=>h)).cellsAdd,(c9.upd d5 zd (fun h=>h)).cellsAdd⟩) ?_;refine zrf 8 rfl (⟨a3.cell (c7.cell 4 rfl),(c'.upd d5 zd (fun h=>h)).cellsAdd,(c9.upd d5 zd (fun h=>h)).cellsAdd⟩) rfl ?_;refine IE 7 zk rfl ?_;refine zc call37 (vt g many gv d' d8 B.1 B.2 r9 hg (e7.ext a3) (v7.ext a3).rows (n'.ext a3) r7 (x5 B (by simp))) ?_;rintro _ k9 ⟨rc,rfl,y9,e3,o8⟩;have b5:IP (fun _=>False) O14 w18 O14 k9:=d5.trans (aa (fun h=>h) O14 o8);have a8:=c7.upd b5 zd (fun h=>h);have j0:=c'.upd b5 zd (fun h=>h);have i9:=c9.upd b5 zd (fun h=>h);have m8:=m9.upd b5 zd (fun h=>h);have m3:=y'.ext o8;refine zh ?_;refine ae (⟨a8.cell 4 rfl,j0.cellsAdd,i9.cellsAdd⟩) ?_;obtain⟨u1,b4,k1,n1,t1,t6,s5,k4,t8,t3,w8⟩:=m3;obtain⟨u2,d6,k2,n2,t2,s',s4,k3,t7,t0,w7⟩:=y9;subst t6;subst s';have q1:=s5.one;have q2:=k4.one;have q3:=t8.one;have q4:=t3.one;have q5:=w8.one;have r1:=s4.one;have r2:=k3.one;have r3:=t7.one;have r4:=t0.one;have r5:=w7.one;obtain⟨pa,x3⟩:∃pa,pa=dk g many A.1:=⟨_,rfl⟩
   obtain⟨pb,x0⟩:∃pb,pb=dk g many B.1:=⟨_,rfl⟩
   rw[<-x3]at s5 k4 t8 t3 t4 ⊢;rw[<-x0]at s4 k3 t7 t0 e3 ⊢;obtain⟨c5,m'⟩:∃c5,c5=jD ts xs.length:=⟨_,rfl⟩
   rw[<-m']at a8;refine IE 9 zk rfl ?_;refine dZ (us:=#[nI pa.width,u1,b4,k1,n1,t1]) 5 (bE (cS li) (cS lk) c5 (xs.length:Nat) gv [nI pa.width,u1,b4,k1,n1,t1] dr).toArray a8 rfl (by show 5+6<=17;omega) (J5 _) (by simp only[IG,q1,q2,q3,q4,q5];rfl) rfl rfl rfl ?_;have a7:=a8.setRow (us:=(bE (cS li) (cS lk) c5 (xs.length:Nat) gv [nI pa.width,u1,b4,k1,n1,t1] dr).toArray);have h4:IP (fun j=>j=3) O14 k9 O14 (k9.setRow tb (bE (cS li) (cS lk) c5 (xs.length:Nat) gv [nI pa.width,u1,b4,k1,n1,t1] dr).toArray):=I9 zd a8.tag rfl;generalize k9.setRow tb (bE (cS li) (cS lk) c5 (xs.length:Nat) gv [nI pa.width,u1,b4,k1,n1,t1] dr).toArray=w21 at *;have f3:=j0.upd h4 zd zd;have e9:=i9.upd h4 zd zd;have m7:=m8.upd h4 zd zd;refine zh ?_;refine ae (⟨a7.cell 4 rfl,f3.cellsAdd,e9.cellsAdd⟩) ?_;refine zrf 10 rfl (⟨a7.cell 4 rfl,f3.cellsAdd,e9.cellsAdd⟩) rfl ?_;refine IE 11 zk rfl ?_;refine dZ (us:=#[nI pb.width,u2,d6,k2,n2,t2]) 11 (bE (cS li) (cS lk) c5 (xs.length:Nat) gv [nI pa.width,u1,b4,k1,n1,t1] [nI pb.width,u2,d6,k2,n2,t2]).toArray a7 rfl (by show 11+6<=17;omega) (J5 _) (by simp only[IG,r1,r2,r3,r4,r5];rfl) rfl rfl rfl ?_;have i0:=a7.setRow (us:=(bE (cS li) (cS lk) c5 (xs.length:Nat) gv [nI pa.width,u1,b4,k1,n1,t1] [nI pb.width,u2,d6,k2,n2,t2]).toArray)
   have h3:IP (fun j=>j=3) O14 w21 O14 (w21.setRow tb (bE (cS li) (cS lk) c5 (xs.length:Nat) gv [nI pa.width,u1,b4,k1,n1,t1] [nI pb.width,u2,d6,k2,n2,t2]).toArray):=I9 zd a7.tag rfl;generalize w21.setRow tb (bE (cS li) (cS lk) c5 (xs.length:Nat) gv [nI pa.width,u1,b4,k1,n1,t1] [nI pb.width,u2,d6,k2,n2,t2]).toArray=w22 at *;have e8:=m7.upd h3 zd zd;refine zh ?_;refine ae (⟨i0.cell 4 rfl,(f3.upd h3 zd zd).cellsAdd,(e9.upd h3 zd zd).cellsAdd⟩) ?_;have go2:=y1;have n0:(bE (cS li) (cS lk) c5 (xs.length:Nat) gv [nI pa.width,u1,b4,k1,n1,t1] [nI pb.width,u2,d6,k2,n2,t2]).toArray.toList.all IS=true:=by
    simp only[bE,List.cons_append,Lz,IG,go2,q1,q2,q3,q4,q5,r1,r2,r3,r4,r5];rfl
   refine Jg zk ?_;refine zh ?_
   refine zv (ah (us:=bE (cS li) (cS lk) c5 (xs.length:Nat) gv [nI pa.width,u1,b4,k1,n1,t1] [nI pb.width,u2,d6,k2,n2,t2]) i0.cellsAdd (Ko _) (J8 _) rfl) ?_;refine zsb (us:=(bE (cS li) (cS lk) c5 (xs.length:Nat) gv [nI pa.width,u1,b4,k1,n1,t1] [nI pb.width,u2,d6,k2,n2,t2]).toArray) e8 (J8 _) n0 ?_
   have j':=L3 (us:=(bE (cS li) (cS lk) c5 (xs.length:Nat) gv [nI pa.width,u1,b4,k1,n1,t1] [nI pb.width,u2,d6,k2,n2,t2]).toArray) e8;have k6:IP (fun j=>j=2) O14 w22 O14 (w22.setRow cb (bE (cS li) (cS lk) c5 (xs.length:Nat) gv [nI pa.width,u1,b4,k1,n1,t1] [nI pb.width,u2,d6,k2,n2,t2]).toArray):=I9 zd e8.tag rfl;have hU20z:=((h4.mono (S':=fun q=>q=2\/q=3) (fun _ h=>.inr h) zd).trans (h3.mono (fun _ h=>.inr h) zd)).trans (k6.mono (fun _ h=>.inl h) zd);have hPL:PartV k9 [nI pa.width,u1,b4,k1,n1,t1] pa A.2:=⟨u1,b4,k1,n1,t1,rfl,s5,k4,t8,t3,w8⟩
   have hPR:PartV k9 [nI pb.width,u2,d6,k2,n2,t2] pb B.2:=⟨u2,d6,k2,n2,t2,rfl,s4,k3,t7,t0,w7⟩
   have v4:=hPL.upd t4 o6.drew hU20z;have v3:=hPR.upd e3 (o6.upd d5) hU20z;have z2:=(e7.upd i7 b5).upd (i7.upd b5) hU20z;have i4:=j2.size;have l7:=a3.size;refine zh ?_;refine aS rfl rfl rfl (j'.cellsAdd) (Ko _) (J8 _) (⟨((j2.trans (b5.mono (fun _ h=>h.elim) zd)).trans (hU20z.mono (fun _ h=>zo) zd)).ext,BQ l' z9 z4 x8 x7 z' z5 hA hB p6 hg.cnt x3 x0 m' hl z2 v4 v3 (i6.mono (Kr d2.size o'.size)) (fun v hv=>(t4 v hv).mono i4) (fun v hv=>(e3 v hv).mono (Kr i4 l7))⟩)
  refine zTH rfl ((by simpa using p7)) ?_;refine zv (JF (cells:=iw) zJ (J4 _) rfl rfl) ?_
  refine zsa (us:=iw) a4 (J8 _) ?_;have j':=L3 (us:=iw) a4;have k6:IP (fun j=>j=2) O14 w15 O14 (w15.setRow cb iw):=I9 zd a4.tag rfl;refine zh ?_
  refine aS rfl rfl rfl (j'.cellsAdd) (Ko _) (J8 _) (⟨(d2.trans (k6.mono (fun _ h=>zo) zd)).ext,.inr ⟨l',.inr ⟨(.inr (z8 p7)),rfl⟩⟩⟩)
 refine au (d:=66) rfl (b':=true) ((by simpa using p8)) ?_;refine zh ?_
 refine zTH rfl rfl ?_;refine zv (JF (cells:=iw) zJ (J4 _) rfl rfl) ?_
 refine zsa (us:=iw) a4 (J8 _) ?_;have j':=L3 (us:=iw) a4;have k6:IP (fun j=>j=2) O14 w15 O14 (w15.setRow cb iw):=I9 zd a4.tag rfl;refine zh ?_
 refine aS rfl rfl rfl (j'.cellsAdd) (Ko _) (J8 _) (⟨(d2.trans (k6.mono (fun _ h=>zo) zd)).ext,.inr ⟨l',.inr ⟨(.inl (ha0 p8)),rfl⟩⟩⟩)
end Go.Proofs.YtpfpmhhigheccaaGreatDoor
end
section
namespace Go.VL
section
variable{P:Ke}{N:Nat}{st:St}{w:ln}{t xt yt:IU}{x y:JW}{k:LV}{m n:Int}
theorem Fe(hx:ev st x=some (.int k m)):RV P N (.unOp .neg xt x) t st w (.int k (k.wrap (-m))):=
 fun a ha a0 p e g=>by simp only[execOp,ha.ev hx];simp[Op.unary,Op.intArith,pure]
theorem Ff(hx:ev st x=some (.int k m))(hy:ev st y=some (.int k n)):RV P N (.binOp .mul xt x y yt) t st w (.int k (k.wrap (m*n))):=
 dS hx hy tO
end
theorem F9(b j:Nat):nA b j=⟨b,j,none⟩:=by simp only[JR];split<;>simp_all
end Go.VL
namespace Go.Proofs.YtpfpmhhigheccaaGreatDoor
open Go.VL Go.Proofs
set_option maxRecDepth 10000
theorem FL(x:Nat)(w:ln)(hx:x<18446744073709551616)(h0:x≠0)(hT:LP 0 Ls w):Kx J3 128 [.int .u64 (x:Nat)] w fun v w'=>v=nI ((L0 64 x:Nat):Int)/\w'=w:=by
 obtain⟨a0,hk⟩:=LO 64 x h0 hx;obtain⟨hi,a1⟩:=Lib.deBruijn64_at _ hk;have hp:2^L0 64 x<18446744073709551616:=Jh (Ju zd hk) zd;generalize L0 64 x=k at *;rw[show(2^64:Nat)=18446744073709551616 from by decide]at a0;generalize 2^k=pk at *;generalize a2:pk*285870213051353865 % 18446744073709551616 / 288230376151711744=idx at *;have a3:w.cell? (nA 0 idx)=some (.int .u8 (k:Int)):=by
  have:=hT idx hi;rw[a1]at this;rw[F9];exact this
 refine I8 func128 ntmps128 rfl rfl ?_;refine zh ?_
 refine zFH rfl ((by rw[beq_eq_false_iff_ne];omega)) ?_;refine zv (Fe rfl) ?_
 refine zv (lL (a:=x) (b:=18446744073709551616-x) rfl rfl rfl (by rw[L8];omega) (by show _<=(18446744073709551615:Int);omega) (by show _<=(18446744073709551615:Int);omega)) ?_;rw[a0];refine zv (Ff rfl rfl) ?_
 rw[show K4.wrap (((pk:Nat):Int)*285870213051353865)=((pk*285870213051353865 % 18446744073709551616:Nat):Int)from by rw[L8];omega];refine zv (eM (a:=pk*285870213051353865 % 18446744073709551616) (b:=58) rfl rfl rfl rfl zd) ?_;rw[show pk*285870213051353865 % 18446744073709551616 / 2^58=idx from a2];refine zvH (eN underlying229 (Mm _) rfl rfl idx rfl hi) ?_;refine zvH (dU JT JU rfl (JB zo)) ?_;refine af rfl rfl (⟨rfl,rfl⟩)
theorem qB(s c:Nat)(w:ln)(hs:s<18446744073709551616)(hc:c<64):Kx J3 70 [.int .u64 (s:Nat),nI (c:Nat)] w fun v w'=>v=.bool (s.testBit c)/\w'=w:=by
 have hd:s / 2^c<=s:=Nat.div_le_self _ _;have e:(((s / 2^c &&& 1:Nat):Int)==1)=s.testBit c:=by
  rw[Nat.and_one_is_mod,Nat.testBit_eq_decide_div_mod_eq]
  rcases Nat.mod_two_eq_zero_or_one (s / 2^c)with h|h<;>rw[h]<;>rfl
 refine I8 func70 ntmps70 rfl rfl ?_;refine zh ?_
 refine zv (eM (a:=s) (b:=c) rfl rfl rfl rfl (by show _<=64;omega)) ?_;refine zvH (lL (a:=s / 2^c) (b:=1) rfl rfl rfl rfl (by show _<=(18446744073709551615:Int);omega) zd) ?_
 refine af rfl rfl (⟨by rw[<-e],rfl⟩)
theorem jM(cs:List ix)(p:La)(tl:List Nat)(r c:Nat)(w:ln)(h:PartV w cs p tl)(ok:OkP p)(hr:r<p.usual.length)(a9:c<64):
  Kx J3 69 [.agg cs.toArray,nI (r:Nat),nI (c:Nat)] w fun v w'=>v=nI (getM p r c)/\KU w w':=by
 obtain⟨uv,bv,kv,nv,tv,rfl,a3,a7,a5,a4,a8⟩:=h;obtain⟨o1,o2,o3,o4,o5,o6,o7⟩:=ok;have a6:=o7 r zo;obtain⟨b,a2⟩:=Int.eq_ofNat_of_zero_le a6.1;have hg:getM p r c=if b+c<p.check.length/\nth p.check (b+c)=r then nth p.next (b+c)else nth p.usual r:=by simp only[getM,a2];rfl
 refine I8 func69 ntmps69 rfl rfl ?_;refine zh ?_
 refine aF (aw w) 1 zo rfl rfl ?_;intro db w1 O1 a1 a' b0 a0;have hu:=a3.ext a0;have hb:=a7.ext a0;have hk:=a5.ext a0;have hn:=a4.ext a0;have c1:w1.cell? ((nA db 0).add 1)=some uv:=a1.cell 1 rfl;have c2:w1.cell? ((nA db 0).add 2)=some bv:=a1.cell 2 rfl;have c3:w1.cell? ((nA db 0).add 3)=some kv:=a1.cell 3 rfl;have c4:w1.cell? ((nA db 0).add 4)=some nv:=a1.cell 4 rfl;have k1:w1.cell? (adr bv 1 r)=some (nI (b:Int)):=by have:=hb.cell (i:=r) (j:=0) zo rfl;rw[ay,a2]at this;exact this
 refine zh ?_
 by_cases h1:b+c<p.check.length
 ·refine au (d:=22) rfl (b':=true) (decide_eq_true zo) ?_;have k2:w1.cell? (adr kv 1 (b+c))=some (nI (nth p.check (b+c))):=by have:=hk.cell (i:=b+c) (j:=0) h1 rfl;rwa[ay]at this
  have k3:w1.cell? (adr nv 1 (b+c))=some (nI (nth p.next (b+c))):=by have:=hn.cell (i:=b+c) (j:=0) zo rfl;rwa[ay]at this
  refine zh ?_;refine zC ?_ ?_
  ·intro he;replace he:nth p.check (b+c)=r:=by simpa using he
   rw[if_pos ⟨h1,he⟩]at hg;refine zh ?_;refine af rfl rfl (⟨by rw[hg],a0⟩)
  intro he;replace he:¬nth p.check (b+c)=r:=by simpa using he
  rw[if_neg (fun h=>he h.2)]at hg;have k4:w1.cell? (adr uv 1 r)=some (nI (nth p.usual r)):=by have:=hu.cell (i:=r) (j:=0) hr rfl;rwa[ay]at this
  refine zh ?_;refine af rfl rfl (⟨by rw[hg],a0⟩)
 rw[if_neg (fun h=>h1 h.1)]at hg;have k4:w1.cell? (adr uv 1 r)=some (nI (nth p.usual r)):=by have:=hu.cell (i:=r) (j:=0) hr rfl;rwa[ay]at this
 refine au (d:=22) rfl (b':=false) (decide_eq_false zo) ?_;refine zh ?_
 refine zFH rfl rfl ?_;refine af rfl rfl (⟨by rw[hg],a0⟩)
end Go.Proofs.YtpfpmhhigheccaaGreatDoor
end
namespace Go.Proofs.YtpfpmhhigheccaaGreatDoor
def DP(l:List Int):Int:=l.foldl max (nth l 0)
theorem B5(l:List Int)(sv:ix)(w:ln)(h:K2 w sv l)(a1:0<l.length):Kx J3 51 [sv] w fun v w'=>v=nI (DP l)/\w'=w:=by
 have hl:=h.len_le;have m0:w.cell? (adr sv 1 0)=some (nI (nth l 0)):=by have:=h.cell (j:=0) a1 rfl;rwa[ay]at this
 have e1:nth l 0=(l.take 1).foldl max (nth l 0):=by
  rw[aI a1];simp
 have a2:DP l=(l.take l.length).foldl max (nth l 0):=by rw[IR];rfl
 rw[a2];obtain⟨z0,a3⟩:∃z,z=nth l 0:=⟨_,rfl⟩
 rw[<-a3]at m0 e1 ⊢;refine I8 func51 ntmps51 rfl rfl ?_;refine zh ?_;refine zFH rfl ((decide_eq_false zo)) ?_;refine zlp (fun z:Nat×Int=>[(0,sv),(3,nI z.2),(4,nI z.1)]) (fun z=>w) (fun z=>1<=z.1/\z.1<=l.length/\z.2=(l.take z.1).foldl max z0) (fun z=>l.length-z.1) (1,z0) (⟨IV _,a1,e1⟩) ?_;rintro⟨q,m⟩ ⟨a4,hq,hm⟩;dsimp only at a4 hq hm ⊢;refine zh ?_;refine zC ?_ ?_
 ·intro a0;replace a0:q<l.length:=dT a0;have m1:w.cell? (adr sv 1 q)=some (nI (nth l q)):=by have:=h.cell (j:=0) a0 rfl;rwa[ay]at this
  refine zh ?_;refine zvH (jF rfl rfl) ?_
  refine zxd (q+1,max m (nth l q)) (⟨by dsimp only;omega,a0,by dsimp only;rw[aI a0,JK,<-hm];rfl⟩)
 intro a5;obtain rfl:q=l.length:=dF a5;refine zh ?_;refine af rfl rfl (⟨by rw[hm],rfl⟩)
theorem oj{F:FuncId}(hF:∀(args:Array ix) (w:ln),(callFunc F args).run J3 w=.ok (.enter F args) w)(cs:Array ix)(l:List (Nat))(sv:ix)(q:Nat->Bool)(w:ln)(h:Sl fj 1 w sv l) 
  (hq:∀i,i<l.length->∀w',KU w w'->Kx J3 F ([(fun n:Nat=>M8 .u64 (n:Int)) (nth l i)]++cs.toList) w' fun v w''=>v=.bool (q i)/\KU w' w'') :
  Kx J3 76 [sv,.func (.func F) #[] cs] w fun v w'=>v=nI (dw q l.length)/\KU w w':=by
 have hl:=h.len_le;refine I8 func76 ntmps76 rfl rfl ?_;refine zh ?_;refine zlp (fun x:Nat×ln=>[(0,sv),(1,.func (.func F) #[] cs),(7,nI l.length),(8,nI x.1)]) (fun x=>x.2) (fun x=>x.1<=l.length/\KU w x.2/\∀i,i<x.1->q i=false) (fun x=>l.length-x.1) (0,w) (⟨IK _,ID _,fun i hi=>absurd hi (KG i)⟩) ?_;rintro⟨k,w1⟩ ⟨hk,hE,a1⟩;dsimp only at hk hE a1 ⊢;have h1:=h.ext hE;refine zh ?_;refine zC ?_ ?_
 ·intro a0;replace a0:k<l.length:=dT a0;refine zh ?_;refine zv (RV.ld (by have:=h1.cell (i:=k) (j:=0) a0 rfl;rwa[ay]at this) rfl) ?_;refine dq rfl hF rfl (hq k a0 w1 hE) rfl ?_;rintro v w2 ⟨rfl,a3⟩;refine zh ?_;refine zC ?_ ?_
  ·intro hy;refine zh ?_;refine af rfl rfl (⟨by rw[ct a0 hy a1],hE.trans a3⟩)
  intro hy;refine zh ?_;refine zxd (k+1,w2) (⟨a0,hE.trans a3,fun i hi=>(Nat.lt_succ_iff_lt_or_eq.1 hi).elim (a1 i) (fun e=>by rw[e];exact hy)⟩)
 intro a2;replace a2:l.length<=k:=dF a2;refine zh ?_;refine af rfl rfl (⟨by rw[cn fun i hi=>a1 i zo],hE⟩)
theorem lB{F:FuncId}(hF:∀(args:Array ix) (w:ln),(callFunc F args).run J3 w=.ok (.enter F args) w)(cs:Array ix)(l:List (Nat))(sv:ix)(q:Nat->Bool)(w:ln)(h:Sl fj 1 w sv l) 
  (hq:∀i,i<l.length->∀w',KU w w'->Kx J3 F ([(fun n:Nat=>M8 .u64 (n:Int)) (nth l i)]++cs.toList) w' fun v w''=>v=.bool (q i)/\KU w' w'') :
  Kx J3 47 [sv,.func (.func F) #[] cs] w fun v w'=>v=.bool (iY q l.length)/\KU w w':=by
 refine I8 func47 ntmps47 rfl rfl ?_;refine zh ?_
 refine zc call76 (oj hF cs l sv q w h hq) ?_;rintro v w1 ⟨rfl,hE⟩;refine zh ?_
 refine af rfl rfl (⟨by rw[firstN_any],hE⟩)
theorem AK(b a0:Nat)(a:KW)(w:ln)(hr:a0<=64)(hc:w.cell? a=some (nI (a0:Nat))):Kx J3 48 [.int .u64 (b:Nat),.pointer (some a)] w fun v w'=>v=.bool (!(b / 2^a0==0))/\w'=w:=by
 have e:((((b / 2^a0:Nat):Int)) != 0) = !(b / 2^a0==0):=by
  generalize b / 2^a0=q
  by_cases h:q=0
  ·subst h;rfl
  rw[beq_eq_false_iff_ne.2 h];simpa using h
 refine I8 func48 ntmps48 rfl rfl ?_;refine zh ?_
 refine zvH (eM (a:=b) (b:=a0) rfl rfl rfl rfl (by show _<=64;omega)) ?_;refine af rfl rfl (⟨by rw[<-e],rfl⟩)
theorem AJ(a0:List Int)(rv lv:ix)(n:Nat)(a:KW)(w:ln)(h:K2 w rv a0)(a2:0<a0.length)(a1:Shape lv n)(hc:w.cell? a=some lv):Kx J3 50 [rv,.pointer (some a)] w fun v w'=>v=.bool (decide ((n:Int)<=DP a0))/\KU w w':=by
 refine I8 func50 ntmps50 rfl rfl ?_;refine zh ?_
 refine WC.still zk zk ?_;refine zh ?_
 refine WS.call call51 rfl (B5 a0 rv _ h.drew a2) rfl ?_;refine zh ?_
 refine zwH (bj a1 Le rfl) ?_;refine WS.nil ?_
 refine zh ?_;refine af rfl rfl (⟨rfl,(ID w).drew⟩)
def gx(p:La)(tl:List Nat)(many a0:Nat):Bool:=
 cN p&&(p.width==(many:Int)) && !((fM p).length==0)&&(tl.length==(fM p).length) && !(iY (fun i=>!(nth tl i / 2^a0==0)) tl.length) && !(iY (fun i=>decide (((fM p).length:Int)<=DP (nth (fM p) i))) (fM p).length)
theorem lz(p:La):(fM p).length=p.usual.length/\∀i,i<p.usual.length->(nth (fM p) i).length=p.width.toNat:=by
 refine⟨by simp[fM],fun i hi=>?_⟩;unfold fM;rw[fQ _ _ _ hi];simp[Bu]
theorem sO(cs:List ix)(p:La)(tl:List Nat)(many a0:Nat)(w:ln)(h:PartV w cs p tl)(hr:a0<=64):
  Kx J3 30 [.agg cs.toArray,nI (many:Nat),nI (a0:Nat)] w fun v w'=>v=.bool (gx p tl many a0)/\KU w w':=by
 obtain⟨uv,bv,kv,nv,tv,rfl,d3,d9,d8,d7,c'⟩:=h;obtain⟨a5,d4⟩:=lz p;have c9:=c'.len_le;refine I8 func30 ntmps30 rfl rfl ?_;refine zh ?_;refine aF (aw w) 1 zo rfl rfl ?_;intro db w1 O1 c7 e3 e5 f6;refine aF e5 2 zo rfl rfl ?_;intro yb w2 O2 b7 d2 e4 f5;have a9:=c7.upd d2 zd zd;have a':=(e3.mono (S':=fun q=>1<=q) (fun _ h=>zo) zd).trans (d2.mono (fun _ h=>zo) zd);have a4:=a'.ext
 have e8:∀(j:Nat) (u:ix),[nI p.width,uv,bv,kv,nv][j]? = some u->w2.cell? ((nA db 0).add j)=some u:=fun j u hu=>a9.cellsAdd j u (by
  match j,hu with
  |0,hu=>exact hu
  |1,hu=>exact hu
  |2,hu=>exact hu
  |3,hu=>exact hu
  |4,hu=>exact hu)
 refine zh ?_;refine zv (ah (us:=[nI p.width,uv,bv,kv,nv]) e8 (isAgg27 _) (K7 _) rfl) ?_
 refine zc call46 (rU p _ w2 ⟨uv,bv,kv,nv,rfl,d3.ext a4,d9.ext a4,d8.ext a4,d7.ext a4⟩) ?_;rintro _ w3 ⟨rv,rfl,a7,e7⟩;have b4:IP (fun _=>False) O2 w2 O2 w3:=aa (fun h=>h) O2 e7;have f3:=e4.upd b4;have b6:=b7.upd b4 zd (fun h=>h);have c6:=a9.upd b4 zd (fun h=>h);have c8:=a'.trans (b4.mono (fun _ h=>h.elim) zd);have ro:rv.oneCell'=true:=by
  split at a7
  ·obtain⟨b1,h1,_⟩:=a7;exact h1.one
  rw[a7];rfl
 refine zh ?_;refine ar (aw w3) 3 zo (zeroValue89 _) rfl ?_
 intro lb w4 O4 a6 e0 e' f4;refine aj (j:=0) a6 rfl (sizeOf89 _) ro rfl rfl rfl ?_;have d':IP (fun j=>j=3) O4 w4 O4 (w4.setCell ⟨lb,0,none⟩ rv):=Jq zd a6.tag rfl;have c5:Kv O4 (w4.setCell ⟨lb,0,none⟩ rv) 3 lb #[rv] 89:=a6.set 0 _;have a3:KU w3 (w4.setCell ⟨lb,0,none⟩ rv):=(e0.trans d').ext;generalize w4.setCell ⟨lb,0,none⟩ rv=w5 at *;have a1:KU w w5:=c8.ext.trans a3;have a8:=c6.ext a3;have b5:=b6.ext a3;have d0:w5.cell? (((nA db 0)).add 0)=some (nI p.width):=a8.cell 0 rfl;have d5:w5.cell? (nA db 5)=some tv:=a8.cell 5 rfl;have l0:w5.cell? ⟨lb,0,none⟩=some rv:=c5.cell 0 rfl;have y0:w5.cell? ⟨yb,0,none⟩=some (nI (a0:Nat)):=b5.cell 0 rfl;have b8:=c'.ext a1;refine zh ?_
 cases b3:cN p with
 |false=>
  refine au (d:=17) rfl (b':=true) (rfl) ?_;refine zh ?_
  refine zTH rfl rfl ?_;refine af rfl rfl (⟨by unfold gx;rw[b3];rfl,a1⟩)
 |true=>
  rw[b3,if_pos rfl]at a7;obtain⟨b1,d1,a2,d6⟩:=a7.ext a3;have ok:=okP p b3;have e9:=ok.w1;refine au (d:=17) rfl (b':=false) (rfl) ?_;refine zh ?_
  by_cases h1:p.width=(many:Int)
  ·refine au (d:=24) rfl (b':=false) ((by rw[h1];simp)) ?_;refine zh ?_
   by_cases h2:p.usual.length=0
   ·refine au (d:=29) rfl (b':=true) ((by rw[a2,a5,h2];rfl)) ?_;refine zh ?_
    refine zTH rfl rfl ?_;refine af rfl rfl (⟨by unfold gx;rw[a5,h2];simp,a1⟩)
   refine au (d:=29) rfl (b':=false) ((by rw[a2,a5,beq_eq_false_iff_ne];omega)) ?_;refine zh ?_
   by_cases h3:tl.length=p.usual.length
   ·refine zFH rfl ((by rw[a2,a5,h3];simp)) ?_;refine zv (dR rfl rfl) ?_
    refine zc call47 (lB call48 #[nP yb] tl tv (fun i=>!(nth tl i / 2^a0==0)) w5 b8 (fun i hi w' b2=>(AK (nth tl i) a0 _ w' hr (b2.cell y0)).mono fun v w'' ⟨e1,e2⟩=>⟨e1,e2▸ID _⟩)) ?_;rintro _ w6 ⟨rfl,b0⟩;refine zh ?_
    cases h4:iY (fun i=>!(nth tl i / 2^a0==0)) tl.length with
    |true=>
     refine zTH rfl rfl ?_;refine af rfl rfl (⟨by unfold gx;rw[h4];simp,a1.trans b0⟩)
    |false=>
     have b9:=d1.ext b0;have l6:w6.cell? ⟨lb,0,none⟩=some rv:=b0.cell l0;refine zFH rfl rfl ?_;refine zv (dR rfl rfl) ?_;refine zc call49 (fm call50 #[nP lb] b1 rv (fun i=>decide (((fM p).length:Int)<=DP (nth (fM p) i))) w6 b9 (fun i hi w' b2=>by have:=AJ (nth (fM p) i) (nth b1 i) rv b1.length ⟨lb,0,none⟩ w' (((d6 i zo).ext b0).ext b2) (by rw[d4 i zo];omega) d1.sh (b2.cell l6);rw[a2]at this;exact this)) ?_;rintro _ w7 ⟨rfl,e6⟩;refine zh ?_;refine af rfl rfl (⟨by unfold gx;rw[b3,h1,h4,a5,h3,a2,a5,beq_eq_false_iff_ne.2 h2];simp,(a1.trans b0).trans e6⟩)
   refine zTH rfl ((by rw[a2,a5];simp;omega)) ?_;refine af rfl rfl (⟨by unfold gx;rw[a5,beq_eq_false_iff_ne.2 h3];simp,a1⟩)
  refine au (d:=24) rfl (b':=true) ((by simpa using h1)) ?_;refine zh ?_
  refine zTH rfl rfl ?_;refine af rfl rfl (⟨by unfold gx;rw[beq_eq_false_iff_ne.2 h1];simp,a1⟩)
end Go.Proofs.YtpfpmhhigheccaaGreatDoor
section
namespace Go.VL
theorem add_add(b i j:Nat):(nA b i).add j=⟨b,i+j,none⟩:=by simp only[JR];split<;>split<;>simp_all
end Go.VL
namespace Go.Proofs.YtpfpmhhigheccaaGreatDoor
open Go.VL Go.Proofs
set_option maxRecDepth 10000
structure TabB(w:ln)(b:Nat)(t:TabM)(gv:ix)(lc rc:List ix):Prop where
 cells:∀j u,(bE t.ig t.kp t.br t.rules gv lc rc)[j]? = some u->w.cell? ⟨b,j,none⟩=some u
 groups:K2 w gv t.groups
 left:PartV w lc t.left t.lt
 right:PartV w rc t.right t.rt
section
variable{w:ln}{b:Nat}{t:TabM}{gv:ix}{lc rc:List ix}
theorem TabB.ext{w':ln}(h:TabB w b t gv lc rc)(e:KU w w'):TabB w' b t gv lc rc:=⟨fun j u hu=>e.cell (h.cells j u hu),h.groups.ext e,h.left.ext e,h.right.ext e⟩
theorem TabB.c0(h:TabB w b t gv lc rc):w.cell? (nA b 0)=some (.int .u64 (t.ig:Int)):=h.cells 0 _ rfl
theorem TabB.c1(h:TabB w b t gv lc rc):w.cell? (nA b 1)=some (.int .u64 (t.kp:Int)):=h.cells 1 _ rfl
theorem TabB.c2(h:TabB w b t gv lc rc):w.cell? (nA b 2)=some (.int .u64 (t.br:Int)):=h.cells 2 _ rfl
theorem TabB.c3(h:TabB w b t gv lc rc):w.cell? (nA b 3)=some (nI t.rules):=h.cells 3 _ rfl
theorem TabB.c4(h:TabB w b t gv lc rc):w.cell? (nA b 4)=some gv:=h.cells 4 _ rfl
theorem TabB.cl(h:TabB w b t gv lc rc):∀(j:Nat) (u:ix),lc[j]? = some u->w.cell? ((nA b 5).add j)=some u:=fun j u hu=>by
 rw[add_add];refine h.cells (5+j) u ?_;have hj:=(IQ.1 hu).1;rw[show bE t.ig t.kp t.br t.rules gv lc rc=[.int .u64 (t.ig:Int),.int .u64 (t.kp:Int),.int .u64 (t.br:Int),nI t.rules,gv]++(lc++rc)from I5 _ _ _];rw[IN (by simp),show 5+j-_=j from by simp,JH hj];exact hu
theorem TabB.cr(h:TabB w b t gv lc rc):∀(j:Nat) (u:ix),rc[j]? = some u->w.cell? ((nA b 11).add j)=some u:=fun j u hu=>by
 rw[add_add];refine h.cells (11+j) u ?_;have hl:=h.left.one.1;rw[IN (by simp[hl]),show 11+j-_=j from by simp[hl]];exact hu
end
theorem lH{w:ln}{b i:Nat}{O:Nat->Nat}{E:IU}{t:TabM}{gv:ix}{lc rc:List ix}(hb:Kv O w i b (bE t.ig t.kp t.br t.rules gv lc rc).toArray E)(h1:K2 w gv t.groups)(h2:PartV w lc t.left t.lt)(h3:PartV w rc t.right t.rt):TabB w b t gv lc rc:=
 ⟨fun j u hu=>hb.cell j (by simpa using hu),h1,h2,h3⟩
def bu(t:TabM):Bool:=
 !(decide (t.rules<0)||decide (40<t.rules)||(fX t.groups==0)) && !(!(t.ig / 2^36==0) || !(t.kp / 2^36==0) || !(t.br / 2^t.rules.toNat==0))&&gx t.left t.lt (fX t.groups) t.rules.toNat&&gx t.right t.rt (fX t.groups) t.rules.toNat
theorem ne0(q:Nat):(((q:Nat):Int) != 0) = !(q==0):=by
 by_cases h:q=0
 ·subst h;rfl
 rw[beq_eq_false_iff_ne.2 h];simpa using h
theorem gA(t:TabM)(v:ix)(w:ln)(h:TabV w v t):Kx J3 9 [v] w fun u w'=>u=.bool (bu t)/\KU w w':=by
 obtain⟨gv,lc,rc,rfl,b0,a8,a7⟩:=h;obtain⟨ll,lo⟩:=a8.one;obtain⟨rl,ro⟩:=a7.one;refine I8 func9 ntmps9 rfl rfl ?_;refine zh ?_;refine aF (aw w) 1 zo rfl rfl ?_;intro db w1 O1 a3 b3 b4 a1;have hT:=lH (t:=t) a3 (b0.ext a1) (a8.ext a1) (a7.ext a1);have c0:=hT.c0;have c1:=hT.c1;have c2:=hT.c2;have c3:=hT.c3;have c4:=hT.c4;have cl:=hT.cl;have cr:=hT.cr;refine zh ?_;refine zc Mv (iy t.groups gv w1 hT.groups) ?_;rintro _ w2 ⟨rfl,a6⟩;rw[a6];clear a6 w2;obtain⟨many,a2⟩:∃many,many=fX t.groups:=⟨_,rfl⟩
 have a9:bu t=(!(decide (t.rules<0)||decide (40<t.rules)||(many==0)) && !(!(t.ig / 2^36==0) || !(t.kp / 2^36==0) || !(t.br / 2^t.rules.toNat==0))&&gx t.left t.lt many t.rules.toNat&&gx t.right t.rt many t.rules.toNat):=by rw[a2];rfl
 rw[a9,<-a2];refine zh ?_
 by_cases h1:t.rules<0
 ·refine au (d:=11) rfl (b':=true) ((decide_eq_true h1)) ?_;refine zh ?_
  refine zTH rfl rfl ?_;refine af rfl rfl (⟨by rw[decide_eq_true h1];simp,a1⟩)
 refine au (d:=11) rfl (b':=false) ((decide_eq_false h1)) ?_;refine zh ?_
 by_cases h2:40<t.rules
 ·refine au (d:=16) rfl (b':=true) ((decide_eq_true h2)) ?_;refine zh ?_
  refine zTH rfl rfl ?_;refine af rfl rfl (⟨by rw[decide_eq_true h2];simp,a1⟩)
 obtain⟨rules,a0⟩:∃rules:Nat,t.rules=(rules:Int):=⟨t.rules.toNat,zo⟩
 have a':t.rules.toNat=rules:=zo;refine au (d:=16) rfl (b':=false) ((decide_eq_false h2)) ?_;refine zh ?_
 by_cases h3:many=0
 ·refine zTH rfl ((by rw[h3];rfl)) ?_;refine af rfl rfl (⟨by rw[h3];simp,a1⟩)
 refine zFH rfl ((by rw[beq_eq_false_iff_ne];omega)) ?_;refine zvH (eM (a:=t.ig) (b:=36) rfl rfl rfl rfl zd) ?_
 by_cases h4:t.ig / 2^36=0
 ·refine au (d:=25) rfl (b':=false) ((by rw[ne0,h4];rfl)) ?_;refine zh ?_
  refine zvH (eM (a:=t.kp) (b:=36) rfl rfl rfl rfl zd) ?_
  by_cases h5:t.kp / 2^36=0
  ·refine au (d:=31) rfl (b':=false) ((by rw[ne0,h5];rfl)) ?_;refine zh ?_
   refine zvH (eM (a:=t.br) (b:=rules) rfl rfl rfl a0 (by show _<=64;omega)) ?_
   by_cases h6:t.br / 2^rules=0
   ·have b2:nI t.rules=nI (rules:Int):=by rw[a0]
    refine zFH rfl ((by rw[ne0,h6];rfl)) ?_;refine zvH (ah (us:=lc) cl (Kb _) (by rw[ll];exact J5 _) rfl) ?_
    rw[a0];refine zc call30 (sO lc t.left t.lt many rules w1 hT.left zo) ?_;rintro _ w2 ⟨rfl,a5⟩;have a4:=hT.ext a5;have d3:=a4.c3;have d4:=a4.cr;rw[a0]at d3;refine zh ?_
    cases h7:gx t.left t.lt many rules with
    |false=>
     refine au (d:=45) rfl (b':=false) (rfl) ?_;refine zh ?_
     refine af rfl rfl (⟨by rw[JN,h7];simp,a1.trans a5⟩)
    |true=>
     refine au (d:=45) rfl (b':=true) (rfl) ?_;refine zh ?_
     refine zvH (ah (us:=rc) d4 (Kb _) (by rw[rl];exact J5 _) rfl) ?_;refine zc call30 (sO rc t.right t.rt many rules w2 a4.right zo) ?_
     rintro _ w3 ⟨rfl,b1⟩;refine zh ?_;refine af rfl rfl (⟨?_,(a1.trans a5).trans b1⟩);rw[JN,h7,h4,h5,h6,decide_eq_false zo,decide_eq_false zo,beq_eq_false_iff_ne.2 h3];simp
   refine zTH rfl ((by rw[ne0,beq_eq_false_iff_ne.2 h6];rfl)) ?_;refine af rfl rfl (⟨by rw[a',beq_eq_false_iff_ne.2 h6];simp,a1⟩)
  refine au (d:=31) rfl (b':=true) ((by rw[ne0,beq_eq_false_iff_ne.2 h5];rfl)) ?_;refine zh ?_
  refine zTH rfl rfl ?_;refine af rfl rfl (⟨by rw[beq_eq_false_iff_ne.2 h5];simp,a1⟩)
 refine au (d:=25) rfl (b':=true) ((by rw[ne0,beq_eq_false_iff_ne.2 h4];rfl)) ?_;refine zh ?_
 refine zTH rfl rfl ?_;refine af rfl rfl (⟨by rw[beq_eq_false_iff_ne.2 h4];simp,a1⟩)
end Go.Proofs.YtpfpmhhigheccaaGreatDoor
end
namespace Go.Proofs.YtpfpmhhigheccaaGreatDoor
abbrev RdT(α:Type):=List UInt8->Option (α×List UInt8)
def tL{α β:Type}(f:RdT α)(g:RdT β):RdT (α×β):=fun l=>match f l with
 |some (x,r)=>match g r with
  |some (y,s)=>some ((x,y),s)
  |none=>none
 |none=>none
theorem de{α β:Type}{f:RdT α}{g:RdT β}{wf:α->List UInt8}{wg:β->List UInt8}{a3:α->Prop}{a0:β->Prop} 
  (hf:∀l x r,f l=some (x,r)↔l=wf x++r/\a3 x) (hg:∀l x r,g l=some (x,r)↔l=wg x++r/\a0 x) (l:List UInt8) (x:α×β) (r:List UInt8) :
  tL f g l=some (x,r)↔l=(wf x.1++wg x.2)++r/\a3 x.1/\a0 x.2:=by
 obtain⟨a,b⟩:=x;unfold tL
 constructor
 ·intro e
  cases h:f l with
  |none=>rw[h]at e;cases e
  |some q=>
   obtain⟨q,s⟩:=q;rw[h]at e;dsimp only at e
   cases h2:g s with
   |none=>rw[h2]at e;cases e
   |some y=>
    obtain⟨y,t⟩:=y;rw[h2]at e;obtain⟨e1,rfl⟩:=LG (JG e);obtain⟨rfl,rfl⟩:=LG e1;obtain⟨a1,a2⟩:=(hf _ _ _).1 h;obtain⟨b1,b2⟩:=(hg _ _ _).1 h2;exact⟨by rw[a1,b1,I5],a2,b2⟩
 rintro⟨e,h1,h2⟩;rw[(hf l a (wg b++r)).2 ⟨by rw[e,I5],h1⟩];dsimp only;rw[(hg _ b r).2 ⟨rfl,h2⟩]
abbrev PaW:=Nat×List Nat×List Nat×List Nat×List Nat×List Nat
def Gm:RdT PaW:=tL smR (tL lstR (tL lstR (tL lstR (tL lstR telR))))
def zH(p:PaW):List UInt8:=dN p.1++(qs p.2.1++(qs p.2.2.1++(qs p.2.2.2.1++(qs p.2.2.2.2.1++qs p.2.2.2.2.2))))
def Gp(p:PaW):Prop:=p.1<=2^20/\okL p.2.1/\okL p.2.2.1/\okL p.2.2.2.1/\okL p.2.2.2.2.1/\okU p.2.2.2.2.2
theorem vp(l:List UInt8)(p:PaW)(r:List UInt8):Gm l=some (p,r)↔l=zH p++r/\Gp p:=
 de (fun _ _ _=>gE) (de (fun _ _ _=>kd) (de (fun _ _ _=>kd) (de (fun _ _ _=>kd) (de (fun _ _ _=>kd) (fun _ _ _=>BC))))) l p r
abbrev TbW:=Nat×Nat×Nat×Nat×List Nat×PaW×PaW
def GA:RdT TbW:=tL smR (tL (gM 0) (tL (gM 0) (tL (gM 0) (tL lstR (tL Gm Gm)))))
def Fk(t:TbW):List UInt8:=dN t.1++(dN t.2.1++(dN t.2.2.1++(dN t.2.2.2.1++(qs t.2.2.2.2.1++(zH t.2.2.2.2.2.1++zH t.2.2.2.2.2.2)))))
def Ic(t:TbW):Prop:=t.1<=2^20/\t.2.1<2^64/\t.2.2.1<2^64/\t.2.2.2.1<2^64/\okL t.2.2.2.2.1/\Gp t.2.2.2.2.2.1/\Gp t.2.2.2.2.2.2
theorem BE(l:List UInt8)(t:TbW)(r:List UInt8):GA l=some (t,r)↔l=Fk t++r/\Ic t:=
 de (fun _ _ _=>gE) (de (fun _ _ _=>dW) (de (fun _ _ _=>dW) (de (fun _ _ _=>dW) (de (fun _ _ _=>kd) (de vp vp))))) l t r
def upN(a0:Int)(l:List Int):List Nat:=l.map fun n=>(n+a0).toNat
def dnN(a0:Int)(l:List Nat):List Int:=l.map fun(n:Nat)=>(n:Int)-a0
theorem xU{b:Int}:∀ {l:List Int},(∀n∈l,0<=n+b)->dnN b (upN b l)=l
 |[],_=>rfl
 |n::l,h=>by
  have h1:=h n (by simp);have ih:=xU (l:=l) fun x hx=>h x (by simp[hx])
  unfold dnN upN at *;rw[J9,J9,ih];congr 1;omega
def xx(p:La)(tl:List Nat):PaW:=(p.width.toNat,upN 0 p.usual,upN 0 p.base,upN 1 p.check,upN 0 p.next,tl)
def Dz(p:PaW):La:=⟨(p.1:Int),dnN 0 p.2.1,dnN 0 p.2.2.1,dnN 1 p.2.2.2.1,dnN 0 p.2.2.2.2.1⟩
def BP(t:TabM):TbW:=(t.rules.toNat,t.ig,t.kp,t.br,upN 0 t.groups,xx t.left t.lt,xx t.right t.rt)
def CN(t:TbW):TabM:=⟨t.2.1,t.2.2.1,t.2.2.2.1,(t.1:Int),dnN 0 t.2.2.2.2.1,Dz t.2.2.2.2.2.1,t.2.2.2.2.2.1.2.2.2.2.2,Dz t.2.2.2.2.2.2,t.2.2.2.2.2.2.2.2.2.2.2⟩
structure PrtB(p:La)(tl:List Nat):Prop where
 w:0<=p.width/\p.width<=64
 u:p.usual.length<=1000/\∀n∈p.usual,0<=n/\n<=65535
 b:p.base.length<=1000/\∀n∈p.base,0<=n/\n<=65535
 c:p.check.length<=65599/\∀n∈p.check,-1<=n/\n<=1000
 n:p.next.length<=65599/\∀n∈p.next,0<=n/\n<=65535
 t:tl.length<=1000
structure TblB(t:TabM):Prop where
 r:0<=t.rules/\t.rules<=40
 ig:t.ig<2^36
 kp:t.kp<2^36
 br:t.br<2^40
 g:t.groups.length=37/\∀n∈t.groups,0<=n/\n<37
 l:PrtB t.left t.lt
 rt:PrtB t.right t.rt
theorem sm:∀(l:List Int) (n:Nat),ek l n≠0->jX l n
 |[],_,_=>trivial
 |g::r,n,h=>by
  unfold ek at h
  split at h
  ·exact absurd rfl h
  exact⟨zo,zo,sm r _ h⟩
theorem rP:∀(l:List Int) (n:Nat),jX l n->ek l n<=n+l.length
 |[],n,_=>by simp[ek]
 |g::r,n,h=>by
  obtain⟨h1,h2,h3⟩:=h;have ih:=rP r _ h3;unfold ek;rw[if_neg zo,IL];omega
theorem vO{p:La}{tl:List Nat}{many a0:Nat}(h:gx p tl many a0=true):PrtB p tl:=by
 unfold gx at h;simp only[IM]at h;obtain⟨⟨⟨⟨⟨h1,_⟩,_⟩,h4⟩,_⟩,_⟩:=h;rw[(lz p).1]at h4;unfold cN at h1;simp only[IM,Jj,Js,decide_eq_false_iff_not,bne_eq_false_iff_eq]at h1;obtain⟨⟨⟨⟨⟨a1,a2⟩,a3⟩,a4⟩,a5,a6⟩,⟨⟨b1,b2⟩,b3⟩,b4⟩:=h1;have h4:tl.length=p.usual.length:=by simpa using h4
 refine⟨⟨zo,zo⟩,⟨zo,fun n hn=>mP b1 hn⟩,⟨zo,fun n hn=>mP b2 hn⟩,⟨zo,fun n hn=>?_⟩,⟨zo,fun n hn=>mP b3 hn⟩,zo⟩;have:=mP b4 hn;omega
theorem gJ{t:TabM}(h:bu t=true):TblB t:=by
 unfold bu at h;simp only[IM,Jj,Js,decide_eq_false_iff_not,beq_eq_false_iff_ne]at h;obtain⟨⟨⟨⟨⟨a1,a2⟩,a3⟩,⟨b1,b2⟩,b3⟩,c1⟩,c2⟩:=h;have a0:∀ {n:Nat},(!(n / 2^36==0))=false->n<2^36:=fun {n} h=>by
  have h:n / 2^36=0:=by simpa using h
  exact(K1 zd).1 h
 have b3:t.br<2^t.rules.toNat:=by
  have h:t.br / 2^t.rules.toNat=0:=by simpa using b3
  exact(K1 (Jf _)).1 h
 have hg:t.groups.length=37:=by
  unfold fX at a3
  split at a3
  ·assumption
  exact absurd rfl a3
 unfold fX at a3;rw[if_pos hg]at a3;have hr:=sm _ _ a3;have a5:=(vC _ _ hr).2;have a4:=rP _ _ hr;rw[hg]at a4;refine⟨⟨zo,zo⟩,a0 (by simpa using b1),a0 (by simpa using b2),Jh b3 (Jv zd zo),⟨hg,fun n hn=>?_⟩,vO c1,vO c2⟩;have:=a5 n hn;omega
theorem rY{b:Int}{l:List Int}(hl:l.length<=65599)(h:∀n∈l,0<=n+b/\n+b<=65536):okL (upN b l):=by
 have e:(2:Nat)^20=1048576:=zd;refine⟨by unfold upN;rw[Jd];omega,fun x hx=>?_⟩;obtain⟨n,hn,rfl⟩:=Jy.1 hx;have:=h n hn;omega
theorem PrtB.ok{p:La}{tl:List Nat}(h:PrtB p tl)(ht:∀x∈tl,x<2^64):Gp (xx p tl)/\Dz (xx p tl)=p:=by
 have e:(2:Nat)^20=1048576:=zd;have h1:=h.w;have h2:=h.t;refine⟨⟨by show p.width.toNat<=_;omega,rY (by have:=h.u.1;omega) fun n hn=>by have:=h.u.2 n hn;omega,rY (by have:=h.b.1;omega) fun n hn=>by have:=h.b.2 n hn;omega,rY h.c.1 fun n hn=>by have:=h.c.2 n hn;omega,rY h.n.1 fun n hn=>by have:=h.n.2 n hn;omega,by show tl.length<=_;omega,ht⟩,?_⟩;obtain⟨wd,us,ba,ck,nx⟩:=p;have hu:=h.u.2;have hb:=h.b.2;have hc:=h.c.2;have hn:=h.n.2;dsimp only at h1 hu hb hc hn;unfold Dz xx;dsimp only;rw[xU fun n h'=>by have:=hu n h';omega,xU fun n h'=>by have:=hb n h';omega,xU fun n h'=>by have:=hc n h';omega,xU fun n h'=>by have:=hn n h';omega,Lb h1.1]
theorem TblB.ok{t:TabM}(h:TblB t)(hl:∀x∈t.lt,x<2^64)(hr:∀x∈t.rt,x<2^64):Ic (BP t)/\CN (BP t)=t:=by
 obtain⟨l1,l2⟩:=h.l.ok hl;obtain⟨r1,r2⟩:=h.rt.ok hr;have e:(2:Nat)^20=1048576:=zd;have a1:(2:Nat)^36<=2^64:=zd;have a0:(2:Nat)^40<=2^64:=zd;have h1:=h.r;have h2:=h.ig;have h3:=h.kp;have h4:=h.br;refine⟨⟨by show t.rules.toNat<=_;omega,by show t.ig<_;omega,by show t.kp<_;omega,by show t.br<_;omega,rY (by have:=h.g.1;omega) fun n hn=>by have:=h.g.2 n hn;omega,l1,r1⟩,?_⟩;obtain⟨ig,kp,br,ru,gr,lf,lt,rg,rt⟩:=t;have hg:=h.g.2;dsimp only at h1 hg l2 r2;unfold CN BP;dsimp only;rw[xU fun n h'=>by have:=hg n h';omega,l2,r2,Lb h1.1];rfl
def Bs(n c:Nat):Nat:=((n ^^^ c)*1099511628211) % 2^64
def yu(l:List UInt8)(n:Nat):Nat:=l.foldl (fun n c=>Bs n c.toNat) n
def BH(l:List UInt8):Nat:=yu l 14695981039346656037
theorem yV(n c:Nat):Bs n c<2^64:=by unfold Bs;exact K0 _ (Jf 64)
theorem yX(c:UInt8)(l:List UInt8)(n:Nat):yu (c::l) n=yu l (Bs n c.toNat):=by unfold yu;rw[KD]
theorem BJ{M:Nat}(hM:∀n c,Bs n c<M)(l:List UInt8):∀(n:Nat),n<M->yu l n<M:=by
 induction l with
 |nil=>intro n h;exact h
 |cons c l ih=>intro n _;rw[yX];exact ih _ (hM _ _)
theorem Di(l:List UInt8)(n:Nat)(h:n<2^64):yu l n<2^64:=BJ yV l n h
theorem Dh(l:List UInt8):BH l<2^64:=Di l _ zd
theorem A1(c:UInt8):c.toNat<2^64:=Nat.lt_trans c.toNat_lt zd
def le8(n:Nat):List UInt8:=(List.range 8).map fun i=>IX (n / 2^(8*i))
theorem mX(n:Nat):(le8 n).length=8:=by simp[le8]
def mm(b:List UInt8):List UInt8:=b++le8 (BH b)
theorem zl(b:List UInt8):(mm b).length=b.length+8:=by rw[mm,I4,mX]
theorem pf{p:La}{tl:List Nat}{many a0:Nat}(h:gx p tl many a0=true):∀x∈tl,x<2^a0:=fun x hx=>by
 unfold gx at h;simp only[IM,Jj]at h;obtain⟨⟨_,h5⟩,_⟩:=h;obtain⟨j,hj,rfl⟩:=IC hx;have:=bY.1 h5 j hj;have:nth tl j / 2^a0=0:=by simpa using this
 exact(K1 (Jf _)).1 this
theorem jt{t:TabM}(h:bu t=true):(∀x∈t.lt,x<2^64)/\∀x∈t.rt,x<2^64:=by
 have hr:=(gJ h).r;have hp:2^t.rules.toNat<=2^64:=Jv zd zo;unfold bu at h;simp only[IM]at h;exact⟨fun x hx=>Jh (pf h.1.2 x hx) hp,fun x hx=>Jh (pf h.2 x hx) hp⟩
def hdrW:List UInt8:=[86,82,71,49]
def yz(t:TabM):List UInt8:=hdrW++Fk (BP t)
def xR(t:TabM):List UInt8:=mm (yz t)
def AZ(l:List UInt8):Except Int TabM:=
 if l.length<12\/l.take 4≠hdrW then .error 4
 else if mm (l.take (l.length-8))≠l then .error 10
 else match GA ((l.take (l.length-8)).drop 4)with
  |some (t,r)=>if r≠[]\/bu (CN t)=false then .error 4 else .ok (CN t)
  |none=>.error 4
theorem Cx(t:TabM):4<=(yz t).length:=by unfold yz hdrW;simp
theorem qE(t:TabM):(xR t).length=(yz t).length+8:=zl _
theorem AR(t:TabM):(xR t).take ((xR t).length-8)=yz t:=by
 rw[qE,Lk];unfold xR mm;rw[Kz (IV _),J2 (IV _)]
theorem AQ(t:TabM):(xR t).take 4=hdrW:=by
 unfold xR mm yz;rw[I5,Kz zd,J2 zd]
theorem AY{t:TabM}(h:bu t=true):AZ (xR t)=.ok t:=by
 obtain⟨h1,h2⟩:=jt h;obtain⟨h3,h4⟩:=(gJ h).ok h1 h2;have hl:=qE t;have hb:=Cx t;unfold AZ;rw[if_neg (by rw[AQ];simp;omega),AR,if_neg (by simp[xR])];have e:(yz t).drop 4=Fk (BP t):=by unfold yz;rw[List.drop_append_of_le_length zd,List.drop_of_length_le zd,Lz]
 rw[e,(BE _ (BP t) []).2 ⟨by rw[Je],h3⟩];dsimp only;rw[h4,if_neg (by simp[h])]
def RdS{α:Type}(f:RdT α)(l:List UInt8)(b:Bool)(x:α)(l':List UInt8)(b':Bool):Prop:=
 (b'=true/\(b=true\/f l=none))\/(b'=false/\b=false/\f l=some (x,l'))
section
variable{α β:Type}{f:RdT α}{g:RdT β}{l l1 l2:List UInt8}{b b1 b2:Bool}{x:α}{y:β}
theorem RdS.bad(h:b=true\/f l=none):RdS f l b x l1 true:=.inl ⟨rfl,h⟩
theorem RdS.seq(h:RdS f l b x l1 b1)(k:RdS g l1 b1 y l2 b2):RdS (tL f g) l b (x,y) l2 b2:=by
 unfold tL
 rcases k with⟨k1,k2⟩|⟨k1,k2,k3⟩
 ·refine .inl ⟨k1,?_⟩
  rcases h with⟨h1,h2⟩|⟨h1,h2,h3⟩
  ·rcases h2 with h2|h2
   ·exact .inl h2
   exact .inr (by dsimp only;rw[h2])
  rcases k2 with k2|k2
  ·rw[h1]at k2;cases k2
  exact .inr (by dsimp only;rw[h3];dsimp only;rw[k2])
 rcases h with⟨h1,h2⟩|⟨h1,h2,h3⟩
 ·rw[h1]at k2;cases k2
 exact .inr ⟨k1,h2,by dsimp only;rw[h3];dsimp only;rw[k3]⟩
end
def WNum(l0:List UInt8)(b0:Bool)(i n:Nat)(l:List UInt8)(b:Bool):Prop:=
 (b=true/\(b0=true\/gM 0 l0=none))\/(b=false/\b0=false/\i<=9/\n<128^i/\gM 0 l0=match gM i l with
  |some (m,r)=>some (n+128^i*m,r)
  |none=>none)
theorem ym(l:List UInt8)(b:Bool):WNum l b 0 0 l b:=by
 cases b with
 |true=>exact .inl ⟨rfl,.inl rfl⟩
 |false=>
  refine .inr ⟨rfl,rfl,zd,zd,?_⟩
  cases gM 0 l with
  |none=>rfl
  |some x=>simp
def nO(i:Nat)(c:UInt8):Bool:=(decide (i=9)&&decide (1<c.toNat))||(decide (0<i)&&decide (c.toNat=0))
theorem vy{i:Nat}{c:UInt8}{r:List UInt8}(h:nO i c=true):gM i (c::r)=none:=by
 unfold nO at h;simp only[LD,IM,decide_eq_true_eq]at h;unfold gM;rw[if_pos h]
theorem sj{i:Nat}{c:UInt8}{r:List UInt8}(h:nO i c=false):gM i (c::r)=if c.toNat<128 then some (c.toNat,r)else match gM (i+1) r with
  |some (m,r')=>some (c.toNat % 128+128*m,r')
  |none=>none:=by
 have hn:¬((i=9/\1<c.toNat)\/(0<i/\c.toNat=0)):=fun hn=>by
  have:nO i c=true:=by unfold nO;simpa only[LD,IM,decide_eq_true_eq]using hn
  rw[h]at this;cases this
 rw[gM,if_neg hn];rfl
theorem zI(i:Nat):128^i=2^(7*i):=by rw[Nat.pow_mul]
def BZ(i n:Nat)(c:UInt8):Nat:=n ||| ((c.toNat &&& 127)*2^(7*i) % 2^64)
theorem DH{i n:Nat}{c:UInt8}(h:n<2^64):BZ i n c<2^64:=Jm h (K0 _ (Jf 64))
theorem zO{i n:Nat}{c:UInt8}(hi:i<=9)(hn:n<128^i)(hc:i=9->c.toNat<=1):BZ i n c=n+128^i*(c.toNat % 128):=by
 have hm:c.toNat &&& 127=c.toNat % 128:=Ky c.toNat 7;unfold BZ;rw[hm,<-zI];have a0:c.toNat % 128*128^i<2^64:=by
  have h1:c.toNat % 128<128:=K0 _ zd
  rcases Nat.lt_or_ge i 9 with h9|h9
  ·have h2:128^i<=128^8:=Jv zd zo;exact JE (LN (Nat.le_of_lt_succ h1) h2) zd
  obtain rfl:i=9:=zo;have h3:c.toNat % 128<=1:=by have:=hc rfl;omega
  exact JE (LN h3 (IV _)) zd
 rw[Lx a0,M0 (c.toNat % 128),zI,Ma,M4];refine(KM (i:=7*i) ?_ _).symm;rw[<-zI];exact hn
theorem FK{i:Nat}{c:UInt8}(h:nO i c=false):i=9->c.toNat<=1:=fun hi=>by
 unfold nO at h;subst hi;simp only[decide_true,Bool.true_and,Js,decide_eq_false_iff_not]at h;omega
theorem WNum.empty{l0:List UInt8}{b0:Bool}{i n:Nat}{b:Bool}(h:WNum l0 b0 i n [] b):b0=true\/gM 0 l0=none:=by
 rcases h with⟨_,h⟩|⟨_,_,_,_,h⟩
 ·exact h
 exact .inr (by rw[h];rfl)
theorem WNum.fin{l0:List UInt8}{b0:Bool}{i n:Nat}{b:Bool}{c:UInt8}{r:List UInt8}(h:WNum l0 b0 i n (c::r) b)(hc:c.toNat<128):RdS (gM 0) l0 b0 (BZ i n c) r (b||nO i c):=by
 rcases h with⟨h1,h2⟩|⟨h1,h2,h3,h4,h5⟩
 ·rw[h1,LW];exact RdS.bad h2
 rw[h1,KV]
 cases hb:nO i c with
 |true=>exact RdS.bad (.inr (by rw[h5,vy hb]))
 |false=>exact .inr ⟨rfl,h2,by rw[h5,sj hb,if_pos hc,zO h3 h4 (FK hb),Lx hc]⟩
theorem WNum.step{l0:List UInt8}{b0:Bool}{i n:Nat}{b:Bool}{c:UInt8}{r:List UInt8}(h:WNum l0 b0 i n (c::r) b)(hc:¬c.toNat<128):WNum l0 b0 (i+1) (BZ i n c) r (b||nO i c):=by
 rcases h with⟨h1,h2⟩|⟨h1,h2,h3,h4,h5⟩
 ·rw[h1,LW];exact .inl ⟨rfl,h2⟩
 rw[h1,KV]
 cases hb:nO i c with
 |true=>exact .inl ⟨rfl,.inr (by rw[h5,vy hb])⟩
 |false=>
  have h9:=FK hb;have hi:i≠9:=fun e=>by have:=h9 e;omega
  have ho:=zO h3 h4 h9;have hm:c.toNat % 128<128:=K0 _ zd;have hp:128^(i+1)=128^i*128:=LZ _ _;refine .inr ⟨rfl,h2,zo,?_,?_⟩
  ·rw[ho,hp];have:128^i*(c.toNat % 128)<=128^i*127:=Nat.mul_le_mul_left _ zo;omega
  rw[h5,sj hb,if_neg hc]
  cases hr:gM (i+1) r with
  |none=>rfl
  |some q=>
   obtain⟨m,s⟩:=q;dsimp only;rw[ho,hp,Nat.mul_add,Nat.mul_assoc,Kh]
theorem WNum.over{l0:List UInt8}{b0:Bool}{n:Nat}{l:List UInt8}{b:Bool}(h:WNum l0 b0 10 n l b):b0=true\/gM 0 l0=none:=by
 rcases h with⟨_,h⟩|⟨_,_,h,_⟩
 ·exact h
 exact absurd h zd
theorem RdS.small{l l':List UInt8}{b b':Bool}{n:Nat}(h:RdS (gM 0) l b n l' b')(hn:¬2^20<n):RdS smR l b n l' b':=by
 unfold smR
 rcases h with⟨h1,h2⟩|⟨h1,h2,h3⟩
 ·refine .inl ⟨h1,?_⟩
  rcases h2 with h2|h2
  ·exact .inl h2
  exact .inr (by dsimp only;rw[h2])
 exact .inr ⟨h1,h2,by dsimp only;rw[h3];dsimp only;rw[if_neg hn]⟩
theorem RdS.great{l l' l2:List UInt8}{b b':Bool}{n x:Nat}(h:RdS (gM 0) l b n l' b')(hn:2^20<n):RdS smR l b x l2 true:=by
 unfold smR
 rcases h with⟨h1,h2⟩|⟨h1,h2,h3⟩
 ·refine .inl ⟨rfl,?_⟩
  rcases h2 with h2|h2
  ·exact .inl h2
  exact .inr (by dsimp only;rw[h2])
 exact .inl ⟨rfl,.inr (by dsimp only;rw[h3];dsimp only;rw[if_pos hn])⟩
def LstI{α:Type}(f:RdT α)(m:Nat)(l0:List UInt8)(b0:Bool)(k:Nat)(xs:List α)(l:List UInt8)(b:Bool):Prop:=
 (b=true/\(b0=true\/eZ f m l0=none))\/(b=false/\b0=false/\eZ f m l0=match eZ f k l with
  |some (ys,r)=>some (xs++ys,r)
  |none=>none)
theorem pO{α:Type}(f:RdT α)(m:Nat)(l:List UInt8)(b:Bool):LstI f m l b m [] l b:=by
 cases b with
 |true=>exact .inl ⟨rfl,.inl rfl⟩
 |false=>
  refine .inr ⟨rfl,rfl,?_⟩
  cases eZ f m l with
  |none=>rfl
  |some x=>simp
theorem LstI.step{α:Type}{f:RdT α}{m:Nat}{l0:List UInt8}{b0:Bool}{k:Nat}{xs:List α}{l l':List UInt8}{b b':Bool}{x:α}(h:LstI f m l0 b0 (k+1) xs l b)(s:RdS f l b x l' b'):LstI f m l0 b0 k (xs++[x]) l' b':=by
 rcases h with⟨h1,h2⟩|⟨h1,h2,h3⟩
 ·rcases s with⟨s1,s2⟩|⟨s1,s2,s3⟩
  ·exact .inl ⟨s1,h2⟩
  rw[h1]at s2;cases s2
 rcases s with⟨s1,s2⟩|⟨s1,s2,s3⟩
 ·refine .inl ⟨s1,.inr ?_⟩
  rcases s2 with s2|s2
  ·rw[h1]at s2;cases s2
  rw[h3,eZ,s2]
 refine .inr ⟨s1,h2,?_⟩;rw[h3,eZ,s3];dsimp only
 cases eZ f k l' with
 |none=>rfl
 |some q=>obtain⟨ys,r⟩:=q;dsimp only;rw[I5];rfl
theorem LstI.done{α:Type}{f:RdT α}{m:Nat}{l0:List UInt8}{b0:Bool}{k:Nat}{xs:List α}{l:List UInt8}{b:Bool}(h:LstI f m l0 b0 k xs l b)(hk:k=0\/b=true):RdS (eZ f m) l0 b0 xs l b:=by
 rcases h with⟨h1,h2⟩|⟨h1,h2,h3⟩
 ·exact .inl ⟨h1,h2⟩
 rcases hk with rfl|hk
 ·exact .inr ⟨h1,h2,by rw[h3,eZ];simp⟩
 rw[h1]at hk;cases hk
theorem RdS.lst{α:Type}{f:RdT α}{l l1 l2:List UInt8}{b b1 b2:Bool}{n:Nat}{xs:List α}(h:RdS smR l b n l1 b1)(k:RdS (eZ f n) l1 b1 xs l2 b2):RdS (fun l=>match smR l with
  |some (n,r)=>eZ f n r
  |none=>none) l b xs l2 b2:=by
 rcases h with⟨h1,h2⟩|⟨h1,h2,h3⟩
 ·rcases k with⟨k1,k2⟩|⟨k1,k2,k3⟩
  ·refine .inl ⟨k1,?_⟩
   rcases h2 with h2|h2
   ·exact .inl h2
   exact .inr (by dsimp only;rw[h2])
  rw[h1]at k2;cases k2
 rcases k with⟨k1,k2⟩|⟨k1,k2,k3⟩
 ·refine .inl ⟨k1,.inr ?_⟩
  rcases k2 with k2|k2
  ·rw[h1]at k2;cases k2
  dsimp only;rw[h3];exact k2
 exact .inr ⟨k1,h2,by dsimp only;rw[h3];exact k3⟩
theorem RdS.lstR{l l1 l2:List UInt8}{b b1 b2:Bool}{n:Nat}{xs:List Nat}(h:RdS smR l b n l1 b1)(k:RdS (eZ smR n) l1 b1 xs l2 b2):RdS Kl l b xs l2 b2:=h.lst k
theorem RdS.telR{l l1 l2:List UInt8}{b b1 b2:Bool}{n:Nat}{xs:List Nat}(h:RdS smR l b n l1 b1)(k:RdS (eZ (gM 0) n) l1 b1 xs l2 b2):RdS Kk l b xs l2 b2:=h.lst k
end Go.Proofs.YtpfpmhhigheccaaGreatDoor
namespace Go.VL
theorem wrap_u64(a:Nat):K4.wrap (a:Int)=((a % 2^64:Nat):Int):=by
 simp[LA,LB,Lm]
theorem wrap_u8(a:Nat):Mz.wrap (a:Int)=((a % 2^8:Nat):Int):=by
 simp[LA,LB,Lm]
section
variable{P:Ke}{N:Nat}{st:St}{w:ln}
variable{t xt yt:IU}{x y:JW}{k:LV}{m n:Int}{a b:Nat}
theorem Dk(ha:(a:Int)<=k.max)(hb:(b:Int)<=k.max):(binOp .xor xt (.int k a) (.int k b)).run P w=.ok (.int k ((a ^^^ b:Nat):Int)) w:=by
 rw[binOp_xor];have h:((a ^^^ b:Nat):Int)<=k.max:=(lq k _).2 (Nat.xor_lt_two_pow ((lq k a).1 ha) ((lq k b).1 hb));simp only[Op.intBits,BitVec.toNat_xor,eX _ _ (max_lt k ha),eX _ _ (max_lt k hb),my k h];rfl
theorem D9(hx:ev st x=some (.int k m))(hy:ev st y=some (.int k n))(hm:m=a)(hn:n=b)(ha:(a:Int)<=k.max)(hb:(b:Int)<=k.max):RV P N (.binOp .xor xt x y yt) t st w (.int k ((a ^^^ b:Nat):Int)):=by
 subst hm;subst hn;exact dS hx hy (Dk ha hb)
theorem Fg(hx:ev st x=some (.int .u64 m))(hy:ev st y=some (.int .u64 n))(hm:m=a)(hn:n=b):RV P N (.binOp .mul xt x y yt) t st w (.int .u64 ((a*b % 2^64:Nat):Int)):=by
 subst hm;subst hn;refine dS hx hy ?_;rw[tO,show(a:Int)*(b:Int)=((a*b:Nat):Int)from by simp,wrap_u64]
theorem Fa{k':LV}(hx:ev st x=some (.int .u64 m))(hy:ev st y=some (.int k' n))(hm:m=a)(hn:n=b)(hb:b<=64):RV P N (.binOp .shl xt x y yt) t st w (.int .u64 ((a*2^b % 2^64:Nat):Int)):=by
 subst hm;subst hn;refine dS hx hy ?_;rw[binOp_shl];have h1:¬(b:Int)<0:=zo;simp only[Op.shift,if_neg h1,JN,LH (show b<=K4.bits from hb)];have h3:(a:Int)*2^b=((a*2^b:Nat):Int):=by simp
 rw[h3,wrap_u64];rfl
theorem CF{a0:TypeDesc}{k:LV}(hs:P.underlying xt=some a0)(a1:P.underlying yt=some (.int .u8))(hx:ev st x=some (.int k m))(hm:m=a):RV P N (.convert xt yt x) t st w (.int .u8 ((a % 2^8:Nat):Int)):=by
 subst hm;have:=kP (t:=t) (w:=w) (N:=N) hs a1 hx
 rwa[wrap_u8]at this
end
structure BufT{α:Type}(val:α->ix)(E:IU)(O:Nat->Nat)(w:ln)(i:Nat)(v:ix)(l:List α):Prop where
 row:(v=nS/\l=[])\/∃g cap cur fz,v=.slice (some ⟨g,0,none⟩) l.length cap/\w.heap[g]? = some (.cells cur E fz)/\(∀j,j<cap->¬(fz.1<=j/\j<fz.2))/\l.length<=cap/\cap<=maxLen/\cur.size=cap/\cur.toList.take l.length=l.map val
 tag:∀g,v.ownBlock=some g->O g=i
theorem uE{α:Type}(val:α->ix)(l:List α):l.flatMap (fun x=>[val x])=l.map val:=by induction l<;>simp_all
theorem xg{α:Type}{val:α->ix}{E:IU}{O:Nat->Nat}{w:ln}{i:Nat}{v:ix}{l:List α}(h:Kc (fun x=>[val x]) E 1 O w i v l):BufT val E O w i v l:=by
 refine⟨?_,h.1.tag⟩
 rcases h.1.row.2 with⟨h1,h2⟩|⟨g,a1,a0,h1,_,h3,h4,h5,h6,h7⟩
 ·exact .inl ⟨h1,J1 h2⟩
 rw[JM]at h6 h7;exact .inr ⟨g,a1,a0,(0,0),h1,h3,fun j _ hj=>absurd hj.2 (KG _),h4,h5,h6,h7.trans (uE val l)⟩
theorem BufT.upd{α:Type}{val:α->ix}{S:Nat->Prop}{O O':Nat->Nat}{w w':ln}{i:Nat}{E:IU}{v:ix}{l:List α}(h:BufT val E O w i v l)(u:IP S O w O' w')(hi:i≠0)(hS:¬S i):BufT val E O' w' i v l:=by
 refine⟨?_,fun g hg=>?_⟩
 ·rcases h.row with h1|⟨g,a1,a0,fz,h1,h3,h4⟩
  ·exact .inl h1
  have ht:=h.tag g (by rw[h1];rfl);exact .inr ⟨g,a1,a0,fz,h1,(u.blk g (bt h3) (by rw[ht];exact hS)).trans h3,h4⟩
 have:=h.tag g hg;rw[u.tag g (by rw[this];exact hi),this]
theorem BufT.drew{α:Type}{val:α->ix}{O:Nat->Nat}{w:ln}{i:Nat}{E:IU}{v:ix}{l:List α}(h:BufT val E O w i v l):BufT val E O w.drew i v l:=⟨h.row,h.tag⟩
theorem BufT.sl{α:Type}{val:α->ix}{E:IU}{O:Nat->Nat}{w:ln}{i:Nat}{v:ix}{l:List α}(h:BufT val E O w i v l):Sl (fun x=>[val x]) 1 w v l:=by
 rcases h.row with⟨rfl,rfl⟩|⟨g,a0,a3,fz,rfl,hg,_,a1,a2,_,ht⟩
 ·exact⟨⟨none,0,rfl,IV _,zo,fun h=>absurd rfl h⟩,fun i hi=>absurd hi (by simp)⟩
 refine⟨⟨_,a0,rfl,a1,by simpa[maxLen]using a2,fun _=>⟨g,0,rfl⟩⟩,fun i hi j u hu=>?_⟩;obtain rfl:j=0:=by have:=(IQ.1 hu).1;simpa using this
 rw[ay];have ha:adr (.slice (some ⟨g,0,none⟩) l.length a0) 1 i=⟨g,i,none⟩:=by simp[adr]
 have h1:(l.map val)[i]? = some u:=by simpa[hi]using hu
 rw[<-ht,Ki,if_pos hi]at h1;rw[ha,cell_of_row w g i a3 E fz hg];simpa using h1
theorem BufT.newV{α:Type}{val:α->ix}{E:IU}{B:Nat}{O:Nat->Nat}{w:ln}{i:Nat}{v:ix}{l:List α}(h:BufT val E O w i v l)(hi:i≠0)(r:Jo B O w):Lj B v:=fun a n c e _=>by
 subst e;have h1:=h.tag a.block rfl;exact(r.rng a.block (by rw[h1];exact hi)).1
theorem nZ{P:Ke}{w:ln}{T ty E:IU}{a4:Nat}(he:LC P T E 1 a4){α:Type}{val:α->ix}{B:Nat}{O:Nat->Nat}(r:Jo B O w){i:Nat} 
  {v:ix} {l:List α} (a5:BufT val E O w i v l) (a:KW) (u:α) (hu:w.cell? a=some (val u)) (h1:(val u).oneCell'=true)
  (a1:(l.length+1)*a4<=140737488355328) (c8:l.length+1<=9223372036854775807) (b4:i≠0) :
  ∃v' w' O',(Lc #[T,T] ty #[v,.slice (some a) 1 1]).run P w=.ok v' w'/\BufT val E O' w' i v' (l++[u])/\IP (fun k=>k=i) O w O' w':=by
 have b2:¬(0=i):=fun h=>b4 h.symm
 have c7:a.add 0=a:=by unfold JR;split<;>simp_all
 have a0:∀j x,[val u][j]? = some x->w.cell? (a.add j)=some x:=fun j x hx=>by
  obtain rfl:j=0:=by have:=(IQ.1 hx).1;simpa using this
  rw[c7,hu];simpa using hx
 rcases a5.row with⟨rfl,rfl⟩|⟨g,a3,a8,fz,rfl,hg,b5,c9,b',b9,ht⟩
 ·have hr:RowO O w i E 1 (nS) 0 []:=Mh _ _ _ _ _;obtain⟨v',w',O',h2,h3,h4⟩:=dH (P:=P) (ty:=ty) he r hr a 1 1 [val u] rfl a0 (by simpa using h1) (by simpa using a1) zo b4;exact⟨v',w',O',h2,xg (l:=[u]) ⟨h3,by simp⟩,h4⟩
 obtain⟨b1,z,hi,hz,a6,c6,b6⟩:=he.parts;have b3:=he.ht;have a':O g=i:=a5.tag g rfl
 by_cases a2:l.length+1<=a3
 ·have c5:w.cell? ⟨g,l.length,none⟩=some (a8[l.length]'(zo)):=by
   rw[cell_of_row w g l.length a8 E fz hg];exact KO zo
  have hr:=run_append_room_cells (P:=P) (w:=w) T ty E b1 b3 hi g 0 l.length a3 a 1 1 [val u] (by simp[a6]) a0 (by simpa using h1) a2
   (fun j hj=>by
    obtain rfl:j=0:=by simpa using hj
    simp only[a6,JM,JZ,M1,c5];rfl)
   (fun j hj=>by
    obtain rfl:j=0:=by simpa using hj
    simp only[a6,JM,JZ,M1,LF,hg];have:=b5 l.length zo
    simpa[Nat.not_lt]using this)
  simp only[a6,JM,JZ,World.setCells]at hr;refine⟨_,_,O,hr,⟨.inr ⟨g,a3,a8.setIfInBounds l.length (val u),fz,by simp,?_,b5,by simpa using a2,b',by simpa using b9,?_⟩,fun g' a9=>a5.tag g' a9⟩,Jq b2 (i:=i) a' rfl⟩
  ·simp only[KP,KY,if_pos];rw[hg];simp
  rw[KJ,I4,ka,KC,J9,JX];have b7:l.length<a8.toList.length:=by simp;omega
  rw[Kp (by simpa using b7),L7 (IV _),ht];simp
 have a7:∀j x,(l.map val)[j]? = some x->w.cell? (nA g j)=some x:=fun j x hx=>by
  have hj:j<l.length:=by simpa using(IQ.1 hx).1
  have ha:(nA g j)=⟨g,j,none⟩:=by simp only[JR];split<;>simp_all
  rw[<-ht,Ki,if_pos hj]at hx;rw[ha,cell_of_row w g j a8 E fz hg];simpa using hx
 have hr:=run_append_grow (P:=P) w T ty E b1 z b3 hi hz ⟨g,0,none⟩ l.length a3 (l.map val) (by simp[a6]) a7 a 1 1 [val u] (by simp[a6]) a0 zo zo (growslice_fits zo (by rw[c6];exact a1));have b8:=grownCap_ge w (l.length+1) a3 E;have b0:grownCap w (l.length+1) a3 E<=maxLen:=grownCap_le_maxLen w (l.length+1) a3 E (by simpa[maxLen]using c8);have u0:=KX (S:=fun k=>k=i) (w:=w.drew) b2 (B:=B) ⟨r.le,r.rng⟩ (.cells ((l.map val).toArray++[val u].toArray++MC z.cells (grownCap w (l.length+1) a3 E-(l.length+1))) E) i;refine⟨_,_,jI O w.heap.size i,hr,⟨.inr ⟨w.heap.size,_,_,(0,0),by simp,heap_alloc_new w.drew _,fun j _ hj=>absurd hj.2 (KG _),by simpa using b8,b0,?_,?_⟩,?_⟩,⟨u0.os,u0.tape,u0.output,u0.size,u0.blk,u0.tag,u0.new,u0.z⟩⟩
 ·simp only[Array.size_append,JJ,Jd,ka,size_zeroCells,b6,JM];omega
 ·simp only[Array.toList_append,I5];rw[<-I5,show(l++[u]).length=(l.map val++[val u]).length from by simp,List.take_left];simp
 intro g' a9;simp[JA]at a9;subst a9;exact cT _ _ _
section
variable{P:Ke}{N:Nat}{ops:Array Lw}{Q:MB→Act→ln→Prop}{rest:List Lw}{st:St}{w:ln}
variable{t t' xt yt:IU}{p p':String}{e e':Array Mo}{d d':Nat}{x y z:JW}
theorem qO{T E:IU}{a0:Nat}(he:LC P T E 1 a0){α:Type}{val:α->ix}{B:Nat}{O:Nat->Nat}{i:Nat}{v:ix}{l:List α}(hr:BufT val E O w i v l)(r:Jo B O w)(u:α){xv:ix} 
  (hv:∀c,ev ((d,c)::st) y=some v) (hx:ev st x=some xv) (a':xv=val u) (a2:(val u).oneCell'=true)
  (hb:(l.length+1)*a0<=140737488355328) (b2:l.length+1<=9223372036854775807) (a6:i≠0) (hd:Ku d N=true) (b1:Ku d' N=true)
  (h:∀v' w' O',BufT val E O' w' i v' (l++[u])->IP (fun k=>k=i) O w O' w'->Jo B O' w'->WL P N ops Q rest ((d',v')::(d,.slice (some ⟨w.heap.size,0,none⟩) 1 1)::st) w') :
  WL P N ops Q (⟨some d,.buildSlice T 1 #[(0,x)],t,p,e,none⟩::⟨some d',.call ⟨.builtin .append,#[y,.tmp d],#[T,T]⟩,t',p',e',none⟩::rest) st w:=by
 subst a';obtain⟨a8,z,hi,hz,a3,b4,b3⟩:=he.parts;have a7:(val u).cells = #[val u]:=by generalize val u=c at a2;cases c<;>first|rfl|simp[IS]at a2
 refine KR (v:=.slice (some ⟨w.heap.size,0,none⟩) 1 1) (w':=w.alloc (.cells (val u).cells E)) hd (fun a ha=>?_) ?_
 ·have:=run_buildSlice (P:=P) w T E 1 #[(0,val u)] (val u).cells a8 z he.ht hi hz (by rw[a3];decide) (by rw[a3];decide) (by
   rw[a3]
   exact iK (by rw[a7];rfl) (by simp))
  simp only[execOp,J7,J9,JX,ha.ev hx,Jl,this,IY];rfl
 have a9:¬(fun k=>k=i) 0:=fun h=>a6 h.symm
 have hE:=Ext.alloc w (.cells (val u).cells E);have r1:=r.ext hE;have b0:BufT val E O (w.alloc (.cells (val u).cells E)) i v l:=hr.upd (aa (S:=fun _=>False) (fun h=>h) O hE) a6 (fun h=>h)
 obtain⟨v',w',O',a4,a5,a1⟩:=nZ (P:=P) (ty:=t') he r1 b0 ⟨w.heap.size,0,none⟩ u (by
  rw[cell_of_row _ _ 0 (val u).cells E (0,0) (heap_alloc_new w _),a7];rfl) a2 hb b2 a6
 refine KR (v:=v') (w':=w') b1 (fun a ha=>?_) ?_
 ·simp only[execOp,resolve,invoke,builtin,Jl,LY,IY,J7,J9,JX,ha.ev (hv _),ha.ev (x:=.tmp d) (v:=.slice (some ⟨w.heap.size,0,none⟩) 1 1) (by simp[ev,cf]),a4]
 have hU:IP (fun k=>k=i) O w O' w':=IJ (aa a9 O hE) a1;exact h v' w' O' a5 hU (r.upd hU)
end
section
variable{P:Ke}{N:Nat}{ops:Array Lw}{Q:MB→Act→ln→Prop}{rest:List Lw}{st:St}{w:ln}
variable{t:IU}{p:String}{e:Array Mo}{d:Nat}{op:Op}
theorem jl{v v':ix}(h:RV P N op t st w v)(e:v=v'):RV P N op t st w v':=e▸h
theorem gh{T E:IU}{sz a1 n:Nat}(he:LC P T E sz a1){z:ix}{parts:List (Nat×JW)}{vs:List (Nat×ix)}(hz:(zeroValue E).run P w=.ok z w) 
  {α:Type} (enc:α->List ix) (xs:List α) {B:Nat} {O:Nat->Nat} (r:Jo B O w) (i:Nat) (a7:i≠0) (hn:xs.length=n) (hv:evp st parts=some vs) (a5:Mr (n*sz) 16777216=true) (a3:Ms (n*sz) 0=false)
  (hf:KH (fun i=>some (i*sz,sz)) ((LX (n*sz)).map (z.cells[· % z.cells.size]!)) vs=some (xs.flatMap enc).toArray) (a2:∀x∈xs,(enc x).length=sz) (hd:Ku d N=true)
  (h:∀v w' O',Kc enc E sz O' w' i v xs->IP (fun k=>k=i) O w O' w'->Jo B O' w'->WL P N ops Q rest ((d,v)::st) w'):WL P N ops Q (⟨some d,.buildSlice T n parts.toArray,t,p,e,none⟩::rest) st w:=by
 subst hn;obtain⟨a8,z',hi,a',a6,b1,a9⟩:=he.parts;have a4:=L2 a5;have a0:¬xs.length*sz=0:=fun e=>by rw[e]at a3;simp at a3
 have b0:xs.length<=xs.length*sz:=Nat.le_mul_of_pos_right _ (Nat.pos_of_ne_zero fun e=>a0 (by rw[e,Nat.mul_zero]));have u1:=KX (S:=fun k=>k=i) (fun e=>a7 e.symm) r (.cells (xs.flatMap enc).toArray E) i;have hE:(LJ E).run P w=.ok sz w:=by simp[LJ,typeInfo,hi,a6]
 refine KR (v:=.slice (some ⟨w.heap.size,0,none⟩) xs.length xs.length) (w':=w.alloc (.cells (xs.flatMap enc).toArray E)) hd (fun a ha=>?_) (h _ _ (jI O w.heap.size i) ⟨⟨?_,fun g hg=>?_⟩,a2⟩ u1 (r.upd u1))
 ·have h1:=ha.evp hv;have e1:(Mk (fun x:Nat×JW=>match x with|(i,x)=>(i,a.eval x)) parts)=vs:=by rw[<-h1]
  simp only[execOp,Ln,J7,e1,Jl,run_underlying he.ht,IY,hE];rw[if_neg zo,if_neg a0];simp[hz,hf,newRow,newObj];rfl
 ·have:=L9 (base:=0) (size:=sz) (e:=E) w (xs.flatMap enc).toArray xs.length (IK _) (by simp[maxLen];omega) (by simpa using kA xs a2);simpa using this
 simp[JA]at hg;subst hg;exact cT _ _ _
theorem qP{T E:IU}{a0 n:Nat}{t':IU}{p':String}{e':Array Mo}{d':Nat}(he:LC P T E 1 a0)(a8:P.underlying E=some (.int .u8)){z:ix}{parts:List (Nat×JW)}{vs:List (Nat×ix)}(hz:(zeroValue E).run P w=.ok z w) 
  {α:Type} (val:α->ix) (l:List α) {B:Nat} {O:Nat->Nat} (r:Jo B O w) (i:Nat) (a6:i≠0) (hn:l.length=n) (hv:evp st parts=some vs) (a4:Mr (n*1) 16777216=true) (a2:Ms (n*1) 0=false)
  (hf:KH (fun i=>some (i*1,1)) ((LX (n*1)).map (z.cells[· % z.cells.size]!)) vs=some (l.map val).toArray) (hd:Ku d N=true) (a7:Ku d' N=true)
  (h:∀v w' O',BufT val E O' w' i v l->IP (fun k=>k=i) O w O' w'->Jo B O' w'->WL P N ops Q rest ((d',v)::(d,v)::st) w') :
  WL P N ops Q (⟨some d,.buildSlice T n parts.toArray,t,p,e,none⟩::⟨some d',.convert T T (.tmp d),t',p',e',none⟩::rest) st w:=by
 subst hn;obtain⟨a9,z',hi,b0,a5,b1,a'⟩:=he.parts;have a3:=L2 a4;have a1:¬l.length*1=0:=fun e=>by rw[e]at a2;simp at a2
 have hE:(LJ E).run P w=.ok 1 w:=by simp[LJ,typeInfo,hi,a5]
 have u1:=KX (S:=fun k=>k=i) (fun e=>a6 e.symm) r (.cells (l.map val).toArray E ((l.map val).toArray.size,(l.map val).toArray.size+1)) i;refine KR (v:=.slice (some ⟨w.heap.size,0,none⟩) l.length l.length) (w':=w.alloc (.cells (l.map val).toArray E)) hd (fun a ha=>?_) ?_
 ·have h1:=ha.evp hv;have e1:(Mk (fun x:Nat×JW=>match x with|(i,x)=>(i,a.eval x)) parts)=vs:=by rw[<-h1]
  simp only[execOp,Ln,J7,e1,Jl,run_underlying he.ht,IY,hE];rw[if_neg zo,if_neg a1];simp only[JM]at hf;simp[hz,hf,newRow,newObj];rfl
 refine KR (v:=.slice (some ⟨w.heap.size,0,none⟩) l.length l.length) (w':=w.alloc (.cells (l.map val).toArray E ((l.map val).toArray.size,(l.map val).toArray.size+1))) a7 (fun a ha=>?_) (h _ _ (jI O w.heap.size i) ⟨.inr ⟨w.heap.size,l.length,_,_,rfl,heap_alloc_new w _,fun j hj hf=>?_,IV _,?_,?_,?_⟩,fun g hg=>?_⟩ u1 (r.upd u1))
 ·simp only[execOp,ha.ev (x:=.tmp d) (v:=.slice (some ⟨w.heap.size,0,none⟩) l.length l.length) (by simp[ev,cf]),Jl,Lib.run_convert_bytes_const w T E _ _ _ he.ht a8,IY];rfl
 ·have:=hf.1;simp at this;omega
 ·simp[maxLen];omega
 ·simp
 ·rw[J2 (by simp)]
 simp only[JA,KT]at hg;subst hg;exact cT _ _ _
end
theorem jO(g:Nat):∀(vs:List ix) (o:Nat) (w:ln),(w.setCells g o vs).os=w.os/\(w.setCells g o vs).tape=w.tape/\(w.setCells g o vs).output=w.output/\(w.setCells g o vs).heap.size=w.heap.size
 |[],_,_=>⟨rfl,rfl,rfl,rfl⟩
 |v::r,o,w=>by
  have h:=jO g r (o+1) (w.setCell ⟨g,o,none⟩ v);refine⟨h.1.trans rfl,h.2.1.trans rfl,h.2.2.1.trans rfl,h.2.2.2.trans ?_⟩;simp[KP]
theorem iZ{g:Nat}{E:IU}:∀(vs:List ix) (o:Nat) (w:ln) (a1:Array ix),w.heap[g]? = some (.cells a1 E (0,0))->∃a0,(w.setCells g o vs).heap[g]? = some (.cells a0 E (0,0))/\a0.size=a1.size
 |[],_,_,a1,h=>⟨a1,h,rfl⟩
 |v::r,o,w,a1,h=>by
  have h2:(w.setCell ⟨g,o,none⟩ v).heap[g]? = some (.cells (a1.setIfInBounds o v) E (0,0)):=by
   simp only[KP,KY,if_pos];rw[h];simp
  obtain⟨a0,h3,h4⟩:=iZ r (o+1) _ _ h2;exact⟨a0,h3,by rw[h4];simp⟩
inductive WinO{α:Type}(enc:α->List ix)(E:IU)(sz:Nat)(O:Nat->Nat)(w:ln)(i:Nat):ix->List α->Prop
 |none (a:Option KW):WinO enc E sz O w i (.slice a 0 0) []
 |some {g off cap:Nat} {cur:Array ix} {l:List α} (tag:O g=i) (blk:w.heap[g]? = some (.cells cur E (0,0))) (fit:off+cap*sz<=cur.size) (len:l.length<=cap) (mx:cap<=maxLen)
  (cells:∀j u,(l.flatMap enc)[j]? = some u->w.cell? ⟨g,off+j,JD⟩=some u) (hz:∀x∈l,(enc x).length=sz):WinO enc E sz O w i (.slice (Kq ⟨g,off,JD⟩) l.length cap) l
section
variable{α:Type}{enc:α→List ix}{E:IU}{sz:Nat}{O:Nat→Nat}{w:ln}{i:Nat}{v:ix}{l:List α}
theorem WinO.nil(enc:α->List ix)(E:IU)(sz:Nat)(O:Nat->Nat)(w:ln)(i:Nat):WinO enc E sz O w i (.slice .none 0 0) []:=.none .none
theorem pL(h:Kc enc E sz O w i v l):WinO enc E sz O w i v l:=by
 obtain⟨⟨⟨hl,hr⟩,ht⟩,hz⟩:=h
 rcases hr with⟨rfl,h0⟩|⟨g,a5,a0,rfl,_,hg,a2,a3,a4,a1⟩
 ·obtain rfl:l=[]:=J1 h0;exact .none .none
 refine .some (ht g rfl) hg zo a2 a3 (fun j u hu=>?_) hz;rw[JZ,cell_of_row w g j a0 E (0,0) hg];rw[<-a1]at hu;have:=Ki (l:=a0.toList) (i:=l.length*sz) (j:=j)
 rw[this]at hu
 split at hu
 ·simpa using hu
 cases hu
theorem WinO.upd{S:Nat->Prop}{O':Nat->Nat}{w':ln}(h:WinO enc E sz O w i v l)(u:IP S O w O' w')(hi:i≠0)(hS:¬S i):WinO enc E sz O' w' i v l:=by
 cases h with
 |none a=>exact .none a
 | @some g off cap cur l tag blk fit len mx cells hz=>
  have hb:=u.blk g (bt blk) (by rw[tag];exact hS);exact .some (by rw[u.tag g (by rw[tag];exact hi),tag]) (by rw[hb];exact blk) fit len mx (fun j x hx=>gZ hb (cells j x hx)) hz
theorem WinO.sl(h:WinO enc E sz O w i v l):Sl enc sz w v l:=by
 cases h with
 |none a=>exact⟨⟨a,0,rfl,IV _,zo,fun h=>absurd rfl h⟩,fun i hi=>absurd hi (by simp)⟩
 | @some g off cap cur l tag blk fit len mx cells hz=>
  refine⟨⟨_,cap,rfl,len,by simpa[maxLen]using mx,fun _=>⟨g,off,rfl⟩⟩,fun i hi j u hu=>?_⟩;have:=cells _ u (eu l hz i hi j u hu);rw[show((adr (.slice (Kq ⟨g,off,JD⟩) l.length cap) sz i).add j)=⟨g,off+(i*sz+j),JD⟩from by simp only[adr,JR];split<;>simp_all[]];exact this
theorem WinO.one(h:WinO enc E sz O w i v l):v.oneCell'=true:=h.sl.one
theorem WinO.tail{x:α}{r:List α}(hp:0<sz)(h:WinO enc E sz O w i v (x::r)):WinO enc E sz O w i (bL v sz 1 (r.length+1)) r:=by
 generalize hl:x::r=l at h
 cases h with
 |none a=>cases hl
 | @some g off cap cur l tag blk fit len mx cells hz=>
  subst hl;simp only[IL]at len
  by_cases hc:cap=1
  ·have hr:r=[]:=J1 zo;subst hr;subst hc;exact .none _
  have hx:=hz x (by simp);obtain⟨a0,rfl⟩:∃c,cap=c+1:=⟨cap-1,zo⟩
  have e:bL (.slice (Kq ⟨g,off,JD⟩) (x::r).length (a0+1)) sz 1 (r.length+1)=.slice (Kq ⟨g,off+sz,JD⟩) r.length a0:=by
   simp only[bL];rw[if_neg zo];simp only[Option.map_some,JR,KB,Lk];rw[if_neg zo]
  rw[e];refine .some tag blk (by rw[Mb]at fit;omega) zo zo (fun j u hu=>?_) (fun y hy=>hz y (by simp[hy]))
  have:=cells (sz+j) u (by
   rw[JL,IN zo,hx,Ji]
   exact hu)
  rw[Kh];exact this
end
theorem nY{P:Ke}{w:ln}{T ty E:IU}{sz bytes:Nat}(he:LC P T E sz bytes){B:Nat}{O:Nat->Nat}(r:Jo B O w){i:Nat}{α:Type}{enc:α->List ix}{v:ix}{l:List α}(hw:WinO enc E sz O w i v l) 
  (x:α) (a:KW) (c:Nat) (hx:∀j u,(enc x)[j]? = some u->w.cell? (a.add j)=some u) (a':(enc x).length=sz) (h1:∀u∈enc x,u.oneCell'=true) (a3:(l.length+1)*bytes<=140737488355328) (b6:l.length+1<=9223372036854775807) (b':i≠0) :
  ∃v' w' O',(Lc #[T,T] ty #[v,.slice (some a) 1 c]).run P w=.ok v' w'/\WinO enc E sz O' w' i v' (l++[x])/\IP (fun k=>k=i) O w O' w':=by
 obtain⟨a1,z,hi,hz,c8,d7,b7⟩:=he.parts;have ht:=he.ht;have hp:=he.pos;subst c8;subst d7;have b8:¬(0=i):=fun h=>b' h.symm
 have fresh:∀ {v':ix} {w':ln} {a7:List ix} {n:Nat} {ls:List α},w'.ownsRow w.heap.size E a1.size v' n a7->n≠0->w.grownBy w' none->n=ls.length->a7=ls.flatMap enc->(∀y∈ls,(enc y).length=a1.size)->∃O',WinO enc E a1.size O' w' i v' ls/\IP (fun k=>k=i) O w O' w':=by
  intro v' w' a7 n ls a4 hn a5 b3 ho c9
  rcases a4.2 with⟨_,h0⟩|⟨g,a9,a8,rfl,hbg,hg,d9,d4,d3,c7⟩
  ·omega
  refine⟨jI O g i,pL ⟨⟨⟨by rw[<-ho];rw[a4.1,b3],.inr ⟨g,a9,a8,by rw[b3],IK _,hg,zo,d4,d3,by rw[<-b3,c7,ho]⟩⟩,fun g' c5=>?_⟩,c9⟩,?_⟩
  ·simp only[JA,KT]at c5;subst c5;exact cT _ _ _
  have d0:=bt hg;refine⟨a5.os,a5.tape,a5.output,a5.size,fun b hb _=>a5.block b hb (by simp),fun b hb=>?_,fun b hb=>?_,b8⟩
  ·unfold jI;rw[if_neg];have:=(r.rng b hb).2;omega
  unfold jI at hb
  split at hb
  ·rename_i e;subst e;exact .inr ⟨hbg,d0⟩
  exact .inl hb
 have b5:∀(g off j:Nat),(⟨g,off,none⟩:KW).add j=⟨g,off+j,none⟩:=fun g off j=>by simp only[JR];split<;>simp_all
 cases hw with
 |none a0=>
  cases a0 with
  |none=>
   obtain⟨v',w',O',a2,b2,b1⟩:=dH (P:=P) (ty:=ty) he r (Mh O w i E a1.size) a 1 c (enc x) zo hx h1 (by simpa using a3) (by simp) b';refine⟨v',w',O',a2,pL ⟨by simpa using b2,fun y hy=>?_⟩,b1⟩;have c6:y=x:=by simpa using hy
   rw[c6];exact a'
  |some b0=>
   obtain⟨v',w',a2,a4,a5⟩:=run_append_arg_grows (P:=P) w T ty E a1 z a1.size a1.bytes ht hi hz rfl rfl b7 hp b0 0 0 [] (by simp) (fun j u hu=>by simp at hu) a 1 c (enc x) zo hx zo (by simp[maxLen]) (by simpa using a3);obtain⟨O',h2,h3⟩:=fresh (ls:=[x]) a4 zo a5 (by simp) (by simp) (fun y hy=>by rw[I3.1 hy];exact a');exact⟨v',w',O',a2,h2,h3⟩
 | @some g off a9 a8 l tag blk fit len mx cells hzl=>
  have b4:=kA l hzl
  by_cases a6:l.length+1<=a9
  ·have d2:off+l.length*a1.size+a1.size<=a8.size:=by
    have:=L6 a1.size a6;rw[Mb,KB]at this;omega
   have b9:∀j,j<(enc x).length->(w.cell? ⟨g,off+l.length*a1.size+j,none⟩).isSome=true:=fun j hj=>by
    rw[cell_of_row w g _ a8 E (0,0) blk,KO (show off+l.length*a1.size+j<a8.size by omega)];rfl
   have d1:∀j,j<(enc x).length->w.frozen? ⟨g,off+l.length*a1.size+j,none⟩=false:=fun j hj=>by simp[LF,blk]
   have a2:=run_append_room_cells (P:=P) w T ty E a1 ht hi g off l.length a9 a 1 c (enc x) zo hx h1 a6 b9 d1;obtain⟨d8,d6,d5⟩:=iZ (enc x) (off+l.length*a1.size) w a8 blk;obtain⟨s1,s2,s3,s4⟩:=jO g (enc x) (off+l.length*a1.size) w;have c':(l++[x]).length=l.length+1:=by simp
   refine⟨_,_,O,a2,?_,⟨s1,s2,s3,zo,fun b hb hn=>World.heap_setCells_other w g _ _ hb (fun e=>hn (by rw[e];exact tag)),fun _ _=>rfl,fun _ h=>.inl h,b8⟩⟩;rw[<-c'];refine .some tag d6 (by rw[d5];exact fit) zo mx (fun j u hu=>?_) (fun y hy=>?_)
   ·rw[Jw,JL,Lr,Je]at hu
    by_cases hj:j<(l.flatMap enc).length
    ·rw[JH hj]at hu;rw[World.cell?_setCells_out g _ _ w _ (fun _ _=>.inl (by show off+j<_;omega))];exact cells j u hu
    rw[IN zo]at hu;have hk:=(IQ.1 hu).1;have:=World.cell?_setCells_in g (enc x) (off+l.length*a1.size) w b9 (j-(l.flatMap enc).length) hk;rw[show off+l.length*a1.size+(j-(l.flatMap enc).length)=off+j from by omega]at this;rw[this];exact(List.getElem?_eq_getElem hk).symm.trans hu
   rcases Jc.1 hy with hy|hy
   ·exact hzl y hy
   rw[I3.1 hy];exact a'
  obtain⟨v',w',a2,a4,a5⟩:=run_append_arg_grows (P:=P) w T ty E a1 z a1.size a1.bytes ht hi hz rfl rfl b7 hp ⟨g,off,none⟩ l.length a9 (l.flatMap enc) b4 (fun j u hu=>by rw[b5];exact cells j u hu) a 1 c (enc x) zo hx zo (by simpa[maxLen]using b6) a3
  obtain⟨O',h2,h3⟩:=fresh (ls:=l++[x]) a4 zo a5 (by simp) (by simp) (fun y hy=>by
   rcases Jc.1 hy with hy|hy
   ·exact hzl y hy
   rw[I3.1 hy];exact a')
  exact⟨v',w',O',a2,h2,h3⟩
section
variable{P:Ke}{N:Nat}{ops:Array Lw}{Q:MB→Act→ln→Prop}{rest:List Lw}{st:St}{w:ln}{t:IU}{p:String}{e:Array Mo}{d:Nat}{x y:JW}
theorem tn{T E:IU}{sz a0:Nat}(he:LC P T E sz a0){α:Type}{enc:α->List ix}{B:Nat}{O:Nat->Nat}{i:Nat}{v sv:ix}{l:List α}{u:α}(hr:WinO enc E sz O w i v l)(r:Jo B O w)(hs:Sl enc sz w sv [u]) 
  (hx:ev st x=some v) (hy:ev st y=some sv) (a4:(enc u).length=sz) (a6:∀c∈enc u,c.oneCell'=true)
  (hb:(l.length+1)*a0<=140737488355328) (a9:l.length+1<=9223372036854775807) (a7:i≠0) (hd:Ku d N=true)
  (h:∀v' w' O',WinO enc E sz O' w' i v' (l++[u])->IP (fun k=>k=i) O w O' w'->Jo B O' w'->WL P N ops Q rest ((d,v')::st) w') :
  WL P N ops Q (⟨some d,.call ⟨.builtin .append,#[x,y],#[T,T]⟩,t,p,e,none⟩::rest) st w:=by
 obtain⟨a,c,rfl,_,_,a8⟩:=hs.shape;obtain⟨b,o,rfl⟩:=a8 (by simp);have a5:=AH hs (fun q hq=>by rw[I3.1 hq];exact a4) he.pos rfl;simp only[JL,Lr,Je]at a5;obtain⟨v',w',O',a2,a3,a1⟩:=nY (P:=P) (ty:=t) he r hr u ⟨b,o,none⟩ c a5 a4 a6 hb a9 a7;refine KR (v:=v') (w':=w') hd (fun a ha=>?_) (h v' w' O' a3 a1 (r.upd a1));simp only[execOp,resolve,invoke,builtin,Jl,LY,IY,J7,J9,JX,ha.ev hx,ha.ev hy,ka,a2]
end
end Go.VL
namespace Go.Proofs.YtpfpmhhigheccaaGreatDoor
abbrev En:=Nat×Bool
abbrev Fo(x:En):List ix:=[nI (x.1:Int),.bool x.2]
theorem elE:LC J3 134 136 2 16:=⟨L4,by kernel_rfl,zd⟩
structure RunS where
 row:Nat
 wait:List En
 begun:Bool
 last:En
 closed:Bool
def grT(t:TabM)(c:Nat):Nat:=(nth t.groups c).toNat
def stL(t:TabM)(r c:Nat):Nat:=(getM t.left r (grT t c)).toNat
def stR(t:TabM)(r c:Nat):Nat:=(getM t.right r (grT t c)).toNat
structure OkT(t:TabM):Prop where
 okl:OkP t.left
 okr:OkP t.right
 gl:t.groups.length=37
 gr:∀c,c<37->0<=nth t.groups c/\nth t.groups c<64
 ll:t.lt.length=t.left.usual.length
 rl:t.rt.length=t.right.usual.length
 lp:0<t.left.usual.length
 rp:0<t.right.usual.length
 lst:∀r c,r<t.left.usual.length->c<37->0<=getM t.left r (grT t c)/\getM t.left r (grT t c)<t.left.usual.length
 rst:∀r c,r<t.right.usual.length->c<37->0<=getM t.right r (grT t c)/\getM t.right r (grT t c)<t.right.usual.length
 ig:t.ig<2^36
 kp:t.kp<2^36
 br:t.br<2^40
 lt:∀q∈t.lt,q<2^40
 rt:∀q∈t.rt,q<2^40
theorem OkT.gN{t:TabM}(h:OkT t){c:Nat}(hc:c<37):nth t.groups c=((grT t c:Nat):Int)/\grT t c<64:=by
 have:=h.gr c hc;unfold grT;omega
theorem OkT.lN{t:TabM}(h:OkT t){r c:Nat}(hr:r<t.left.usual.length)(hc:c<37):getM t.left r (grT t c)=((stL t r c:Nat):Int)/\stL t r c<t.left.usual.length:=by
 have:=h.lst r c hr hc;unfold stL;omega
theorem OkT.rN{t:TabM}(h:OkT t){r c:Nat}(hr:r<t.right.usual.length)(hc:c<37):getM t.right r (grT t c)=((stR t r c:Nat):Int)/\stR t r c<t.right.usual.length:=by
 have:=h.rst r c hr hc;unfold stR;omega
def FreeL(O:Nat->Nat)(w:ln)(cs:List ix):Prop:=∀v∈cs,KI O w v
theorem FreeL.upd{S:Nat->Prop}{O O':Nat->Nat}{w w':ln}{cs:List ix}(h:FreeL O w cs)(u:IP S O w O' w'):FreeL O' w' cs:=fun v hv=>(h v hv).upd u
theorem PartV.updF{S:Nat->Prop}{O O':Nat->Nat}{w w':ln}{cs:List ix}{p:La}{tl:List Nat}(h:PartV w cs p tl)(n:FreeL O w cs)(u:IP S O w O' w'):PartV w' cs p tl:=by
 obtain⟨uv,bv,kv,nv,tv,rfl,h1,h2,h3,h4,h5⟩:=h;exact⟨uv,bv,kv,nv,tv,rfl,h1.upd (n uv (by simp)) u,h2.upd (n bv (by simp)) u,h3.upd (n kv (by simp)) u,h4.upd (n nv (by simp)) u,h5.upd (n tv (by simp)) u⟩
theorem PartV.tv{w:ln}{cs:List ix}{p:La}{tl:List Nat}(h:PartV w cs p tl):∃tv,cs[5]? = some tv/\Sl fj 1 w tv tl:=by
 obtain⟨uv,bv,kv,nv,tv,rfl,h1,h2,h3,h4,h5⟩:=h;exact⟨tv,rfl,h5⟩
abbrev CP(wv:ix)(s:RunS):List ix:=[nI (s.row:Int),wv,.bool s.begun,nI (s.last.1:Int),.bool s.last.2,.bool s.closed]
abbrev od(t:TabM)(gv:ix)(lc rc:List ix)(wv:ix)(s:RunS):List ix:=bE t.ig t.kp t.br t.rules gv lc rc++CP wv s
structure RunO(O:Nat->Nat)(w:ln)(i j rb:Nat)(t:TabM)(gv:ix)(lc rc:List ix)(wv:ix)(s:RunS):Prop where
 blk:Kv O w i rb (od t gv lc rc wv s).toArray 138
 win:WinO Fo 136 2 O w j wv s.wait
 groups:K2 w gv t.groups
 left:PartV w lc t.left t.lt
 right:PartV w rc t.right t.rt
 fr:FreeL O w (gv::(lc++rc))
section
variable{O:Nat→Nat}{w:ln}{i j rb:Nat}{t:TabM}{gv:ix}{lc rc:List ix}{wv:ix}{s:RunS}
theorem RunO.upd{S:Nat->Prop}{O':Nat->Nat}{w':ln}(h:RunO O w i j rb t gv lc rc wv s)(u:IP S O w O' w')(hi:i≠0)(hj:j≠0)(h1:¬S i)(h2:¬S j):RunO O' w' i j rb t gv lc rc wv s:=
 ⟨h.blk.upd u hi h1,h.win.upd u hj h2,h.groups.upd (h.fr gv (by simp)) u,h.left.updF (fun v hv=>h.fr v (by simp[hv])) u,h.right.updF (fun v hv=>h.fr v (by simp[hv])) u,h.fr.upd u⟩
theorem RunO.tab(h:RunO O w i j rb t gv lc rc wv s):TabB w rb t gv lc rc:=⟨fun k u hu=>h.blk.cell k (by
 have:=(IQ.1 hu).1;simp only[od,K6]
 rw[JH this];exact hu),h.groups,h.left,h.right⟩
theorem RunO.len(h:RunO O w i j rb t gv lc rc wv s):(bE t.ig t.kp t.br t.rules gv lc rc).length=17:=by simp[h.left.one.1,h.right.one.1]
theorem RunO.cell(h:RunO O w i j rb t gv lc rc wv s)(k:Nat)(u:ix)(hu:[nI (s.row:Int),wv,.bool s.begun,nI (s.last.1:Int),.bool s.last.2,.bool s.closed][k]? = some u):w.cell? ⟨rb,17+k,none⟩=some u:=h.blk.cell (17+k) (by
 have hl:=h.len;simp only[od,K6]
 rw[IN zo,hl,Ji];exact hu)
theorem RunO.k17(h:RunO O w i j rb t gv lc rc wv s):w.cell? (nA rb 17)=some (nI (s.row:Int)):=h.cell 0 _ rfl
theorem RunO.k18(h:RunO O w i j rb t gv lc rc wv s):w.cell? (nA rb 18)=some wv:=h.cell 1 _ rfl
theorem RunO.k19(h:RunO O w i j rb t gv lc rc wv s):w.cell? (nA rb 19)=some (.bool s.begun):=h.cell 2 _ rfl
theorem RunO.k20(h:RunO O w i j rb t gv lc rc wv s):w.cell? ((nA rb 20).add 0)=some (nI (s.last.1:Int)):=h.cell 3 _ rfl
theorem RunO.k21(h:RunO O w i j rb t gv lc rc wv s):w.cell? ((nA rb 20).add 1)=some (.bool s.last.2):=h.cell 4 _ rfl
theorem RunO.k22(h:RunO O w i j rb t gv lc rc wv s):w.cell? (nA rb 22)=some (.bool s.closed):=h.cell 5 _ rfl
end
structure OkS(t:TabM)(s:RunS):Prop where
 row:s.row<t.left.usual.length
 wait:∀x∈s.wait,x.1<36
 last:s.last.1<36
 few:s.wait.length<=1000000
def rwL(t:TabM):List En->Nat->Nat->Nat->Nat
 |[],_,_,told=>told
 |(c,h)::r,row,seen,told=>if h=true then rwL t r row seen told else if seen=4 then told else rwL t r (stR t row c) (seen+1) (told ||| nth t.rt (stR t row c))
def gp(t:TabM)(l:List En):Nat:=rwL t l 0 0 (nth t.rt 0)
theorem zp{t:TabM}(ho:OkT t):∀(l:List En) (a2 a1 a0:Nat),(∀x∈l,x.1<36)->a2<t.right.usual.length->a0<2^40->rwL t l a2 a1 a0<2^40
 |[],_,_,_,_,_,h=>h
 |(c,h)::r,a2,a1,a0,hc,hr,ht=>by
  unfold rwL;have a3:=hc (c,h) (by simp);have hn:=(ho.rN hr (show c<37 by simp at a3;omega)).2
  split
  ·exact zp ho r a2 a1 a0 (fun x hx=>hc x (by simp[hx])) hr ht
  split
  ·exact ht
  exact zp ho r _ _ _ (fun x hx=>hc x (by simp[hx])) hn (Jm ht (ho.rt _ (aM (by rw[ho.rl];exact hn))))
theorem qd(O:Nat → Nat)(w:ln)(i j rb:Nat)(t:TabM)(gv:ix)(lc rc:List ix)(wv:ix)(s:RunS)(h:RunO O w i j rb t gv lc rc wv s)(ho:OkT t)(hs:OkS t s):
    Kx J3 127 [.pointer (some ⟨rb, 0, none⟩)] w fun v w' => v = .int .u64 ((gp t s.wait:Nat):Int) ∧ KU w w' := by
  have hT := h.tab
  have hp40:(2^40:Nat) = 1099511627776 := by decide
  obtain⟨tv, htc, htl⟩ := h.right.tv
  have hrl := ho.rl
  have hrp := ho.rp
  have hgl := ho.gl
  have c4:w.cell? (((⟨rb, 0, none⟩:KW).add 0).add 4) = some gv := hT.c4
  have c5:w.cell? ((((⟨rb, 0, none⟩:KW).add 0).add 11).add 5) = some tv := hT.cr 5 tv htc
  have t0:w.cell? (adr tv 1 0) = some (.int .u64 ((nth t.rt 0:Nat):Int)) := by have := htl.cell (i := 0) (j := 0) (by omega) rfl; rwa[ay]at this
  have k18 := h.k18
  have hws := h.win.sl
  have hwl := hs.few
  refine I8 func127 ntmps127 rfl rfl ?_
  refine zh ?_
  refine zvH (az htl.sh K8 (Lu _) rfl rfl 0 rfl (by omega)) ?_
  refine zlp (fun z:Nat×Nat×Nat×Nat×ln => [(0, .pointer (some ⟨rb, 0, none⟩)), (3, .int .i64 (z.2.1:Nat)), (4, .int .u64 (z.2.2.2.1:Nat)), (5, .int .i64 (z.2.2.1:Nat)), (19, wv), (20, .int .i64 s.wait.length), (21, .int .i64 z.1)]) (fun z => z.2.2.2.2) (fun z => z.1 ≤ s.wait.length ∧ z.2.1 < t.right.usual.length ∧ z.2.2.1 ≤ 4 ∧ z.2.2.2.1 < 2^40 ∧ KU w z.2.2.2.2 ∧ rwL t (s.wait.drop z.1) z.2.1 z.2.2.1 z.2.2.2.1 = gp t s.wait) (fun z => s.wait.length - z.1) (0, 0, 0, nth t.rt 0, w) (⟨IK _, hrp, IK _, ho.rt _ (aM (by omega)), ID _, rfl⟩) ?_
  rintro⟨k, row, seen, told, w1⟩ ⟨hk, hrow, hseen, htold, hE1, heq⟩
  dsimp only at hk hrow hseen htold hE1 heq ⊢
  have hws1 := hws.ext hE1
  refine zh ?_
  refine zC ?_ ?_
  · intro hlt
    replace hlt:k < s.wait.length := by have := of_decide_eq_true hlt; omega
    obtain⟨c, hd, hcd⟩:∃c hd, (c, hd) = nth s.wait k := ⟨_, _, rfl⟩
    have hc36 := hs.wait _ (aM hlt)
    rw[← hcd]at hc36
    dsimp only at hc36
    rw[List.drop_eq_getElem_cons hlt, ← aB hlt, ← hcd, rwL]at heq
    refine zh ?_
    refine zv (ah (us := [.int .i64 (c:Nat), .bool hd]) (fun j u hu => hws1.cell hlt (by rw[← hcd]; exact hu)) (KZ _) (J6 _) rfl) ?_
    refine ar (aw w1) 1 (by omega) (KE _) rfl ?_
    intro xb w2 O2 hxb2 hU2 hR2 hE2
    refine zsa (us := #[.int .i64 (c:Nat), .bool hd]) hxb2 (J6 _) ?_
    have hxb3 := hxb2.setRow (us := #[.int .i64 (c:Nat), .bool hd])
    have hU3:IP (fun j => j = 1) O2 w2 O2 (w2.setRow xb #[.int .i64 (c:Nat), .bool hd]) := I9 (by decide) hxb2.tag rfl
    have hE13 := (hU2.trans hU3).ext
    generalize w2.setRow xb #[.int .i64 (c:Nat), .bool hd] = w3 at *
    have hE03 := hE1.trans hE13
    have x0:w3.cell? ((⟨xb, 0, none⟩:KW).add 0) = some (.int .i64 (c:Int)) := hxb3.cell 0 rfl
    have x1:w3.cell? ((⟨xb, 0, none⟩:KW).add 1) = some (.bool hd) := hxb3.cell 1 rfl
    refine zh ?_
    refine zC ?_ ?_
    · intro hh
      rw[if_pos hh]at heq
      refine zh ?_
      refine zxd (k + 1, row, seen, told, w3) (⟨hlt, hrow, hseen, htold, hE03, heq⟩)
    · intro hh
      rw[if_neg (by rw[hh]; decide)]at heq
      refine zh ?_
      refine zC ?_ ?_
      · intro h4
        replace h4 : seen = 4 := by have : (seen : Int) = 4 := by simpa using h4
                                    omega
        rw[if_pos h4]at heq
        refine zh ?_
        refine af rfl rfl (⟨by rw[← heq], hE03⟩)
      · intro h4
        replace h4 : seen ≠ 4 := by have : ¬ (seen : Int) = 4 := by simpa using h4
                                    omega
        rw[if_neg h4]at heq
        have hT3 := hT.ext hE03
        obtain⟨hg1, hg2⟩ := ho.gN (c := c) (by omega)
        obtain⟨hr1, hr2⟩ := ho.rN hrow (c := c) (by omega)
        have d4:w3.cell? (((⟨rb, 0, none⟩:KW).add 0).add 4) = some gv := hT3.c4
        have dcr:∀(j:Nat) (u:ix), rc[j]? = some u → w3.cell? ((((⟨rb, 0, none⟩:KW).add 0).add 11).add j) = some u := hT3.cr
        have dg:w3.cell? (adr gv 1 c) = some (.int .i64 ((grT t c:Nat):Int)) := by have := hT3.groups.cell (i := c) (j := 0) (by omega) rfl; rw[ay, hg1]at this; exact this
        have hgs := hT3.groups
        refine zh ?_
        refine My 15 rfl rfl (by kernel_rfl) (by kernel_rfl) ?_
        refine zh ?_
        refine zwH (ah (us := rc) dcr (Kb _) (by rw[h.right.one.1]; exact J5 _) rfl) ?_
        refine WS.go ?_
        refine zc Md (jM rc t.right t.rt row (grT t c) w3.drew (hT3.right.ext (ID w3).drew) ho.okr hrow hg2) ?_
        rintro _ w4 ⟨rfl, hE4⟩
        rw[hr1]
        have hE04:KU w w4 := (hE03.trans (ID w3).drew).trans hE4
        have hT4 := hT.ext hE04
        have e5:w4.cell? ((((⟨rb, 0, none⟩:KW).add 0).add 11).add 5) = some tv := hT4.cr 5 tv htc
        have htl4 := htl.ext hE04
        have t4:w4.cell? (adr tv 1 (stR t row c)) = some (.int .u64 ((nth t.rt (stR t row c):Nat):Int)) := by have := htl4.cell (i := stR t row c) (j := 0) (by omega) rfl; rwa[ay]at this
        have hlt2 := ho.rt _ (aM (l := t.rt) (j := stR t row c) (by omega))
        refine zh ?_
        refine zvH (nJ (a := told) (b := nth t.rt (stR t row c)) rfl rfl rfl rfl (by show _ ≤ (18446744073709551615:Int); omega) (by show _ ≤ (18446744073709551615:Int); omega)) ?_
        refine zxd (k + 1, stR t row c, seen + 1, told ||| nth t.rt (stR t row c), w4) (⟨hlt, hr2, by dsimp only; omega, Jm htold hlt2, hE04, heq⟩)
  · intro hge
    obtain rfl:k = s.wait.length := by have := of_decide_eq_false hge; omega
    rw[List.drop_length, rwL]at heq
    refine zh ?_
    refine af rfl rfl (⟨by rw[← heq], hE1⟩)
theorem lJ{g:Nat}{tab:List Nat}{w w':ln}(h:LP g tab w)(e:KU w w'):LP g tab w':=fun j hj=>e.cell (h j hj)
abbrev lW(w:ln):Prop:=LP 0 Ls w
def eP(t:TabM)(s:RunS):Int:=if nth t.lt s.row &&& gp t s.wait=0 then -1 else((L0 64 (nth t.lt s.row &&& gp t s.wait):Nat):Int)
theorem rO{t:TabM}{s:RunS}(ho:OkT t)(hs:OkS t s):gp t s.wait<2^40:=zp ho _ _ _ _ hs.wait ho.rp (ho.rt _ (aM (by have:=ho.rl;have:=ho.rp;omega)))
theorem pQ(O:Nat->Nat)(w:ln)(i j rb:Nat)(t:TabM)(gv:ix)(lc rc:List ix)(wv:ix)(s:RunS)(h:RunO O w i j rb t gv lc rc wv s)(hi:i≠0)(hj:j≠0)(ho:OkT t)(hs:OkS t s)(hT:lW w):
  Kx J3 101 [nP rb] w fun v w'=>v=nI (eP t s)/\KU w w':=by
 have hB:=h.tab;obtain⟨tv,a4,a3⟩:=h.left.tv;have a':=ho.ll;have a5:=hs.row;have c1:w.drew.cell? (((nA rb 0).add 5).add 5)=some tv:=hB.cl 5 tv a4;have t1:w.drew.cell? (adr tv 1 s.row)=some (.int .u64 ((nth t.lt s.row:Nat):Int)):=by have:=a3.cell (i:=s.row) (j:=0) zo rfl;rwa[ay]at this
 have k17:=h.k17;have a7:=ho.lt _ (aM (l:=t.lt) (j:=s.row) zo);have a9:=rO ho hs;have a6:(2^40:Nat)=1099511627776:=zd;have hW:eP t s=if nth t.lt s.row &&& gp t s.wait=0 then -1 else((L0 64 (nth t.lt s.row &&& gp t s.wait):Nat):Int):=rfl
 rw[hW];have a8:nth t.lt s.row &&& gp t s.wait<2^40:=JE Nat.and_le_left a7;refine I8 func101 ntmps101 rfl rfl ?_;refine zh ?_;have k17:w.drew.cell? (nA rb 17)=some (nI (s.row:Int)):=k17;refine aL (fun W=>W.cell? (((nA rb 0).add 5).add 5)=some tv/\W.cell? (adr tv 1 s.row)=some (.int .u64 ((nth t.lt s.row:Nat):Int))/\W.cell? (nA rb 17)=some (nI (s.row:Int))) 16 rfl zk ?_;refine zin ⟨c1,t1,k17⟩ fun zS=>?_
 refine zrm 0 rfl zS rfl ?_;refine zr 1 rfl zS (fun _=>ao rfl) ?_
 refine zrf 2 rfl zS rfl ?_;refine zrf 3 rfl zS rfl ?_
 refine zrf 4 rfl zS rfl ?_;refine zt 5 rfl zS (fun w1 a1=>RV.ld a1.1 rfl) ?_
 refine zrm 6 rfl zS rfl ?_;refine zr 7 rfl zS (fun _=>ao rfl) ?_
 refine zrf 8 rfl zS rfl ?_;refine zt 9 rfl zS (fun w1 a1=>RV.ld a1.2.2 rfl) ?_
 refine zr 10 rfl zS (fun _=>az a3.sh K8 (Lu _) rfl rfl s.row rfl zo) ?_;refine zt 11 rfl zS (fun w1 a1=>RV.ld a1.2.1 rfl) ?_
 refine zrm 12 rfl zS rfl ?_;refine IE 13 zk rfl ?_
 refine zc call127 (qd O w.drew i j rb t gv lc rc wv s (h.upd (aa (S:=fun _=>False) (fun h=>h) O (ID w).drew) hi hj (fun h=>h) (fun h=>h)) ho hs) ?_;rintro _ w1 ⟨rfl,a2⟩;have a0:KU w w1:=(ID w).drew.trans a2;refine zh ?_
 refine zaf (⟨a2.cell c1,a2.cell t1,a2.cell k17⟩) fun zS=>?_
 refine zr 14 rfl zS (fun _=>lL (a:=nth t.lt s.row) (b:=gp t s.wait) rfl rfl rfl rfl (by show _<=(18446744073709551615:Int);omega) (by show _<=(18446744073709551615:Int);omega)) ?_;refine zra 15 rfl zS rfl ?_
 refine Jg zk ?_;refine zh ?_
 generalize nth t.lt s.row &&& gp t s.wait=both at *
 by_cases h0:both=0
 ·rw[if_pos h0];refine zTH rfl ((by rw[h0];rfl)) ?_;refine af rfl rfl (⟨rfl,a0⟩)
 rw[if_neg h0];refine zFH rfl ((by rw[beq_eq_false_iff_ne];omega)) ?_;refine zc call128 (FL both w1 zo h0 (lJ hT a0)) ?_;rintro _ w2 ⟨rfl,rfl⟩;refine zh ?_;refine af rfl rfl (⟨rfl,a0⟩)
theorem GM:cB J3 136 #[(0,1),(1,1)]:=⟨_,underlying136,fun w=>by kernel_rfl⟩
section
variable{O:Nat→Nat}{w:ln}{i j rb:Nat}{t:TabM}{gv:ix}{lc rc:List ix}{wv:ix}{s:RunS}
theorem RunO.size(h:RunO O w i j rb t gv lc rc wv s):(od t gv lc rc wv s).toArray.size=23:=by simp[h.left.one.1,h.right.one.1]
theorem RunO.at_(h:RunO O w i j rb t gv lc rc wv s)(k:Nat){u:ix}(hu:(CP wv s)[k]? = some u):(od t gv lc rc wv s).toArray[17+k]? = some u:=by
 have hl:=h.len;simp only[od,K6];rw[IN zo,hl,Ji];exact hu
theorem RunO.store2(h:RunO O w i j rb t gv lc rc wv s)(hi:i≠0)(hj:j≠0)(a0:i≠j){S:Nat->Prop}{O':Nat->Nat}{w':ln}(u0:IP S O w O' w')(hb:Kv O' w' i rb (od t gv lc rc wv s).toArray 138)(k:Nat)(v:ix){wv':ix}{s':RunS} 
  (hk:(CP wv s).set k v=CP wv' s') (hw:WinO Fo 136 2 O' w' j wv' s'.wait) :
  RunO O' (w'.setCell ⟨rb,17+k,none⟩ v) i j rb t gv lc rc wv' s'/\IP (fun q=>q=i) O' w' O' (w'.setCell ⟨rb,17+k,none⟩ v):=by
 have u:IP (fun q=>q=i) O' w' O' (w'.setCell ⟨rb,17+k,none⟩ v):=Jq (fun e=>hi e.symm) hb.tag rfl;have f0:=h.fr.upd u0;have g0:=h.groups.upd (h.fr gv (by simp)) u0;have l0:=h.left.updF (fun v hv=>h.fr v (by simp[hv])) u0;have r0:=h.right.updF (fun v hv=>h.fr v (by simp[hv])) u0;refine⟨⟨?_,hw.upd u hj (fun e=>a0 e.symm),g0.upd (f0 gv (by simp)) u,l0.updF (fun v hv=>f0 v (by simp[hv])) u,r0.updF (fun v hv=>f0 v (by simp[hv])) u,f0.upd u⟩,u⟩;have hb:=hb.set (17+k) v;have hl:=h.len;have e:(od t gv lc rc wv s).toArray.setIfInBounds (17+k) v=(od t gv lc rc wv' s').toArray:=by
  rw[List.setIfInBounds_toArray];unfold od;rw[List.set_append_right _ _ zo,hl,Ji,hk]
 rw[e]at hb;exact hb
theorem RunO.store(h:RunO O w i j rb t gv lc rc wv s)(hi:i≠0)(hj:j≠0)(a0:i≠j)(k:Nat)(v:ix){wv':ix}{s':RunS}(hk:(CP wv s).set k v=CP wv' s')(hw:WinO Fo 136 2 O w j wv' s'.wait):
  RunO O (w.setCell ⟨rb,17+k,none⟩ v) i j rb t gv lc rc wv' s'/\IP (fun q=>q=i) O w O (w.setCell ⟨rb,17+k,none⟩ v):=
 h.store2 hi hj a0 (JS (S:=fun _=>False) (fun h=>h) O w) h.blk k v hk hw
theorem RunO.lastE(h:RunO O w i j rb t gv lc rc wv s)(c:Nat)(b:Bool):((od t gv lc rc wv s).toArray.toList.take 20++(#[nI (c:Int),.bool b]:Array ix).toList++(od t gv lc rc wv s).toArray.toList.drop (20+(#[nI (c:Int),.bool b]:Array ix).size)).toArray=(od t gv lc rc wv {s with last:=(c,b)}).toArray:=by
 have hl:=h.len;congr 1;show List.take 20 (bE t.ig t.kp t.br t.rules gv lc rc++CP wv s)++[nI (c:Int),.bool b]++Mg 22 (bE t.ig t.kp t.br t.rules gv lc rc++CP wv s)=_;have hd:Mg 22 (bE t.ig t.kp t.br t.rules gv lc rc)=[]:=List.drop_eq_nil_of_le zo;rw[List.take_append,List.drop_append,hl,J2 zo,hd];simp
theorem RunO.lastS(h:RunO O w i j rb t gv lc rc wv s)(hi:i≠0)(hj:j≠0)(a0:i≠j)(c:Nat)(b:Bool):
  RunO O (w.setRow rb (od t gv lc rc wv {s with last:=(c,b)}).toArray) i j rb t gv lc rc wv {s with last:=(c,b)}/\IP (fun q=>q=i) O w O (w.setRow rb (od t gv lc rc wv {s with last:=(c,b)}).toArray):=by
 have u:IP (fun q=>q=i) O w O (w.setRow rb (od t gv lc rc wv {s with last:=(c,b)}).toArray):=I9 (fun e=>hi e.symm) h.blk.tag rfl;exact⟨⟨h.blk.setRow,h.win.upd u hj (fun e=>a0 e.symm),h.groups.upd (h.fr gv (by simp)) u,h.left.updF (fun v hv=>h.fr v (by simp[hv])) u,h.right.updF (fun v hv=>h.fr v (by simp[hv])) u,h.fr.upd u⟩,u⟩
end
def jc(id:Int):Nat:=if id<0\/36<=id then 0 else id.toNat
theorem sU(id:Int):jc id<36:=by unfold jc;split<;>omega
def CW(t:TabM)(s:RunS)(c:Nat):Bool:=t.ig.testBit c&&(s.last.2 || !(t.kp.testBit s.last.1))
def yv(t:TabM)(s:RunS)(c:Nat):RunS:=
 if s.begun=true then {s with last:=(c,CW t s c),wait:=s.wait++[(c,CW t s c)]} else {s with begun:=true,last:=(c,false),row:=stL t s.row c}
theorem Dy{t:TabM}{s:RunS}{c:Nat}(ho:OkT t)(hs:OkS t s)(hc:c<36)(hf:s.wait.length+1<=1000000):OkS t (yv t s c):=by
 unfold yv
 split
 ·refine⟨hs.row,fun x hx=>?_,hc,by simpa using hf⟩
  rcases Jc.1 hx with hx|hx
  ·exact hs.wait x hx
  rw[I3.1 hx];exact hc
 exact⟨(ho.lN hs.row zo).2,hs.wait,hc,by show s.wait.length<=_;omega⟩
theorem tV(B:Nat)(O:Nat → Nat)(w:ln)(i j rb:Nat)(t:TabM)(gv:ix)(lc rc:List ix)(wv:ix)(s:RunS)(h:RunO O w i j rb t gv lc rc wv s)(hi:i ≠ 0)(hj:j ≠ 0)(hij:i ≠ j)(hi1:i < 1000)(hj1:j < 1000)(ho:OkT t)(hs:OkS t s)(hf:s.wait.length + 1 ≤ 1000000)(hR:Jo B O w)(id:Int):
  Kx J3 42 [nP rb, nI id] w fun _ w' => ∃O' wv', RunO O' w' i j rb t gv lc rc wv' (yv t s (jc id)) ∧ IP (fun q => q = i ∨ q = j ∨ q = 1000) O w O' w' ∧ Jo B O' w' := by
 have hp40:(2^40:Nat) = 1099511627776 := by decide
 have hp36:(2^36:Nat) = 68719476736 := by decide
 have hz:¬(0 = i ∨ 0 = j ∨ 0 = 1000) := by omega
 have hl1 := hs.last
 have hwl := hs.few
 obtain⟨c, hc⟩:∃c, c = jc id := ⟨_, rfl⟩
 have hc36:c < 36 := by rw[hc]; exact sU id
 rw[← hc]
 refine I8 func42 ntmps42 rfl rfl ?_
 refine I7 ?_
 refine I7 ?_
 refine I0 ?_
 refine zv (I1 rfl) ?_
 refine zv (Lo rfl rfl) ?_
 refine zv (I1 rfl) ?_
 refine bK (fun w1 => _ = w1) (decide (36 ≤ id)) 2 (rfl) rfl rfl rfl rfl rfl ?_ ?_
 ·skip
  intro g1
  refine cz rfl ?_
  refine zv (I1 rfl) ?_
  refine cz rfl ?_
  refine zv (RV.geq rfl rfl) ?_
  refine I2 ?_
  refine cI (tA := 7) 3 (rfl) rfl rfl rfl (fun v hv => (JG hv).symm.trans (congrArg L5 g1)) rfl
 rintro _ rfl
 refine I2 ?_
 refine ai ?_
 refine kM (fun z:Nat => [(0, nP rb), (1, nI (z:Nat))]) (fun z:Nat => w) (fun z:Nat => z = c) ?_ ?_
 ·intro hN
  refine zC ?_ ?_
  ·intro hb
   refine I0 ?_
   refine zv (I6 rfl) ?_
   refine I2 ?_
   exact eA (hN (0) (by rw[hc]; unfold jc; rw[if_pos (by simpa using hb)])) ⟨rfl, rfl, trivial⟩ rfl
  ·intro hb
   obtain rfl:id = (c:Int) := by
    have:¬(id < 0 ∨ 36 ≤ id) := by simpa using hb
    rw[hc]; unfold jc
    rw[if_neg this]; omega
   refine Kg ?_
   exact eA (hN (c) (rfl)) ⟨rfl, rfl, trivial⟩ rfl
 rintro c' hcc
 obtain rfl:c = c' := hcc.symm
 clear hcc hc
 refine ai ?_
 refine I7 ?_
 refine I0 ?_
 refine zv (I1 rfl) ?_
 refine zv (aE GM (KE _) rfl (by first | rfl | (simp only[IG, Jz]; rfl)) rfl rfl) ?_
 refine ar hR 1000 (by omega) (KE _) rfl ?_
 intro xb w1 O1 hxb1 hU1 hR1 hE1
 refine zsa (us := #[nI (c:Nat), .bool false]) hxb1 (J6 _) ?_
 have hxb2 := hxb1.setRow (us := #[nI (c:Nat), .bool false])
 have hU2:IP (fun q => q = 1000) O1 w1 O1 (w1.setRow xb #[nI (c:Nat), .bool false]) := I9 (by decide) hxb1.tag rfl
 generalize w1.setRow xb #[nI (c:Nat), .bool false] = w2 at *
 have hU02 := hU1.trans hU2
 have hR2 := hR1.upd hU2
 have h2 := h.upd hU02 hi hj (by omega) (by omega)
 have k19 := h2.k19
 have hcs := hxb2.cellsAdd
 refine I2 ?_
 refine ai ?_
 refine I7 ?_
 refine I7 ?_
 refine I0 ?_
 refine zv (I1 rfl) ?_
 refine zv (ao rfl) ?_
 refine zv (RV.fa rfl) ?_
 refine zv (RV.ld k19 rfl) ?_
 refine zv (LQ rfl) ?_
 refine I2 ?_
 refine ai ?_
 have hX := aa (S := fun _ => False) (fun h => h) O1 (ID w2).drew
 cases hbg:s.begun with
 |false =>
  refine aO rfl rfl ?_
  refine I7 ?_
  refine aL (fun W => ∀k u, [nI (c:Nat), .bool false][k]? = some u → W.cell? (nA xb k) = some u) 9 rfl (by kernel_rfl) ?_
  refine zrm 0 rfl hcs rfl ?_
  refine zrm 1 rfl hcs rfl ?_
  refine zt 2 rfl hcs (fun w1 hw1 => ah (us := [nI (c:Nat), .bool false]) hw1 (KZ _) (J6 _) rfl) ?_
  refine zr 3 rfl hcs (fun _ => ao rfl) ?_
  refine zrf 4 rfl hcs rfl ?_
  have h2d := h2.upd hX hi hj (fun h => h) (fun h => h)
  refine IE 5 (by kernel_rfl) rfl ?_
  refine aj (j := 19) h2d.blk (h2d.at_ 2 rfl) (Jp _) rfl rfl rfl rfl ?_
  obtain⟨h3, hU3⟩ := h2d.store hi hj hij 2 (.bool true) (wv' := wv) (s' := {s with begun := true}) (by simp[hbg]) h2d.win
  have hU03 := (hX.mono (S' := fun q => q = i) (fun _ h => h.elim) (by omega)).trans hU3
  have hx3 := hxb2.upd hU03 (by decide) (by omega)
  have hR3 := hR2.upd hU03
  generalize w2.drew.setCell ⟨rb, 17 + 2, none⟩ (.bool true) = w3 at *
  refine I2 ?_
  refine zaf (hx3.cellsAdd) fun zS => ?_
  refine zr 6 rfl zS (fun _ => ao rfl) ?_
  refine zrf 7 rfl zS rfl ?_
  refine IE 8 (by kernel_rfl) rfl ?_
  refine dZ (us := #[nI (c:Nat), .bool false]) 20 (od t gv lc rc wv {s with begun := true, last := (c, false)}).toArray h3.blk (h3.lastE c false) (by rw[h3.size]; show 22 ≤ 23; omega) (J6 _) rfl rfl rfl rfl ?_
  obtain⟨h4, hU4⟩ := h3.lastS hi hj hij c false
  have hx4 := hx3.upd hU4 (by decide) (by omega)
  have hU04 := hU03.trans hU4
  have hR4 := hR3.upd hU4
  generalize w3.setRow rb (od t gv lc rc wv {s with begun := true, last := (c, false)}).toArray = w4 at *
  refine I2 ?_
  refine ae (hx4.cellsAdd) ?_
  refine Jg (by kernel_rfl) ?_
  refine ai ?_
  refine I7 ?_
  have hB := h4.tab
  obtain⟨hg1, hg2⟩ := ho.gN (c := c) (by omega)
  obtain⟨hr1, hr2⟩ := ho.lN hs.row (c := c) (by omega)
  have hgl := ho.gl
  have d4:w4.drew.cell? ((nA rb 0).add 4) = some gv := hB.c4
  have dcl:∀(j:Nat) (u:ix), lc[j]? = some u → w4.drew.cell? (((nA rb 0).add 5).add j) = some u := hB.cl
  have dg:w4.drew.cell? (adr gv 1 c) = some (nI ((grT t c:Nat):Int)) := by have := hB.groups.cell (i := c) (j := 0) (by omega) rfl; rw[ay, hg1]at this; exact this
  have d17:w4.drew.cell? (nA rb 17) = some (nI (s.row:Int)) := h4.k17
  refine aL (fun W => W.cell? ((nA rb 0).add 4) = some gv ∧ W.cell? (adr gv 1 c) = some (nI ((grT t c:Nat):Int)) ∧ ∀(j:Nat) (u:ix), lc[j]? = some u → W.cell? (((nA rb 0).add 5).add j) = some u) 22 rfl (by kernel_rfl) ?_
  refine zin ⟨d4, dg, dcl⟩ fun zS => ?_
  refine zrm 0 rfl zS rfl ?_
  refine zrm 1 rfl zS rfl ?_
  refine zr 2 rfl zS (fun _ => ao rfl) ?_
  refine zrf 3 rfl zS rfl ?_
  refine zrf 4 rfl zS rfl ?_
  refine zt 5 rfl zS (fun w1 hw1 => ah (us := lc) hw1.2.2 (Kb _) (by rw[h.left.one.1]; exact J5 _) rfl) ?_
  refine zrm 6 rfl zS rfl ?_
  refine zr 7 rfl zS (fun _ => ao rfl) ?_
  refine zrf 8 rfl zS rfl ?_
  refine zrm 10 rfl zS rfl ?_
  refine zr 11 rfl zS (fun _ => ao rfl) ?_
  refine zrf 12 rfl zS rfl ?_
  refine zrf 13 rfl zS rfl ?_
  refine zt 14 rfl zS (fun w1 hw1 => RV.ld hw1.1 rfl) ?_
  refine zrm 15 rfl zS rfl ?_
  refine zr 16 rfl zS (fun _ => az hB.groups.sh JI (Km _) rfl rfl c rfl (by omega)) ?_
  refine zt 17 rfl zS (fun w1 hw1 => RV.ld hw1.2.1 rfl) ?_
  refine IE 9 (by kernel_rfl) rfl ?_
  refine zv (RV.ld d17 rfl) ?_
  refine I2 ?_
  refine ae (⟨d4, dg, dcl⟩) ?_
  refine IE 18 (by kernel_rfl) rfl ?_
  refine zc Md (jM lc t.left t.lt s.row (grT t c) w4.drew (hB.left.ext (ID w4).drew) ho.okl hs.row hg2) ?_
  rintro _ w5 ⟨rfl, hE5⟩
  rw[hr1]
  refine I2 ?_
  refine ae (⟨hE5.cell d4, hE5.cell dg, fun j u hu => hE5.cell (dcl j u hu)⟩) ?_
  have hX5 := aa (S := fun _ => False) (fun h => h) O1 ((ID w4).drew.trans hE5)
  have h5 := h4.upd hX5 hi hj (fun h => h) (fun h => h)
  have hU05 := (hU04.trans (hX5.mono (fun _ h => h.elim) (by omega)))
  have hR5 := hR4.upd hX5
  refine zin (⟨hE5.cell d4, hE5.cell dg, fun j u hu => hE5.cell (dcl j u hu)⟩) fun zS => ?_
  refine zr 19 rfl zS (fun _ => ao rfl) ?_
  refine zrf 20 rfl zS rfl ?_
  refine IE 21 (by kernel_rfl) rfl ?_
  refine aj (j := 17) h5.blk (h5.at_ 0 rfl) (Km _) rfl rfl rfl rfl ?_
  obtain⟨h6, hU6⟩ := h5.store hi hj hij 0 (nI ((stL t s.row c:Nat):Int)) (wv' := wv) (s' := {s with begun := true, last := (c, false), row := stL t s.row c}) rfl h5.win
  have hB6 := h6.tab
  have hR6 := hR5.upd hU6
  have hU06 := hU05.trans hU6
  have q1:(w5.setCell ⟨rb, 17 + 0, none⟩ (nI ((stL t s.row c:Nat):Int))).cell? (adr gv 1 c) = some (nI ((grT t c:Nat):Int)) := by have := hB6.groups.cell (i := c) (j := 0) (by omega) rfl; rw[ay, hg1]at this; exact this
  refine I2 ?_
  refine ae (⟨hB6.c4, q1, hB6.cl⟩) ?_
  refine Jg (by kernel_rfl) ?_
  refine ai ?_
  refine KA ?_
  refine cu ?_
  have e:yv t s c = {s with begun := true, last := (c, false), row := stL t s.row c} := by unfold yv; rw[hbg, if_neg (by decide)]
  refine cj rfl (⟨O1, wv, by rw[e]; exact h6, (hU02.mono (fun _ h => by omega) hz).trans (hU06.mono (fun _ h => by omega) hz), hR6⟩)
 |true =>
  refine aR rfl rfl ?_
  refine Kg ?_
  refine ai ?_
  refine I7 ?_
  have hB := h2.tab
  have kt0:w2.drew.cell? ((nA rb 0).add 0) = some (.int .u64 (t.ig:Int)) := hB.c0
  have kt1:w2.drew.cell? ((nA rb 0).add 1) = some (.int .u64 (t.kp:Int)) := hB.c1
  have k20:w2.drew.cell? ((nA rb 20).add 0) = some (nI (s.last.1:Int)) := h2.k20
  have k21:w2.drew.cell? ((nA rb 20).add 1) = some (.bool s.last.2) := h2.k21
  have hxd := hxb2.upd hX (by decide) (fun h => h)
  have fin:∀b, b = CW t s c → Kv O1 (w2.drew.setCell ⟨xb, 1, none⟩ (.bool b)) 1000 xb #[nI (c:Nat), .bool (CW t s c)] 136 ∧ IP (fun q => q = 1000) O1 w2 O1 (w2.drew.setCell ⟨xb, 1, none⟩ (.bool b)) ∧
    ((w2.drew.setCell ⟨xb, 1, none⟩ (.bool b)).cell? ((nA rb 0).add 0) = some (.int .u64 (t.ig:Int)) ∧ (w2.drew.setCell ⟨xb, 1, none⟩ (.bool b)).cell? ((nA rb 0).add 1) = some (.int .u64 (t.kp:Int)) ∧ (w2.drew.setCell ⟨xb, 1, none⟩ (.bool b)).cell? ((nA rb 20).add 0) = some (nI (s.last.1:Int)) ∧ (w2.drew.setCell ⟨xb, 1, none⟩ (.bool b)).cell? ((nA rb 20).add 1) = some (.bool s.last.2)) := by
   rintro b rfl
   have u1:IP (fun q => q = 1000) O1 w2.drew O1 (w2.drew.setCell ⟨xb, 1, none⟩ (.bool (CW t s c))) := Jq (by decide) hxd.tag rfl
   have u2 := (hX.mono (S' := fun q => q = 1000) (fun _ h => h.elim) (by decide)).trans u1
   have h3 := h2.upd u2 hi hj (by omega) (by omega)
   exact⟨hxd.set 1 _, u2, h3.tab.c0, h3.tab.c1, h3.k20, h3.k21⟩
  have hh:CW t s c = (t.ig.testBit c && (s.last.2 || !(t.kp.testBit s.last.1))) := rfl
  have hkp := ho.kp
  have hig := ho.ig
  refine kM (fun z:ln => [(0, nP rb), (4, nP xb)]) (fun z:ln => z) (fun z:ln => Kv O1 z 1000 xb #[nI (c:Nat), .bool (CW t s c)] 136 ∧ IP (fun q => q = 1000) O1 w2 O1 z) ?_ ?_
  ·intro hN
   refine aL (fun W => W.cell? ((nA rb 0).add 0) = some (.int .u64 (t.ig:Int)) ∧ W.cell? ((nA rb 0).add 1) = some (.int .u64 (t.kp:Int)) ∧ W.cell? ((nA rb 20).add 0) = some (nI (s.last.1:Int)) ∧ W.cell? ((nA rb 20).add 1) = some (.bool s.last.2)) 30 rfl (by kernel_rfl) ?_
   refine zin ⟨kt0, kt1, k20, k21⟩ fun zS => ?_
   refine zrm 0 rfl zS rfl ?_
   refine zr 1 rfl zS (fun _ => ao rfl) ?_
   refine zrf 2 rfl zS rfl ?_
   refine zrf 3 rfl zS rfl ?_
   refine zt 4 rfl zS (fun w1 hw1 => RV.ld hw1.1 rfl) ?_
   refine zrm 5 rfl zS rfl ?_
   refine IE 6 (by kernel_rfl) rfl ?_
   refine zc Mt (qB t.ig c _ (by omega) (by omega)) ?_
   rintro _ w3 ⟨rfl, rfl⟩
   refine I2 ?_
   refine ae (⟨kt0, kt1, k20, k21⟩) ?_
   refine zrm 7 rfl (⟨kt0, kt1, k20, k21⟩) rfl ?_
   cases hb1:t.ig.testBit c with
   |false =>
    obtain⟨f1, f2, f3⟩ := fin false (by rw[hh, hb1]; rfl)
    refine lG (d := 53) rfl (b' := false) (rfl) ?_
    refine zin (⟨kt0, kt1, k20, k21⟩) fun zS => ?_
    refine zte 8 rfl rfl zS ?_
    refine zte 9 rfl rfl zS ?_
    refine zte 10 rfl rfl zS ?_
    refine zte 11 rfl rfl zS ?_
    refine zte 12 rfl rfl zS ?_
    refine zte 13 rfl rfl zS ?_
    refine ztu 14 rfl zS ?_
    refine ztu 15 rfl zS ?_
    refine ztu 16 rfl zS ?_
    refine ztu 17 rfl zS ?_
    refine ztu 18 rfl zS ?_
    refine ztu 19 rfl zS ?_
    refine ztu 20 rfl zS ?_
    refine ztu 21 rfl zS ?_
    refine ztu 22 rfl zS ?_
    refine ztu 23 rfl zS ?_
    refine ztu 24 rfl zS ?_
    refine ztu 25 rfl zS ?_
    refine zte 26 rfl rfl zS ?_
    refine zr 27 rfl zS (fun _ => bq rfl rfl) ?_
    refine zrf 28 rfl zS rfl ?_
    refine IE 29 (by kernel_rfl) rfl ?_
    refine aj (j := 1) hxd rfl (Jp _) rfl rfl rfl rfl ?_
    refine I2 ?_
    refine ae (f3) ?_
    refine Jg (by kernel_rfl) ?_
    exact eA (hN (_) (⟨f1, f2⟩)) ⟨rfl, rfl, trivial⟩ rfl
   |true =>
    refine lG (d := 53) rfl (b' := true) (rfl) ?_
    refine zin (⟨kt0, kt1, k20, k21⟩) fun zS => ?_
    refine zro 8 rfl zS (fun _ => I1 rfl) ?_
    refine zro 9 rfl zS (fun _ => ao rfl) ?_
    refine zro 10 rfl zS (fun _ => RV.fa rfl) ?_
    refine zro 11 rfl zS (fun _ => RV.fa rfl) ?_
    refine zto 12 rfl zS (fun w1 hw1 => RV.ld hw1.2.2.2 rfl) ?_
    refine zro 13 rfl zS (fun _ => I1 rfl) ?_
    cases hb2:s.last.2 with
    |true =>
     obtain⟨f1, f2, f3⟩ := fin true (by rw[hh, hb1, hb2]; rfl)
     rw[hb2]at f3 k21
     refine lG (d := 59) rfl (b' := true) (rfl) ?_
     refine zin (⟨kt0, kt1, k20, k21⟩) fun zS => ?_
     refine zte 14 rfl rfl zS ?_
     refine zte 15 rfl rfl zS ?_
     refine zte 16 rfl rfl zS ?_
     refine zte 17 rfl rfl zS ?_
     refine zte 18 rfl rfl zS ?_
     refine zte 19 rfl rfl zS ?_
     refine zte 20 rfl rfl zS ?_
     refine zte 21 rfl rfl zS ?_
     refine zte 22 rfl rfl zS ?_
     refine zte 23 rfl rfl zS ?_
     refine zte 24 rfl rfl zS ?_
     refine zte 25 rfl rfl zS ?_
     refine zro 26 rfl zS (fun _ => bp rfl rfl) ?_
     refine zr 27 rfl zS (fun _ => bp rfl rfl) ?_
     refine zrf 28 rfl zS rfl ?_
     refine IE 29 (by kernel_rfl) rfl ?_
     refine aj (j := 1) hxd rfl (Jp _) rfl rfl rfl rfl ?_
     refine I2 ?_
     refine ae (f3) ?_
     refine Jg (by kernel_rfl) ?_
     exact eA (hN (_) (⟨f1, f2⟩)) ⟨rfl, rfl, trivial⟩ rfl
    |false =>
     obtain⟨f1, f2, f3⟩ := fin (!(t.kp.testBit s.last.1)) (by rw[hh, hb1, hb2]; rfl)
     rw[hb2]at f3 k21
     refine lG (d := 59) rfl (b' := false) (rfl) ?_
     refine zin (⟨kt0, kt1, k20, k21⟩) fun zS => ?_
     refine zro 14 rfl zS (fun _ => I1 rfl) ?_
     refine zro 15 rfl zS (fun _ => ao rfl) ?_
     refine zro 16 rfl zS (fun _ => RV.fa rfl) ?_
     refine zro 17 rfl zS (fun _ => RV.fa rfl) ?_
     refine zto 18 rfl zS (fun w1 hw1 => RV.ld hw1.2.1 rfl) ?_
     refine zro 19 rfl zS (fun _ => I1 rfl) ?_
     refine zro 20 rfl zS (fun _ => ao rfl) ?_
     refine zro 21 rfl zS (fun _ => RV.fa rfl) ?_
     refine zro 22 rfl zS (fun _ => RV.fa rfl) ?_
     refine zto 23 rfl zS (fun w1 hw1 => RV.ld hw1.2.2.1 rfl) ?_
     refine IE 24 (by kernel_rfl) rfl ?_
     refine cz rfl ?_
     refine zc Mt (qB t.kp s.last.1 _ (by omega) (by omega)) ?_
     rintro _ w3 ⟨rfl, rfl⟩
     refine I2 ?_
     refine zaf (⟨kt0, kt1, k20, k21⟩) fun zS => ?_
     refine zro 25 rfl zS (fun _ => LQ rfl) ?_
     refine zro 26 rfl zS (fun _ => bq rfl rfl) ?_
     refine zr 27 rfl zS (fun _ => bp rfl rfl) ?_
     refine zrf 28 rfl zS rfl ?_
     refine IE 29 (by kernel_rfl) rfl ?_
     refine aj (j := 1) hxd rfl (Jp _) rfl rfl rfl rfl ?_
     refine I2 ?_
     refine ae (f3) ?_
     refine Jg (by kernel_rfl) ?_
     exact eA (hN (_) (⟨f1, f2⟩)) ⟨rfl, rfl, trivial⟩ rfl
  rintro w3 ⟨hx3, hU3⟩
  refine ai ?_
  obtain⟨hd, hhd⟩:∃hd, hd = CW t s c := ⟨_, rfl⟩
  rw[← hhd]at hx3
  have h3 := h2.upd hU3 hi hj (by omega) (by omega)
  have hR3 := hR2.upd hU3
  refine I7 ?_
  refine I0 ?_
  refine zv (I1 rfl) ?_
  refine zv (ah (us := [nI (c:Nat), .bool hd]) hx3.cellsAdd (KZ _) (J6 _) rfl) ?_
  refine zv (ao rfl) ?_
  refine zv (RV.fa rfl) ?_
  refine dZ (us := #[nI (c:Nat), .bool hd]) 20 (od t gv lc rc wv {s with last := (c, hd)}).toArray h3.blk (h3.lastE c hd) (by rw[h3.size]; show 22 ≤ 23; omega) (J6 _) rfl rfl rfl rfl ?_
  obtain⟨h4, hU4⟩ := h3.lastS hi hj hij c hd
  have hx4 := hx3.upd hU4 (by decide) (by omega)
  have hU04 := (hU3.mono (S' := fun q => q = i ∨ q = j ∨ q = 1000) (fun _ h => by omega) hz).trans (hU4.mono (fun _ h => by omega) hz)
  have hR4 := hR3.upd hU4
  generalize w3.setRow rb (od t gv lc rc wv {s with last := (c, hd)}).toArray = w4 at *
  refine I2 ?_
  refine ai ?_
  have k18:w4.drew.cell? (nA rb 18) = some wv := h4.k18
  refine aL (fun W => ∀k u, [nI (c:Nat), .bool hd][k]? = some u → W.cell? (nA xb k) = some u) 11 rfl (by kernel_rfl) ?_
  refine zin hx4.cellsAdd fun zS => ?_
  refine zrm 0 rfl zS rfl ?_
  refine zrm 1 rfl zS rfl ?_
  refine zr 2 rfl zS (fun _ => ao rfl) ?_
  refine zrf 3 rfl zS rfl ?_
  refine zt 5 rfl zS (fun w1 hw1 => ah (us := [nI (c:Nat), .bool hd]) hw1 (KZ _) (J6 _) rfl) ?_
  refine bO 4 6 elE (enc := Fo) ((c, hd):En) rfl rfl (by kernel_rfl) (by kernel_rfl) (by kernel_rfl) (by kernel_rfl) (fun W hE => JC (hE.cell k18) (isAgg134 _) rfl) (fun W hE k u hu => hE.cell (hx4.cellsAdd k u hu)) rfl rfl rfl (by decide) rfl rfl rfl rfl rfl ?_
  intro sv w5 hsv hE5
  have hX5 := aa (S := fun _ => False) (fun h => h) O1 ((ID w4).drew.trans hE5)
  have h5 := h4.upd hX5 hi hj (fun h => h) (fun h => h)
  have hx5 := hx4.upd hX5 (by decide) (fun h => h)
  have hR5 := hR4.upd hX5
  refine IE 7 (by kernel_rfl) rfl ?_
  refine tn elE h5.win hR5 hsv rfl rfl rfl (by simp[IS]) (by show(s.wait.length + 1) * 16 ≤ _; omega) (by show s.wait.length + 1 ≤ _; omega) hj rfl ?_
  intro wv6 w6 O6 hwin6 hU6 hR6
  have hx6 := hx5.upd hU6 (by decide) (by omega)
  have h6 := h5.blk.upd hU6 hi hij
  refine I2 ?_
  refine zaf (hx6.cellsAdd) fun zS => ?_
  refine zr 8 rfl zS (fun _ => ao rfl) ?_
  refine zrf 9 rfl zS rfl ?_
  refine IE 10 (by kernel_rfl) rfl ?_
  refine aj (j := 18) h6 (h5.at_ 1 rfl) (sizeOf134 _) hwin6.one rfl rfl rfl ?_
  obtain⟨h7, hU7⟩ := h5.store2 hi hj hij hU6 h6 1 wv6 (wv' := wv6) (s' := {s with last := (c, hd), wait := s.wait ++ [(c, hd)]}) rfl hwin6
  have hx7 := hx6.upd hU7 (by decide) (by omega)
  refine I2 ?_
  refine ae (hx7.cellsAdd) ?_
  refine Jg (by kernel_rfl) ?_
  have e:yv t s c = {s with last := (c, hd), wait := s.wait ++ [(c, hd)]} := by unfold yv; rw[hbg, if_pos rfl, ← hhd]
  have hU27 := ((hU04.trans (hX5.mono (fun _ h => h.elim) hz)).trans (hU6.mono (fun _ h => by omega) hz)).trans (hU7.mono (fun _ h => by omega) hz)
  refine aG rfl (⟨O6, wv6, by rw[e]; exact h7, (hU02.mono (fun _ h => by omega) hz).trans hU27, hR6.upd hU7⟩)
theorem lI{g:Nat}{tab:List Nat}{S:Nat->Prop}{B:Nat}{O O':Nat->Nat}{w w':ln}(h:LP g tab w)(hg:g<B)(r:Jo B O w)(u:IP S O w O' w'):LP g tab w':=fun j hj=>by
 have h0:O g=0:=by
  by_cases e:O g=0
  ·exact e
  have:=(r.rng g e).1;omega
 exact gZ (u.blk g (by have:=r.le;omega) (by rw[h0];exact u.z)) (h j hj)
abbrev GW:Nat:=0
def DB(t:TabM)(s:RunS)(x:En):Int:=if x.2=true then -1 else eP t s
def tZ(t:TabM)(s:RunS)(x:En):Bool:=!x.2&&(decide (eP t s<0)||t.br.testBit (eP t s).toNat)
def BS(t:TabM)(s:RunS)(x:En)(r:List En):RunS:={s with row:=if x.2=true then s.row else stL t s.row x.1,wait:=r}
theorem yB(t:TabM)(s:RunS)(ho:OkT t)(hs:OkS t s):eP t s = -1\/∃n,n<64/\eP t s=((n:Nat):Int):=by
 have a1:(2^40:Nat)=1099511627776:=zd;have a2:=rO ho hs;have a0:nth t.lt s.row &&& gp t s.wait<18446744073709551616:=JE Ly zo;unfold eP;generalize nth t.lt s.row &&& gp t s.wait=both at *
 split
 ·exact .inl rfl
 rename_i h0;obtain⟨_,hk⟩:=LO 64 both h0 a0;exact .inr ⟨_,hk,rfl⟩
theorem BR{t:TabM}{s:RunS}{x:En}{r:List En}(ho:OkT t)(hs:OkS t s)(hw:s.wait=x::r):OkS t (BS t s x r):=by
 have hx:=hs.wait x (by simp[hw]);refine⟨?_,fun y hy=>hs.wait y (by rw[hw];simp[show y∈r from hy]),hs.last,?_⟩
 ·show(if x.2=true then s.row else stL t s.row x.1)<_
  split
  ·exact hs.row
  exact(ho.lN hs.row zo).2
 have:=hs.few;rw[hw]at this;simp only[IL]at this;show r.length<=_;omega
theorem rT(B:Nat)(O:Nat → Nat)(w:ln)(i j rb:Nat)(t:TabM)(gv:ix)(lc rc:List ix)(wv:ix)(s:RunS)(x:En)(r:List En)(hxr:s.wait = x :: r)(h:RunO O w i j rb t gv lc rc wv s)(hi:i ≠ 0)(hj:j ≠ 0)(hij:i ≠ j)(hi1:i < 1000)(hj1:j < 1000)(ho:OkT t)(hs:OkS t s)(hR:Jo B O w)(hT:lW w)(hg:GW < B):
  Kx J3 71 [nP rb] w fun v w' => v = .tuple #[nI (DB t s x), .bool (tZ t s x)] ∧ ∃O' wv', RunO O' w' i j rb t gv lc rc wv' (BS t s x r) ∧ IP (fun q => q = i ∨ q = j ∨ q = 1000) O w O' w' ∧ Jo B O' w' := by
 have hp40:(2^40:Nat) = 1099511627776 := by decide
 have hz:¬(0 = i ∨ 0 = j ∨ 0 = 1000) := by omega
 have hwl := hs.few
 have hwlen:s.wait.length = r.length + 1 := by rw[hxr]; rfl
 have k18 := h.k18
 have hws := h.win.sl
 obtain⟨c, hd, hcd⟩:∃c hd, x = (c, hd) := ⟨_, _, rfl⟩
 subst hcd
 have hc36:c < 36 := hs.wait (c, hd) (by simp[hxr])
 have hwin := yB t s ho hs
 refine I8 func71 ntmps71 rfl rfl ?_
 refine I7 ?_
 refine I0 ?_
 refine zv (I6 rfl) ?_
 refine zv (I6 rfl) ?_
 refine I2 ?_
 refine ai ?_
 refine I7 ?_
 refine I0 ?_
 refine zv (I1 rfl) ?_
 refine zv (ao rfl) ?_
 refine zv (RV.fa rfl) ?_
 refine zv (RV.ld k18 rfl) ?_
 refine zv (az hws.sh L4 (J6 _) rfl rfl 0 rfl (by omega)) ?_
 refine zv (ah (us := [nI (c:Nat), .bool hd]) (fun k u hu => hws.cell (i := 0) (by omega) (by rw[hxr, ax]; exact hu)) (KZ _) (J6 _) rfl) ?_
 refine ar hR 1000 (by omega) (KE _) rfl ?_
 intro xb w1 O1 hxb1 hU1 hR1 hE1
 refine zsa (us := #[nI (c:Nat), .bool hd]) hxb1 (J6 _) ?_
 have hxb2 := hxb1.setRow (us := #[nI (c:Nat), .bool hd])
 have hU2:IP (fun q => q = 1000) O1 w1 O1 (w1.setRow xb #[nI (c:Nat), .bool hd]) := I9 (by decide) hxb1.tag rfl
 generalize w1.setRow xb #[nI (c:Nat), .bool hd] = w2 at *
 have hU02 := hU1.trans hU2
 have hR2 := hR1.upd hU2
 have h2 := h.upd hU02 hi hj (by omega) (by omega)
 have hT2:lW w2 := lI hT hg hR hU02
 have x1:w2.cell? (nA xb 1) = some (.bool hd) := hxb2.cell 1 rfl
 refine I2 ?_
 refine ai ?_
 refine I7 ?_
 refine I0 ?_
 refine zv (I6 rfl) ?_
 refine I2 ?_
 refine ai ?_
 refine I7 ?_
 refine I7 ?_
 refine I0 ?_
 refine zv (RV.fa rfl) ?_
 refine zv (RV.ld x1 rfl) ?_
 refine zv (LQ rfl) ?_
 refine I2 ?_
 refine ai ?_
 refine kM (fun z:(Nat → Nat)×World×Int => [(0, nP rb), (4, nP xb), (5, nI z.2.2)]) (fun z:(Nat → Nat)×World×Int => z.2.1) (fun z:(Nat → Nat)×World×Int => RunO z.1 z.2.1 i j rb t gv lc rc wv {s with row := if hd = true then s.row else stL t s.row c} ∧ Kv z.1 z.2.1 1000 xb #[nI (c:Nat), .bool hd] 136 ∧ IP (fun q => q = i) O1 w2 z.1 z.2.1 ∧ Jo B z.1 z.2.1 ∧ z.2.2 = DB t s (c, hd)) ?_ ?_
 ·intro hN
  by_cases hhd:hd = true
  ·skip
   refine aR rfl ((by rw[hhd]; rfl)) ?_
   refine Kg ?_
   exact eA (hN ((O1, w2, -1)) (⟨by rw[if_pos hhd]; exact h2, hxb2, JS (fun e => hi e.symm) _ _, hR2, by show _ = if hd = true then _ else _; rw[if_pos hhd]⟩)) ⟨rfl, rfl, rfl, trivial⟩ rfl
  ·skip
   refine aO rfl ((by rw[show hd = false from by simpa using hhd]; rfl)) ?_
   refine I7 ?_
   refine I0 ?_
   refine zv (I1 rfl) ?_
   refine zc call101 (pQ O1 w2 i j rb t gv lc rc wv s h2 hi hj ho hs hT2) ?_
   rintro _ w3 ⟨rfl, hE3⟩
   have hX3 := aa (S := fun _ => False) (fun h => h) O1 hE3
   have h3 := h2.upd hX3 hi hj (fun h => h) (fun h => h)
   have hxb3 := hxb2.upd hX3 (by decide) (fun h => h)
   have hR3 := hR2.upd hX3
   refine zv (I6 rfl) ?_
   refine I2 ?_
   refine ai ?_
   have hB := h3.tab
   obtain⟨hg1, hg2⟩ := ho.gN (c := c) (by omega)
   obtain⟨hr1, hr2⟩ := ho.lN hs.row (c := c) (by omega)
   have hgl := ho.gl
   have d4:w3.drew.cell? ((nA rb 0).add 4) = some gv := hB.c4
   have dcl:∀(j:Nat) (u:ix), lc[j]? = some u → w3.drew.cell? (((nA rb 0).add 5).add j) = some u := hB.cl
   have dg:w3.drew.cell? (adr gv 1 c) = some (nI ((grT t c:Nat):Int)) := by have := hB.groups.cell (i := c) (j := 0) (by omega) rfl; rw[ay, hg1]at this; exact this
   have d17:w3.drew.cell? (nA rb 17) = some (nI (s.row:Int)) := h3.k17
   have dx:w3.drew.cell? (nA xb 0) = some (nI (c:Int)) := hxb3.cell 0 rfl
   refine aL (fun W => W.cell? ((nA rb 0).add 4) = some gv ∧ W.cell? (adr gv 1 c) = some (nI ((grT t c:Nat):Int)) ∧ (∀(j:Nat) (u:ix), lc[j]? = some u → W.cell? (((nA rb 0).add 5).add j) = some u) ∧ W.cell? (nA xb 0) = some (nI (c:Int))) 23 rfl (by kernel_rfl) ?_
   refine zin ⟨d4, dg, dcl, dx⟩ fun zS => ?_
   refine zrm 0 rfl zS rfl ?_
   refine zrm 1 rfl zS rfl ?_
   refine zr 2 rfl zS (fun _ => ao rfl) ?_
   refine zrf 3 rfl zS rfl ?_
   refine zrf 4 rfl zS rfl ?_
   refine zt 5 rfl zS (fun w1 hw1 => ah (us := lc) hw1.2.2.1 (Kb _) (by rw[h.left.one.1]; exact J5 _) rfl) ?_
   refine zrm 6 rfl zS rfl ?_
   refine zr 7 rfl zS (fun _ => ao rfl) ?_
   refine zrf 8 rfl zS rfl ?_
   refine zrm 10 rfl zS rfl ?_
   refine zr 11 rfl zS (fun _ => ao rfl) ?_
   refine zrf 12 rfl zS rfl ?_
   refine zrf 13 rfl zS rfl ?_
   refine zt 14 rfl zS (fun w1 hw1 => RV.ld hw1.1 rfl) ?_
   refine zrf 15 rfl zS rfl ?_
   refine zt 16 rfl zS (fun w1 hw1 => RV.ld hw1.2.2.2 rfl) ?_
   refine zr 17 rfl zS (fun _ => az hB.groups.sh JI (Km _) rfl rfl c rfl (by omega)) ?_
   refine zt 18 rfl zS (fun w1 hw1 => RV.ld hw1.2.1 rfl) ?_
   refine IE 9 (by kernel_rfl) rfl ?_
   refine zv (RV.ld d17 rfl) ?_
   refine I2 ?_
   refine ae (⟨d4, dg, dcl, dx⟩) ?_
   refine IE 19 (by kernel_rfl) rfl ?_
   refine zc Md (jM lc t.left t.lt s.row (grT t c) w3.drew (hB.left.ext (ID w3).drew) ho.okl hs.row hg2) ?_
   rintro _ w5 ⟨rfl, hE5⟩
   rw[hr1]
   refine I2 ?_
   refine ae (⟨hE5.cell d4, hE5.cell dg, fun j u hu => hE5.cell (dcl j u hu), hE5.cell dx⟩) ?_
   have hX5 := aa (S := fun _ => False) (fun h => h) O1 ((ID w3).drew.trans hE5)
   have h5 := h3.upd hX5 hi hj (fun h => h) (fun h => h)
   have hxb5 := hxb3.upd hX5 (by decide) (fun h => h)
   have hR5 := hR3.upd hX5
   refine zin (⟨hE5.cell d4, hE5.cell dg, fun j u hu => hE5.cell (dcl j u hu), hE5.cell dx⟩) fun zS => ?_
   refine zr 20 rfl zS (fun _ => ao rfl) ?_
   refine zrf 21 rfl zS rfl ?_
   refine IE 22 (by kernel_rfl) rfl ?_
   refine aj (j := 17) h5.blk (h5.at_ 0 rfl) (Km _) rfl rfl rfl rfl ?_
   obtain⟨h6, hU6⟩ := h5.store hi hj hij 0 (nI ((stL t s.row c:Nat):Int)) (wv' := wv) (s' := {s with row := stL t s.row c}) rfl h5.win
   have hB6 := h6.tab
   have hR6 := hR5.upd hU6
   have hxb6 := hxb5.upd hU6 (by decide) (by omega)
   have hU26 := ((hX3.trans hX5).mono (S' := fun q => q = i) (fun _ h => h.elim) (by omega)).trans hU6
   have q1:(w5.setCell ⟨rb, 17 + 0, none⟩ (nI ((stL t s.row c:Nat):Int))).cell? (adr gv 1 c) = some (nI ((grT t c:Nat):Int)) := by have := hB6.groups.cell (i := c) (j := 0) (by omega) rfl; rw[ay, hg1]at this; exact this
   refine I2 ?_
   refine ae (⟨hB6.c4, q1, hB6.cl, hxb6.cell 0 rfl⟩) ?_
   refine Jg (by kernel_rfl) ?_
   exact eA (hN ((O1, _, eP t s)) (⟨by rw[if_neg hhd]; exact h6, hxb6, hU26, hR6, by show _ = if hd = true then _ else _; rw[if_neg hhd]⟩)) ⟨rfl, rfl, rfl, trivial⟩ rfl
 rintro⟨O3, w3, k⟩ ⟨h3, hxb3, hU3, hR3, hk⟩
 dsimp only at h3 hxb3 hU3 hR3 hk ⊢
 refine ai ?_
 have hws3 := h3.win.sl
 have d18 := h3.k18
 refine I7 ?_
 refine I0 ?_
 refine zv (I1 rfl) ?_
 refine zv (I1 rfl) ?_
 refine zv (ao rfl) ?_
 refine zv (RV.fa rfl) ?_
 refine zv (RV.ld d18 rfl) ?_
 refine zv (iS hws3 L4 (J6 _) rfl rfl 1 rfl (by show 1 ≤ s.wait.length; omega)) ?_
 refine zv (ao rfl) ?_
 refine zv (RV.fa rfl) ?_
 have hw4 := h3.win
 have hwt:WinO Fo 136 2 O3 w3 j (bL wv 2 1 s.wait.length) r := by
  rw[hwlen]
  have:WinO Fo 136 2 O3 w3 j wv ((c, hd) :: r) := by rw[← hxr]; exact hw4
  exact this.tail (by decide)
 refine aj (j := 18) h3.blk (h3.at_ 1 rfl) (sizeOf134 _) hwt.one rfl rfl rfl ?_
 obtain⟨h4, hU4⟩ := h3.store hi hj hij 1 (bL wv 2 1 s.wait.length) (wv' := bL wv 2 1 s.wait.length) (s' := BS t s (c, hd) r) rfl hwt
 have hxb4 := hxb3.upd hU4 (by decide) (by omega)
 have hR4 := hR3.upd hU4
 generalize w3.setCell ⟨rb, 17 + 1, none⟩ (bL wv 2 1 s.wait.length) = w4 at *
 have hU04 := (hU02.mono (S' := fun q => q = i ∨ q = j ∨ q = 1000) (fun _ h => by omega) hz).trans ((hU3.trans hU4).mono (fun _ h => by omega) hz)
 have x41:w4.cell? (nA xb 1) = some (.bool hd) := hxb4.cell 1 rfl
 refine I2 ?_
 refine ai ?_
 refine I7 ?_
 refine I0 ?_
 refine zv (I1 rfl) ?_
 refine zv (RV.fa rfl) ?_
 refine zv (RV.ld x41 rfl) ?_
 refine zv (LQ rfl) ?_
 refine zv (I1 rfl) ?_
 cases hhd:hd with
 |true =>
  refine au (d := 51) rfl (b' := false) (rfl) ?_
  refine IW rfl rfl rfl ?_
  refine IW rfl rfl rfl ?_
  refine IW rfl rfl rfl ?_
  refine cX rfl rfl ?_
  refine cX rfl rfl ?_
  refine cX rfl rfl ?_
  refine cX rfl rfl ?_
  refine cX rfl rfl ?_
  refine cX rfl rfl ?_
  refine cX rfl rfl ?_
  refine IW rfl rfl rfl ?_
  refine zv (bq rfl rfl) ?_
  refine zv (I6 rfl) ?_
  refine zv (I6 rfl) ?_
  refine I2 ?_
  refine ai ?_
  refine KA ?_
  refine bB rfl rfl rfl (⟨by rw[hk, hhd]; rfl, O3, _, by rw[← hhd]; exact h4, hU04, hR4⟩)
 |false =>
  have hbr := ho.br
  subst hhd
  replace hk:k = eP t s := hk
  have hPB:tZ t s (c, false) = (decide (eP t s < 0) || t.br.testBit (eP t s).toNat) := rfl
  have hPK:DB t s (c, false) = eP t s := rfl
  rw[hPB, hPK, ← hk]
  rw[← hk]at hwin
  refine au (d := 51) rfl (b' := true) (rfl) ?_
  refine cz rfl ?_
  refine zv (I1 rfl) ?_
  refine cz rfl ?_
  refine zv (Lo rfl rfl) ?_
  refine cz rfl ?_
  refine zv (I1 rfl) ?_
  rcases hwin with hk1 | ⟨n, hn, hk1⟩
  ·skip
   refine au (d := 54) rfl (b' := true) ((by rw[hk1]; rfl)) ?_
   refine IW rfl rfl rfl ?_
   refine IW rfl rfl rfl ?_
   refine IW rfl rfl rfl ?_
   refine IW rfl rfl rfl ?_
   refine IW rfl rfl rfl ?_
   refine IW rfl rfl rfl ?_
   refine IW rfl rfl rfl ?_
   refine cz rfl ?_
   refine zv (bp rfl rfl) ?_
   refine zv (bp rfl rfl) ?_
   refine zv (I6 rfl) ?_
   refine zv (I6 rfl) ?_
   refine I2 ?_
   refine ai ?_
   refine KA ?_
   refine bB rfl rfl rfl (⟨by rw[hk1]; rfl, O3, _, h4, hU04, hR4⟩)
  ·have hd0:decide (k < 0) = false := decide_eq_false (by omega)
   rw[hd0, hk1]
   refine au (d := 54) rfl (b' := false) (rfl) ?_
   have b2:w4.cell? ((nA rb 0).add 2) = some (.int .u64 (t.br:Int)) := h4.tab.c2
   refine cz rfl ?_
   refine zv (I1 rfl) ?_
   refine cz rfl ?_
   refine zv (ao rfl) ?_
   refine cz rfl ?_
   refine zv (RV.fa rfl) ?_
   refine cz rfl ?_
   refine zv (RV.fa rfl) ?_
   refine cz rfl ?_
   refine zv (RV.ld b2 rfl) ?_
   refine cz rfl ?_
   refine zv (I1 rfl) ?_
   refine cz rfl ?_
   refine zc Mt (qB t.br n _ (by omega) hn) ?_
   rintro _ w5 ⟨rfl, rfl⟩
   refine cz rfl ?_
   refine zv (bq rfl rfl) ?_
   refine zv (bp rfl rfl) ?_
   refine zv (I6 rfl) ?_
   refine zv (I6 rfl) ?_
   refine I2 ?_
   refine ai ?_
   refine KA ?_
   refine bB rfl rfl rfl (⟨rfl, O3, _, h4, hU04, hR4⟩)
abbrev AS(b:Bool):List ix:=[.bool b]
theorem Gs:LC J3 53 4 1 1:=⟨underlying53,by kernel_rfl,zd⟩
abbrev FP(a0:Nat)(l:List En):RunS:=⟨a0,l,true,(0,false),true⟩
def GB(t:TabM)(a0:Nat)(x:En):Nat:=if x.2=true then a0 else stL t a0 x.1
def gY(t:TabM):List En->Nat->List Bool
 |[],_=>[]
 |x::r,row=>tZ t (FP row (x::r)) x::gY t r (GB t row x)
theorem BT(t:TabM)(s:RunS)(x:En):tZ t s x=tZ t (FP s.row s.wait) x:=rfl
theorem pD(t:TabM):∀(l:List En) (row:Nat),(gY t l row).length=l.length
 |[],_=>rfl
 |x::r,row=>by rw[gY,IL,pD t r,IL]
theorem qJ(B:Nat)(O:Nat->Nat)(w:ln)(i j m rb:Nat)(t:TabM)(gv:ix)(lc rc:List ix)(wv:ix)(s:RunS)(h:RunO O w i j rb t gv lc rc wv s)(hi:i≠0)(hj:j≠0)(b3:i≠j)(c9:i<1000)(c7:j<1000)(hm:m≠0)(d5:m<1000)(c8:i≠m)(c6:j≠m) 
  (ho:OkT t) (hs:OkS t s) (d0:s.closed=false) (hR:Jo B O w) (hT:lW w) (hg:GW<B) :
  Kx J3 43 [nP rb] w fun v w'=>∃O' wv' s',RunO O' w' i j rb t gv lc rc wv' s'/\OkS t s'/\s'.wait=[]/\s'.closed=true/\Kc AS 4 1 O' w' m v (gY t s.wait s.row)/\IP (fun q=>q=i\/q=j\/q=m\/q=1000) O w O' w'/\Jo B O' w':=by
 have hz:¬(0=i\/0=j\/0=m\/0=1000):=zo;have d4:=hs.few;have k22:=h.k22;rw[d0]at k22;obtain⟨R,b7⟩:∃R,R=gY t s.wait s.row:=⟨_,rfl⟩
 rw[<-b7];refine I8 func43 ntmps43 rfl rfl ?_;refine zh ?_;refine zvH (fy (q:=some ⟨rb,0,none⟩) Ml rfl rfl) ?_;refine au (d:=8) rfl (b':=false) (rfl) ?_;refine zh ?_;refine zFH rfl rfl ?_;refine aj (j:=22) h.blk (h.at_ 5 rfl) (Jp _) rfl rfl rfl rfl ?_;obtain⟨h1,b6⟩:=h.store hi hj b3 5 (.bool true) (wv':=wv) (s':={s with closed:=true}) rfl h.win;have d3:=hR.upd b6;generalize w.setCell ⟨rb,17+5,none⟩ (.bool true)=w1 at *;refine zh ?_;refine zlp (fun z:(Nat->Nat)×World×ix×RunS×ix×List Bool=>[(0,nP rb),(3,z.2.2.2.2.1)]) (fun z=>z.2.1) (fun z=>RunO z.1 z.2.1 i j rb t gv lc rc z.2.2.1 z.2.2.2.1/\OkS t z.2.2.2.1/\z.2.2.2.1.closed=true/\Kc AS 4 1 z.1 z.2.1 m z.2.2.2.2.1 z.2.2.2.2.2/\IP (fun q=>q=i\/q=j\/q=m\/q=1000) O w z.1 z.2.1/\Jo B z.1 z.2.1/\z.2.2.2.2.2++gY t z.2.2.2.1.wait z.2.2.2.1.row=R/\z.2.2.2.2.2.length+z.2.2.2.1.wait.length<=1000000) (fun z=>z.2.2.2.1.wait.length) (O,w1,wv,{s with closed:=true},nS,[]) (⟨h1,⟨hs.row,hs.wait,hs.last,hs.few⟩,rfl,KK _ _ _ _ _ _,b6.mono (fun _ h=>zo) hz,d3,by rw[b7];rfl,by show 0+s.wait.length<=_;omega⟩) ?_;rintro⟨O2,w2,b0,s2,ov,l⟩ ⟨h2,a2,a9,a6,a3,a',a1,a8⟩;dsimp only at h2 a2 a9 a6 a3 a' a1 a8 ⊢;have c5:=h2.win.sl;have d6:=h2.k18;refine zh ?_;refine zC ?_ ?_
 ·intro a7;replace a7:0<s2.wait.length:=dT a7;obtain⟨x,r,a0⟩:=List.exists_cons_of_ne_nil (List.length_pos_iff.1 a7);have b1:s2.wait.length=r.length+1:=by rw[a0];rfl
  rw[a0,gY]at a1;refine zh ?_;refine zc call71 (rT B O2 w2 i j rb t gv lc rc b0 s2 x r a0 h2 hi hj b3 c9 c7 ho a2 a' (lI hT hg hR a3) hg) ?_;rintro _ w3 ⟨rfl,O3,b8,h3,b5,d2⟩;have a5:=a6.upd b5 hm zo;refine zh ?_;refine M5 Gs a5 d2 (tZ t s2 x) (fun _=>rfl) rfl rfl rfl (by simp[IS]) zo zo zo zd rfl rfl ?_;intro b9 w4 O4 a4 b4 d1;have h4:=h3.upd b4 hi hj c8 c6;refine zh ?_;refine zx (O4,w4,b8,BS t s2 x r,b9,l++[tZ t s2 x]) (⟨h4,BR ho a2 a0,a9,a4,(a3.trans (b5.mono (fun _ h=>zo) hz)).trans (b4.mono (fun _ h=>zo) hz),d1,by rw[I5,<-a1,BT,a0];rfl,by rw[I4];show l.length+1+r.length<=_;omega⟩) (by show r.length<_;omega)
 intro c';have b2:s2.wait=[]:=J1 (by have:=of_decide_eq_false c';omega);rw[b2,gY,Je]at a1;subst a1;refine zh ?_;refine af rfl rfl (⟨O2,b0,s2,h2,a2,b2,a9,a6,a3,a'⟩)
end Go.Proofs.YtpfpmhhigheccaaGreatDoor
section
namespace Go.VL
theorem yA:∀(l:List ix) (k:Nat) (cells:Array ix),k+l.length<=cells.size->(l.zipIdx k).foldl (fun(cs:Array ix) (q:ix×Nat)=>cs.setIfInBounds (0+q.2) q.1) cells=(cells.toList.take k++l++cells.toList.drop (k+l.length)).toArray
 |[],k,cells,_=>by simp
 |c::l,k,cells,h=>by
  simp only[IL]at h;rw[List.zipIdx_cons,KD,yA l (k+1) _ (by simp;omega)];congr 1;simp only[JZ,KJ,IL];rw[List.drop_set_of_lt zo,Kp (by simp;omega),L7 (IV _)];simp[Kh,M4 1]
theorem AN(pl:Array (Nat×Nat))(us cells:Array ix)(hp:pl[0]? = some (0,us.size))(hs:us.size<=cells.size):KH (pl[·]?) cells [(0,.agg us)]=some (us.toList++cells.toList.drop us.size).toArray:=by
 have hc:(Value.agg us).cells=us:=rfl;have a0:¬(us.size≠us.size\/0+us.size>cells.size):=zo;simp only[KH,hp,hc];rw[if_neg (by simp;omega)];have:=yA us.toList 0 cells (by simpa using hs);rw[<-Array.foldl_toList,Array.toList_zipIdx];simpa using this
end Go.VL
namespace Go.Proofs.YtpfpmhhigheccaaGreatDoor
open Go.VL Go.Proofs
set_option maxRecDepth 10000
theorem GL:cB J3 138 #[(0,17),(17,1),(18,1),(19,1),(20,2),(22,1)]:=⟨_,underlying138,fun w=>by kernel_rfl⟩
def tw(t:TabM):RunS:=⟨stL t 0 36,[],false,(0,false),false⟩
theorem Du{t:TabM}(ho:OkT t):OkS t (tw t):=⟨(ho.lN ho.lp zd).2,fun x hx=>(by cases hx),(by show 0<36;decide),(by show 0<=1000000;decide)⟩
theorem tN(B:Nat)(O:Nat->Nat)(w:ln)(i j:Nat)(t:TabM)(gv:ix)(lc rc:List ix)(d5:K2 w gv t.groups)(c9:PartV w lc t.left t.lt)(c8:PartV w rc t.right t.rt)(d7:FreeL O w (gv::(lc++rc)))(hi:i≠0)(hj:j≠0)(d3:i≠j)(e2:i<1000)(ho:OkT t)(d1:bu t=true)(hR:Jo B O w):
  Kx J3 41 [.agg (bE t.ig t.kp t.br t.rules gv lc rc).toArray] w fun v w'=>∃O' rb,v=nP rb/\RunO O' w' i j rb t gv lc rc (nS) (tw t)/\IP (fun q=>q=i\/q=1000) O w O' w'/\Jo B O' w':=by
 have hz:¬(0=i\/0=1000):=zo;obtain⟨ll,lo⟩:=c9.one;obtain⟨rl,ro⟩:=c8.one;have a0:(bE t.ig t.kp t.br t.rules gv lc rc).length=17:=by simp[ll,rl]
 refine I8 func41 ntmps41 rfl rfl ?_;refine zh ?_
 refine aF hR 1000 zo rfl rfl ?_;intro db w1 O1 a8 d0 e0 c5;have b5:=d7.upd d0;have a5:=d5.ext c5;have a4:=c9.ext c5;have a3:=c8.ext c5;refine zh ?_
 refine zv (ah (us:=bE t.ig t.kp t.br t.rules gv lc rc) a8.cellsAdd (Ko _) (by rw[a0];exact J8 _) rfl) ?_;refine zc call9 (gA t _ w1 ⟨gv,lc,rc,rfl,a5,a4,a3⟩) ?_
 rintro _ w2 ⟨rfl,b1⟩;have b0:=aa (S:=fun _=>False) (fun h=>h) O1 b1;have a7:=a8.upd b0 zd (fun h=>h);have b4:=b5.upd b0;have d':=e0.upd b0;rw[d1];refine zh ?_;refine zFH rfl rfl ?_;refine zv (ah (us:=bE t.ig t.kp t.br t.rules gv lc rc) a7.cellsAdd (Ko _) (by rw[a0];exact J8 _) rfl) ?_;refine zv (JF (cells:=(od t gv lc rc (nS) ⟨0,[],false,(0,false),false⟩).toArray) GL (zeroValue138 _) rfl (by rw[AN _ _ _ (by rw[JJ,a0];rfl) (by rw[JJ,a0];decide),JJ,a0];rfl)) ?_;refine aF d' i zo rfl rfl ?_;intro rb w3 O3 b2 b9 d9 b';have b3:=b4.upd b9;have h3:RunO O3 w3 i j rb t gv lc rc (nS) ⟨0,[],false,(0,false),false⟩:=⟨b2,WinO.nil _ _ _ _ _ _,a5.ext (b1.trans b'),a4.ext (b1.trans b'),a3.ext (b1.trans b'),b3⟩
 have a6:=a7.upd b9 zd zo;have a9:=lH (t:=t) a6 h3.groups h3.left h3.right;refine zh ?_;obtain⟨c',d6⟩:=ho.gN (c:=36) zd;obtain⟨d2,e1⟩:=ho.lN ho.lp (c:=36) zd;have e3:=ho.gl;have d4:w3.drew.cell? (nA db 4)=some gv:=a9.c4;have c7:∀(j:Nat) (u:ix),lc[j]? = some u->w3.drew.cell? ((nA db 5).add j)=some u:=a9.cl;have dg:w3.drew.cell? (adr gv 1 36)=some (nI ((grT t 36:Nat):Int)):=by have:=a9.groups.cell (i:=36) (j:=0) zo rfl;rw[ay,c']at this;exact this
 refine aL (fun W=>W.cell? (nA db 4)=some gv/\W.cell? (adr gv 1 36)=some (nI ((grT t 36:Nat):Int))/\(∀(j:Nat) (u:ix),lc[j]? = some u->W.cell? ((nA db 5).add j)=some u)) 11 rfl zk ?_;refine zin ⟨d4,dg,c7⟩ fun zS=>?_
 refine zrm 0 rfl zS rfl ?_;refine zrf 1 rfl zS rfl ?_
 refine zt 2 rfl zS (fun w1 a2=>ah (us:=lc) a2.2.2 (Kb _) (by rw[ll];exact J5 _) rfl) ?_;refine zrf 3 rfl zS rfl ?_
 refine zt 4 rfl zS (fun w1 a2=>RV.ld a2.1 rfl) ?_;refine zr 5 rfl zS (fun _=>az a9.groups.sh JI (Km _) rfl rfl 36 rfl zo) ?_
 refine zt 6 rfl zS (fun w1 a2=>RV.ld a2.2.1 rfl) ?_;refine IE 7 zk rfl ?_
 refine zc Md (jM lc t.left t.lt 0 (grT t 36) w3.drew (a9.left.ext (ID w3).drew) ho.okl ho.lp d6) ?_;rintro _ w5 ⟨rfl,a1⟩;rw[d2];refine zh ?_
 refine ae (⟨a1.cell d4,a1.cell dg,fun j u hu=>a1.cell (c7 j u hu)⟩) ?_;have a':=aa (S:=fun _=>False) (fun h=>h) O3 ((ID w3).drew.trans a1);have h5:=h3.upd a' hi hj (fun h=>h) (fun h=>h);have b7:=a6.upd a' zd (fun h=>h);have d8:=d9.upd a';refine zin (⟨a1.cell d4,a1.cell dg,fun j u hu=>a1.cell (c7 j u hu)⟩) fun zS=>?_
 refine zr 8 rfl zS (fun _=>ao rfl) ?_;refine zrf 9 rfl zS rfl ?_
 refine IE 10 zk rfl ?_;refine aj (j:=17) h5.blk (h5.at_ 0 rfl) (Km _) rfl rfl rfl rfl ?_
 obtain⟨h6,b8⟩:=h5.store hi hj d3 0 (nI ((stL t 0 36:Nat):Int)) (wv':=nS) (s':=tw t) rfl h5.win;have b6:=b7.upd b8 zd zo;have c6:=lH (t:=t) b6 h6.groups h6.left h6.right;have q1:(w5.setCell ⟨rb,17+0,none⟩ (nI ((stL t 0 36:Nat):Int))).cell? (adr gv 1 36)=some (nI ((grT t 36:Nat):Int)):=by have:=c6.groups.cell (i:=36) (j:=0) zo rfl;rw[ay,c']at this;exact this
 refine zh ?_;refine ae (⟨c6.c4,q1,c6.cl⟩) ?_
 refine Jg zk ?_;refine zh ?_
 refine af rfl rfl (⟨O3,rb,rfl,h6,(((d0.mono (fun _ h=>zo) hz).trans (b0.mono (fun _ h=>h.elim) hz)).trans (b9.mono (fun _ h=>zo) hz)).trans ((a'.mono (fun _ h=>h.elim) hz).trans (b8.mono (fun _ h=>zo) hz)),d8.upd b8⟩)
end Go.Proofs.YtpfpmhhigheccaaGreatDoor
end
section
namespace Go.VL
open Go.Proofs
section
variable{P:Ke}{N:Nat}{ops:Array Lw}{Q:MB→Act→ln→Prop}{rest:List Lw}{st:St}{w:ln}
variable{t:IU}{p:String}{e:Array Mo}{d:Nat}{x:JW}
theorem Bg{T E:IU}{sz a0:Nat}(he:LC P T E sz a0){α:Type}{enc:α->List ix}(u:α){B:Nat}{O:Nat->Nat}(r:Jo B O w)(i:Nat)(a6:i≠0){xv:ix}(hx:ev st x=some xv)(a2:xv.cells.toList=enc u)(a3:(enc u).length=sz)(hs:sz<=16777216)(hd:Ku d N=true) 
  (h:∀v w' O',Kc enc E sz O' w' i v [u]->IP (fun k=>k=i) O w O' w'->Jo B O' w'->WL P N ops Q rest ((d,v)::st) w'):WL P N ops Q (⟨some d,.buildSlice T 1 #[(0,x)],t,p,e,none⟩::rest) st w:=by
 obtain⟨a4,z,hi,hz,a1,a9,a8⟩:=he.parts;have a7:xv.cells.size=sz:=by rw[<-a3,<-a2];simp
 have a5:=he.pos;have u1:=KX (S:=fun k=>k=i) (fun e=>a6 e.symm) r (.cells xv.cells E) i;refine KR (v:=.slice (some ⟨w.heap.size,0,none⟩) 1 1) (w':=w.alloc (.cells xv.cells E)) hd (fun a ha=>?_) (h _ _ (jI O w.heap.size i) ⟨⟨?_,fun g hg=>?_⟩,fun c hc=>by rw[I3.1 hc];exact a3⟩ u1 (r.upd u1))
 ·have:=run_buildSlice (P:=P) w T E 1 #[(0,xv)] xv.cells a4 z he.ht hi hz (by rw[a1];omega) (by rw[a1];omega) (by
   rw[a1]
   exact iK a7 (by simp))
  simp only[execOp,J7,J9,JX,ha.ev hx,Jl,this,IY];rfl
 ·have:=L9 (base:=0) (size:=sz) (e:=E) w xv.cells 1 (IK _) (by simp[maxLen]) zo;simpa[a2]using this
 simp[JA]at hg;subst hg;exact cT _ _ _
end
end Go.VL
namespace Go.Proofs.YtpfpmhhigheccaaGreatDoor
open Go.VL Go.Proofs
set_option maxRecDepth 10000
def cM(t:TabM)(s:RunS)(a0:List Int):RunS:=a0.foldl (fun s id=>yv t s (jc id)) s
theorem rR{t:TabM}{s:RunS}{a0:List Int}{k:Nat}(h:k<a0.length):cM t s (a0.take (k+1))=yv t (cM t s (a0.take k)) (jc (nth a0 k)):=by
 unfold cM;rw[aI h,JK];rfl
theorem zF(t:TabM)(s:RunS)(c:Nat):(yv t s c).wait.length<=s.wait.length+1/\(yv t s c).closed=s.closed:=by
 unfold yv
 split<;>simp
def uK(t:TabM)(a0:List Int):List Bool:=true::gY t (cM t (tw t) a0).wait (cM t (tw t) a0).row++if 0<a0.length then [true]else []
theorem PartV.free0{w:ln}{cs:List ix}{p:La}{tl:List Nat}(h:PartV w cs p tl):FreeL (fun _=>0) w cs:=fun v hv=>by
 obtain⟨uv,bv,kv,nv,tv,rfl,h1,h2,h3,h4,h5⟩:=h;simp only[IH,II,or_false]at hv
 rcases hv with rfl|rfl|rfl|rfl|rfl|rfl
 ·exact fun a n c e=>by cases e
 ·exact h1.free0 (fun x=>by simp)
 ·exact h2.free0 (fun x=>by simp)
 ·exact h3.free0 (fun x=>by simp)
 ·exact h4.free0 (fun x=>by simp)
 exact h5.free0 (fun x=>by simp)
theorem A3{w:ln}(h:lW w):GW<w.heap.size:=by
 have:=h 0 zd;refine Mp fun hn=>?_
 simp[World.cell?,Array.getElem?_eq_none (show w.heap.size<=0 from Nat.le_of_not_lt hn)]at this
theorem yQ{w:ln}{t:TabM}{gv:ix}{lc rc:List ix}(a2:K2 w gv t.groups)(a1:PartV w lc t.left t.lt)(a0:PartV w rc t.right t.rt):FreeL (fun _=>0) w (gv::(lc++rc)):=fun v hv=>by
 rcases IH.1 hv with rfl|hv
 ·exact a2.free0 (fun x=>by simp)
 rcases Jc.1 hv with hv|hv
 ·exact a1.free0 v hv
 exact a0.free0 v hv
theorem jd(w:ln)(t:TabM)(gv:ix)(lc rc:List ix)(d3:K2 w gv t.groups)(b5:PartV w lc t.left t.lt)(b0:PartV w rc t.right t.rt)(ho:OkT t)(d6:bu t=true)(hT:lW w)(a0:List Int)(dv:ix)(hd:K2 w dv a0)(hn:a0.length<=100000):
  Kx J3 17 [.agg (bE t.ig t.kp t.br t.rules gv lc rc).toArray,dv] w fun v w'=>Sl AS 1 w' v (uK t a0)/\KU w w':=by
 have hz:¬(0=1\/0=2\/0=3\/0=4\/0=1000):=zo;obtain⟨ll,lo⟩:=b5.one;obtain⟨rl,ro⟩:=b0.one;have b4:(bE t.ig t.kp t.br t.rules gv lc rc).length=17:=by simp[ll,rl]
 have hg:=A3 hT;have b6:KI (fun _=>0) w dv:=hd.free0 (fun x=>by simp);refine I8 func17 ntmps17 rfl rfl ?_;refine zh ?_;refine aF (aw w) 1000 zo rfl rfl ?_;intro db w1 O1 b7 d5 e6 c7;refine zh ?_;refine zv (ah (us:=bE t.ig t.kp t.br t.rules gv lc rc) b7.cellsAdd (Ko _) (by rw[b4];exact J8 _) rfl) ?_;refine zc call41 (tN w.heap.size O1 w1 1 2 t gv lc rc (d3.ext c7) (b5.ext c7) (b0.ext c7) ((yQ d3 b5 b0).upd d5) zd zd zd zd ho d6 e6) ?_;rintro _ w2 ⟨O2,rb,rfl,h2,e2,e5⟩;have b':IP (fun q=>q=1\/q=2\/q=3\/q=4\/q=1000) (fun _=>0) w O2 w2:=(d5.mono (fun _ h=>zo) hz).trans (e2.mono (fun _ h=>zo) hz);refine zh ?_;refine zvH (fy (q:=some ⟨rb,0,none⟩) Ml rfl rfl) ?_;refine zFH rfl rfl ?_;refine Bg Gs (enc:=AS) true e5 3 zd rfl rfl rfl zd rfl ?_;intro c' w3 O3 b3 d4 e4;have h3:=h2.upd d4 zd zd zd zd;have a8:=b'.trans (d4.mono (fun _ h=>zo) hz);have f3:=hd.upd b6 a8;refine zh ?_
 refine zlp (fun z:Nat×(Nat->Nat)×World×ix=>[(1,dv),(5,nP rb),(6,c'),(14,dv),(15,nI a0.length),(16,nI z.1)]) (fun z=>z.2.2.1) (fun z=>z.1<=a0.length/\RunO z.2.1 z.2.2.1 1 2 rb t gv lc rc z.2.2.2 (cM t (tw t) (a0.take z.1))/\OkS t (cM t (tw t) (a0.take z.1))/\(cM t (tw t) (a0.take z.1)).closed=false/\(cM t (tw t) (a0.take z.1)).wait.length<=z.1/\Kc AS 4 1 z.2.1 z.2.2.1 3 c' [true]/\IP (fun q=>q=1\/q=2\/q=3\/q=4\/q=1000) (fun _=>0) w z.2.1 z.2.2.1/\Jo w.heap.size z.2.1 z.2.2.1) (fun z=>a0.length-z.1) (0,O3,w3,nS) (⟨IK _,h3,Du ho,rfl,IK _,b3,a8,e4⟩) ?_;rintro⟨k,O4,w4,c9⟩ ⟨hk,h4,a3,a9,d2,a1,a7,c6⟩;dsimp only at hk h4 a3 a9 d2 a1 a7 c6 ⊢;have d9:=hd.upd b6 a7;refine zh ?_
 refine zC ?_ ?_
 ·intro a5;replace a5:k<a0.length:=dT a5;have d1:w4.cell? (adr dv 1 k)=some (nI (nth a0 k)):=by have:=d9.cell (i:=k) (j:=0) a5 rfl;rwa[ay]at this
  refine zh ?_;refine zc call42 (tV w.heap.size O4 w4 1 2 rb t gv lc rc c9 _ h4 zd zd zd zd zd ho a3 zo c6 (nth a0 k)) ?_
  rintro _ w5 ⟨O5,c8,h5,a6,c5⟩;obtain⟨p1,p2⟩:=zF t (cM t (tw t) (a0.take k)) (jc (nth a0 k));have a':=Dy (c:=jc (nth a0 k)) ho a3 (sU _) zo;rw[<-rR a5]at h5 p1 p2 a';refine zh ?_;refine zxd (k+1,O5,w5,c8) (⟨a5,h5,a',by dsimp only;rw[p2];exact a9,by dsimp only;omega,a1.upd a6 zd zd,a7.trans (a6.mono (fun _ h=>zo) hz),c5⟩)
 intro d8;obtain rfl:k=a0.length:=dF d8;rw[IR]at h4 a3 a9 d2;have d':uK t a0=true::gY t (cM t (tw t) a0).wait (cM t (tw t) a0).row++if 0<a0.length then [true]else []:=rfl
 rw[d'];refine zh ?_;refine zc call43 (qJ w.heap.size O4 w4 1 2 4 rb t gv lc rc c9 _ h4 zd zd zd zd zd zd zd zd zd ho a3 a9 c6 (lI hT hg (aw w) a7) hg) ?_;rintro cv w5 ⟨O5,c8,s5,h5,a',_,_,b8,a6,c5⟩;have d7:=pD t (cM t (tw t) a0).wait (cM t (tw t) a0).row;have b2:=a1.upd a6 zd zd;have b9:=a7.trans (a6.mono (fun _ h=>zo) hz);generalize gY t (cM t (tw t) a0).wait (cM t (tw t) a0).row=L at *;refine cF Gs b2 c5 b8.sl rfl rfl (fun _ _=>rfl) (fun u _ c hc=>by rw[I3.1 hc];rfl) (by show(1+L.length)*1<=_;omega) (by show 1+L.length<=_;omega) zd rfl ?_;intro e8 w6 O6 a4 e1 e3;have a2:=b9.trans (e1.mono (fun _ h=>zo) hz);have e':=hd.upd b6 a2;refine zh ?_
 by_cases d0:0<a0.length
 ·rw[if_pos d0];have e9:([true]++L).length=1+L.length:=by rw[I4];rfl
  refine zTH rfl ((decide_eq_true zo)) ?_;refine M5 Gs a4 e3 (true) (fun _=>rfl) rfl rfl rfl (by simp[IS]) zo zo zo zd rfl rfl ?_
  intro e7 w7 O7 b1 e0 f4;refine zh ?_;refine af rfl rfl (⟨b1.sl,(a2.trans (e0.mono (fun _ h=>zo) hz)).ext⟩)
 rw[if_neg d0];refine zFH rfl ((decide_eq_false zo)) ?_;refine af rfl rfl (⟨by rw[Je];exact a4.sl,a2.ext⟩)
end Go.Proofs.YtpfpmhhigheccaaGreatDoor
end
namespace Go.Proofs.YtpfpmhhigheccaaGreatDoor
theorem elW:LC J3 22 5 1 1:=⟨Lh,by kernel_rfl,zd⟩
abbrev nT(b:UInt8):ix:=.int .u8 (b.toNat:Int)
theorem sy{a:Nat}(h:a<2^64):(a:Int)<=K4.max:=by
 have:(a:Int)<=18446744073709551615:=zo;exact this
theorem yW(l:List UInt8)(c:UInt8)(n:Nat):yu (l++[c]) n=Bs (yu l n) c.toNat:=by
 unfold yu;rw[JK,KD,List.foldl_nil]
theorem yT(l:List UInt8)(v:ix)(w:ln)(h:Sl vR 1 w v l):Kx J3 11 [v] w fun u w'=>u=.int .u64 ((BH l:Nat):Int)/\w'=w:=by
 have hl:=h.len_le;have a1:BH l=yu (l.take l.length) 14695981039346656037:=by rw[IR];rfl
 rw[a1];refine I8 func11 ntmps11 rfl rfl ?_;refine zh ?_;refine zlp (fun z:Nat×Nat=>[(3,.int .u64 ((z.2:Nat):Int)),(6,v),(7,nI l.length),(8,nI z.1)]) (fun z=>w) (fun z=>z.1<=l.length/\z.2=yu (l.take z.1) 14695981039346656037/\z.2<2^64) (fun z=>l.length-z.1) (0,14695981039346656037) (⟨IK _,rfl,zd⟩) ?_;rintro⟨q,n⟩ ⟨hq,hn,a2⟩;dsimp only at hq hn a2 ⊢;refine zh ?_;refine zC ?_ ?_
 ·intro a0;replace a0:q<l.length:=dT a0;have hc:=(nth l q).toNat_lt;have m1:w.cell? (adr v 1 q)=some (.int .u8 ((nth l q).toNat:Int)):=h.ld a0;have hs:Bs n (nth l q).toNat=yu (l.take (q+1)) 14695981039346656037:=by rw[aI a0,yW,<-hn]
  refine zh ?_;refine zv (dU JT J0 rfl (KN zo)) ?_
  refine zv (D9 (a:=n) (b:=(nth l q).toNat) rfl rfl rfl rfl (sy a2) (sy (A1 _))) ?_;refine zvH (jl (v':=.int .u64 ((Bs n (nth l q).toNat:Nat):Int)) (Fg (a:=n ^^^ (nth l q).toNat) (b:=1099511628211) rfl rfl rfl rfl) (by rw[Bs])) ?_
  refine zxd (q+1,Bs n (nth l q).toNat) (⟨a0,hs,yV _ _⟩)
 intro a3;obtain rfl:q=l.length:=dF a3;refine zh ?_;refine af rfl rfl (⟨by rw[hn],rfl⟩)
theorem sg:∀(k n:Nat),n<128^(k+1)->(dN n).length<=k+1
 |0,n,h=>by
  unfold dN;rw[if_pos (by simpa using h)];simp
 |k+1,n,h=>by
  unfold dN
  split
  ·simp
  have:=sg k (n / 128) (Nat.div_lt_of_lt_mul (by rw[M0,<-LZ];exact h));rw[IL];omega
theorem cK{n:Nat}(h:n<2^64):(dN n).length<=10:=sg 9 n (Jh h zd)
theorem GN{r:Nat}(h:r<128):r ||| 128=(IX (128+r)).toNat:=by
 rw[toNat_ofNat zo,Ma];exact(KM (i:=7) h 1).symm
theorem iu(B:Nat)(O:Nat->Nat)(w:ln)(i:Nat)(v:ix)(l:List UInt8)(z:Int)(n:Nat)(hz:z=n)(hR:Jo B O w)(h:BufT nT 5 O w i v l)(hi:i≠0)(hn:n<2^64)(hl:l.length<=100000000000):
  Kx J3 26 [v,.int .u64 z] w fun v' w'=>∃O',BufT nT 5 O' w' i v' (l++dN n)/\IP (fun j=>j=i) O w O' w'/\Jo B O' w':=by
 subst hz;have a6:=cK hn;refine I8 func26 ntmps26 rfl rfl ?_;refine zh ?_;refine zlp (fun z:Nat×List UInt8×ix×(Nat->Nat)×World=>[(0,z.2.2.1),(1,.int .u64 ((z.1:Nat):Int))]) (fun z=>z.2.2.2.2) (fun z=>z.1<2^64/\z.2.1++dN z.1=dN n/\BufT nT 5 z.2.2.2.1 z.2.2.2.2 i z.2.2.1 (l++z.2.1)/\IP (fun j=>j=i) O w z.2.2.2.1 z.2.2.2.2/\Jo B z.2.2.2.1 z.2.2.2.2) (fun z=>z.1) (n,[],v,O,w) (⟨hn,rfl,by rw[Je];exact h,JS (fun e=>hi e.symm) _ _,hR⟩) ?_;rintro⟨m,p,v1,O1,w1⟩ ⟨hm,hp,h1,a3,a5⟩;dsimp only at hm hp h1 a3 a5 ⊢;have a8:p.length<=10:=by have:=congrArg List.length hp;rw[I4]at this;omega
 have a9:(l++p).length<=100000000010:=by rw[I4];omega
 refine zh ?_;refine zC ?_ ?_
 ·intro a0;replace a0:127<m:=dT a0;have hr:m % 128<128:=K0 _ zd;have a1:dN m=IX (128+m % 128)::dN (m / 128):=by rw[dN,if_neg zo]
  refine zh ?_;refine zv (jl (v':=.int .u64 ((m % 128:Nat):Int)) (lL (a:=m) (b:=127) rfl rfl rfl rfl (sy hm) zd) (by rw[show m &&& 127=m % 128 from Ky m 7])) ?_
  refine zv (dU J0 JT rfl (MA zo)) ?_;refine zv (jl (v':=.int .u8 (((IX (128+m % 128)).toNat:Nat):Int)) (nJ (a:=m % 128) (b:=128) rfl rfl rfl rfl (by show((m % 128:Nat):Int)<=255;omega) zd) (by rw[GN hr])) ?_
  refine qO elW h1 a5 (IX (128+m % 128)) (fun _=>rfl) rfl rfl rfl zo zo hi rfl rfl ?_;intro v2 w2 O2 h2 a2 a4;refine zh ?_
  refine zvH (eM (a:=m) (b:=7) rfl rfl rfl rfl zd) ?_;refine zxd (m / 128,p++[IX (128+m % 128)],v2,O2,w2) (⟨by dsimp only;omega,by dsimp only;rw[I5,List.singleton_append,<-a1];exact hp,by dsimp only;rw[<-I5];exact h2,a3.trans a2,a4⟩)
 intro a7;have a0:m<128:=dF a7;have a1:dN m=[IX m]:=by rw[dN,if_pos a0]
 rw[a1]at hp;refine zh ?_;refine zv (jl (v':=.int .u8 (((IX m).toNat:Nat):Int)) (dU J0 JT rfl (MA zo)) (by rw[toNat_ofNat zo])) ?_;refine qO elW h1 a5 (IX m) (fun _=>rfl) rfl rfl rfl zo zo hi rfl rfl ?_;intro v2 w2 O2 h2 a2 a4;refine zh ?_;refine af rfl rfl (⟨O2,by rw[<-hp,<-I5];exact h2,a3.trans a2,a4⟩)
structure ListsV(w:ln)(lv:ix)(vs:List ix)(xss:List (List Int)):Prop where
 sl:Sl (fun x:ix=>[x]) 1 w lv vs
 len:vs.length=xss.length
 row:∀j,j<xss.length->K2 w (nth vs j) (nth xss j)
def okI(b:Int)(xs:List Int):Prop:=xs.length<=65599/\∀n∈xs,n<=65536/\0<=n+b/\n+b<=65536
theorem iJ{α β:Type}{f:α->List β}{M:Nat}:∀(l:List α),(∀x∈l,(f x).length<=M)->(l.flatMap f).length<=l.length*M
 |[],_=>by simp
 |a::l,h=>by
  have h1:=h a (List.mem_cons_self ..);have h2:=iJ l fun x hx=>h x (List.mem_cons_of_mem _ hx)
  rw[JL,I4,IL,Nat.succ_mul];omega
theorem gz(b:Int)(xs:List Int):(upN b xs).length=xs.length:=by simp[upN]
theorem yE{b:Int}{xs:List Int}(h:okI b xs):∀x∈upN b xs,x<2^64:=fun x hx=>by
 obtain⟨n,hn,rfl⟩:=Jy.1 hx;have:=(h.2 n hn).2;omega
theorem mR{xs:List Nat}(h:∀x∈xs,x<2^64):(xs.flatMap dN).length<=xs.length*10:=iJ xs fun x hx=>cK (h x hx)
theorem gS{b:Int}{xs:List Int}(h:okI b xs):(qs (upN b xs)).length<=656000:=by
 have h1:=mR (yE h);have h2:=cK (n:=(upN b xs).length) (by rw[gz];have:=h.1;omega);have h3:=h.1;unfold qs;rw[I4];rw[gz]at h1 h2;rw[gz];omega
theorem B1{α β:Type}[Inhabited α][Inhabited β](f:α->β){l:List α}{i:Nat}(h:i<l.length):nth (l.map f) i=f (nth l i):=by
 rw[aB (by simpa using h),aB h,List.getElem_map]
theorem kh(B:Nat)(O:Nat → Nat)(w:ln)(i:Nat)(v lv:ix)(l:List UInt8)(b:Int)(vs:List ix)(xss:List (List Int))(_:0 ≤ b ∧ b ≤ 1)(hR:Jo B O w)(h:BufT nT 5 O w i v l)(hi:i ≠ 0)(hl:l.length ≤ 10000000000)(hn:xss.length ≤ 2)
  (hok:∀xs ∈ xss, okI b xs) (hx:∀O' W, IP (fun j => j = i) O w O' W → ListsV W lv vs xss) :
  Kx J3 27 [v, nI b, lv] w fun v' w' => ∃O', BufT nT 5 O' w' i v' (l ++ xss.flatMap fun xs => qs (upN b xs)) ∧ IP (fun j => j = i) O w O' w' ∧ Jo B O' w' := by
 have hz:¬(0 = i) := fun e => hi e.symm
 have h0 := hx O w (JS hz _ _)
 have hvl := h0.len
 obtain⟨W, hW⟩:∃W:List Int → List UInt8, W = fun xs => qs (upN b xs) := ⟨_, rfl⟩
 rw[← hW]
 have hWl:∀j, ((xss.take j).flatMap W).length ≤ 1312000 := fun j => by
  have := iJ (f := W) (M := 656000) (xss.take j) fun xs hxs => by rw[hW]; exact gS (hok xs (Jr hxs))
  have h2:(xss.take j).length ≤ 2 := Kr (by rw[JP]; exact Nat.min_le_right _ _) hn
  have h3 := L6 656000 h2
  omega
 refine I8 func27 ntmps27 rfl rfl ?_
 refine I7 ?_
 refine I0 ?_
 refine bG (I6 rfl) rfl ?_
 refine I2 ?_
 refine ai ?_
 refine I7 ?_
 refine I7 ?_
 refine I0 ?_
 refine bG (I1 rfl) rfl ?_
 refine bG (Lp (by first | exact h0.sl) Le rfl) rfl ?_
 refine bG (I1 rfl) rfl ?_
 refine I2 ?_
 refine ai ?_
 refine JV ?_
 rw[hvl]
 refine M6 (fun z:Nat×(Nat → Nat)×World×ix => [(0, z.2.2.2), (1, nI b), (11, lv), (12, nI xss.length), (13, nI z.1)]) (fun z:Nat×(Nat → Nat)×World×ix => z.2.2.1) (fun z:Nat×(Nat → Nat)×World×ix => z.1 ≤ xss.length ∧ BufT nT 5 z.2.1 z.2.2.1 i z.2.2.2 (l ++ (xss.take z.1).flatMap W) ∧ IP (fun j => j = i) O w z.2.1 z.2.2.1 ∧ Jo B z.2.1 z.2.2.1) (fun z:Nat×(Nat → Nat)×World×ix => xss.length - z.1) (0, O, w, v) (⟨IK _, by simpa using h, JS hz _ _, hR⟩) ⟨rfl, rfl, rfl, rfl, rfl, trivial⟩ rfl ?_
 rintro⟨q, O1, w1, v1⟩ ⟨hq, h1, hU1, hR1⟩
 dsimp only at hq h1 hU1 hR1 ⊢
 have hx1 := hx O1 w1 hU1
 refine I7 ?_
 refine I0 ?_
 refine bG (Lo rfl rfl) rfl ?_
 refine I2 ?_
 refine ai ?_
 refine I7 ?_
 refine M7 rfl ?_ ?_
 ·intro hlt
  replace hlt:q < xss.length := by have := of_decide_eq_true hlt; omega
  have m1:w1.cell? (adr lv 1 q) = some (nth vs q) := hx1.sl.ld (by omega)
  have hr1 := hx1.row q hlt
  have hxl := hr1.len_le
  obtain⟨ho1, ho2⟩ := hok _ (aM hlt)
  have hW1:W (nth xss q) = dN (nth xss q).length ++ (upN b (nth xss q)).flatMap dN := by rw[hW]; show qs _ = _; unfold qs; rw[gz]
  have hx2:∀O' W', IP (fun j => j = i) O1 w1 O' W' → K2 W' (nth vs q) (nth xss q) := fun O' W' u => (hx O' W' (hU1.trans u)).row q hlt
  have hup := mR (yE (hok _ (aM hlt)))
  rw[gz]at hup
  obtain⟨xs, hxs⟩:∃xs, xs = nth xss q := ⟨_, rfl⟩
  obtain⟨xv, hxv⟩:∃xv, xv = nth vs q := ⟨_, rfl⟩
  rw[← hxv]at m1 hr1 hx2
  rw[← hxs]at hr1 hxl ho1 ho2 hW1 hx2 hup
  have hlq := hWl q
  refine Kg ?_
  refine ai ?_
  refine I7 ?_
  refine JV ?_
  refine I7 ?_
  refine I0 ?_
  refine bG (Kw hx1.sl Le (KF _) rfl rfl q rfl (by omega)) rfl ?_
  refine bG (JC (by first | exact m1) (Li _) rfl) rfl ?_
  refine bG (I6 rfl) rfl ?_
  refine I2 ?_
  refine ai ?_
  refine I7 ?_
  refine I0 ?_
  refine bG (I1 rfl) rfl ?_
  refine bG (I1 rfl) rfl ?_
  refine bG (Lp (by first | exact hx1.sl | exact hr1) JI rfl) rfl ?_
  refine bG (dU JU J0 rfl (KN (by omega))) rfl ?_
  refine Kf LL rfl (iu B O1 w1 i v1 _ _ xs.length rfl hR1 h1 hi (by omega) (by rw[I4]; omega)) rfl ?_
  rintro v2 w2 ⟨O2, h2, hU2, hR2⟩
  have hr2 := hx2 O2 w2 hU2
  refine bG (I6 rfl) rfl ?_
  refine I2 ?_
  refine ai ?_
  refine I7 ?_
  refine I0 ?_
  refine bG (I1 rfl) rfl ?_
  refine bG (Lp (by first | exact hr2) JI rfl) rfl ?_
  refine bG (I1 rfl) rfl ?_
  refine I2 ?_
  refine ai ?_
  refine JV ?_
  refine M6 (fun y:Nat×(Nat → Nat)×World×ix => [(0, y.2.2.2), (1, nI b), (11, lv), (12, nI xss.length), (13, nI q), (22, xv), (23, nI xs.length), (24, nI y.1)]) (fun y:Nat×(Nat → Nat)×World×ix => y.2.2.1) (fun y:Nat×(Nat → Nat)×World×ix => y.1 ≤ xs.length ∧ BufT nT 5 y.2.1 y.2.2.1 i y.2.2.2 (l ++ (xss.take q).flatMap W ++ dN xs.length ++ ((upN b xs).take y.1).flatMap dN) ∧ IP (fun j => j = i) O1 w1 y.2.1 y.2.2.1 ∧ Jo B y.2.1 y.2.2.1) (fun y:Nat×(Nat → Nat)×World×ix => xs.length - y.1) (0, O2, w2, v2) (⟨IK _, by simpa using h2, hU2, hR2⟩) ⟨rfl, rfl, rfl, rfl, rfl, rfl, rfl, rfl, trivial⟩ rfl ?_
  rintro⟨k, O3, w3, v3⟩ ⟨hk, h3, hU3, hR3⟩
  dsimp only at hk h3 hU3 hR3 ⊢
  have hr3 := hx2 O3 w3 hU3
  refine I7 ?_
  refine I0 ?_
  refine bG (Lo rfl rfl) rfl ?_
  refine I2 ?_
  refine ai ?_
  refine I7 ?_
  refine M7 rfl ?_ ?_
  ·intro hlt3
   replace hlt3:k < xs.length := by have := of_decide_eq_true hlt3; omega
   have hkl:k < (upN b xs).length := by rw[gz]; exact hlt3
   have m3:w3.cell? (adr xv 1 k) = some (nI (nth xs k)) := hr3.ld hlt3
   obtain⟨hk1, hk2, hk3⟩ := ho2 _ (aM hlt3)
   have hnk:nth (upN b xs) k = (nth xs k + b).toNat := B1 _ hlt3
   have htl:(((upN b xs).take k).flatMap dN).length ≤ 655990 := by
    have := iJ (f := dN) (M := 10) ((upN b xs).take k) fun x hx' => cK (yE ⟨ho1, ho2⟩ x (Jr hx'))
    rw[JP, LH (by omega)]at this
    omega
   have hnl := cK (n := xs.length) (by omega)
   refine Kg ?_
   refine ai ?_
   refine I7 ?_
   refine JV ?_
   refine I7 ?_
   refine I0 ?_
   refine bG (Kw (by first | exact hr3) JI (Km _) rfl rfl _ rfl (by omega)) rfl ?_
   refine bG (JC (by first | exact m3) (isAgg3 _) rfl) rfl ?_
   refine bG (I6 rfl) rfl ?_
   refine I2 ?_
   refine ai ?_
   refine I0 ?_
   refine bG (I1 rfl) rfl ?_
   refine bG (I1 rfl) rfl ?_
   refine bG (I1 rfl) rfl ?_
   refine bG (Lq rfl rfl (JB (by omega))) rfl ?_
   refine bG (dU JU J0 rfl (KN (by omega))) rfl ?_
   refine Kf LL rfl (iu B O3 w3 i v3 _ _ (nth xs k + b).toNat (by omega) hR3 h3 hi (by omega) (by simp only[I4]; omega)) rfl ?_
   rintro v4 w4 ⟨O4, h4, hU4, hR4⟩
   refine bG (I6 rfl) rfl ?_
   refine I2 ?_
   refine bn ?_
   refine ai ?_
   refine I0 ?_
   refine bG (Lq rfl rfl (JB (by omega))) rfl ?_
   refine bG (I1 rfl) rfl ?_
   refine I2 ?_
   refine M9 ((k + 1, O4, w4, v4)) (⟨hlt3, by dsimp only; rw[aI hkl, Jw, hnk, ← I5, JY]; exact h4, hU3.trans hU4, hR4⟩) (by dsimp only; omega) ⟨rfl, rfl, rfl, rfl, rfl, rfl, rfl, rfl, trivial⟩ rfl
  ·intro hge3
   obtain rfl:k = xs.length := by have := of_decide_eq_false hge3; omega
   rw[← gz b xs, IR, gz, I5, ← hW1]at h3
   refine Lv ?_
   refine aQ ?_
   refine aQ ?_
   refine bS ?_
   refine bn ?_
   refine ai ?_
   refine I0 ?_
   refine bG (Lq rfl rfl (JB (by omega))) rfl ?_
   refine bG (I1 rfl) rfl ?_
   refine I2 ?_
   refine M9 ((q + 1, O3, w3, v3)) (⟨hlt, by dsimp only; rw[aI hlt, Jw, ← hxs, ← I5, JY]; exact h3, hU1.trans hU3, hR3⟩) (by dsimp only; omega) ⟨rfl, rfl, rfl, rfl, rfl, trivial⟩ rfl
 ·intro hge
  obtain rfl:q = xss.length := by have := of_decide_eq_false hge; omega
  rw[IR]at h1
  refine Lv ?_
  refine aQ ?_
  refine aQ ?_
  refine bS ?_
  refine ai ?_
  refine I7 ?_
  refine I0 ?_
  refine bG (I1 rfl) rfl ?_
  refine bG (I6 rfl) rfl ?_
  refine I2 ?_
  refine ai ?_
  refine KA ?_
  refine af rfl rfl (⟨O1, h1, hU1, hR1⟩)
theorem oJ(B:Nat)(O:Nat->Nat)(w:ln)(i:Nat)(v:ix)(l:List UInt8)(hR:Jo B O w)(h:BufT nT 5 O w i v l)(hi:i≠0)(hl:l.length<=1000000000000):
  Kx J3 20 [v] w fun v' w'=>∃O',BufT nT 5 O' w' i v' (mm l)/\IP (fun j=>j=i) O w O' w'/\Jo B O' w':=by
 have hz:¬(0=i):=fun e=>hi e.symm
 have a9:=Dh l;have a1:mm l=l++(le8 (BH l)).take 8:=by rw[J2 (by rw[mX];exact IV _)];rfl
 have a5:∀j,j<8->nth (le8 (BH l)) j=IX (BH l / 2^(8*j)):=fun j hj=>by
  rw[aB (by rw[mX];exact hj)];simp[le8]
 rw[a1];refine I8 func20 ntmps20 rfl rfl ?_;refine zh ?_;refine zc call11 (yT l v w h.sl) ?_;rintro _ w0 ⟨rfl,a4⟩;rw[a4];generalize BH l=S at *;refine zh ?_;refine zlp (fun z:Nat×(Nat->Nat)×World×ix=>[(0,z.2.2.2),(3,.int .u64 (S:Int)),(7,nI z.1)]) (fun z=>z.2.2.1) (fun z=>z.1<=8/\BufT nT 5 z.2.1 z.2.2.1 i z.2.2.2 (l++(le8 S).take z.1)/\IP (fun j=>j=i) O w z.2.1 z.2.2.1/\Jo B z.2.1 z.2.2.1) (fun z=>8-z.1) (0,O,w,v) (⟨IK _,by simpa using h,JS hz _ _,hR⟩) ?_;rintro⟨q,O1,w1,v1⟩ ⟨hq,h1,a2,a3⟩;dsimp only at hq h1 a2 a3 ⊢;have a':(l++(le8 S).take q).length<=1000000000008:=by rw[I4,JP,mX];omega
 refine zh ?_;refine zC ?_ ?_
 ·intro a0;replace a0:q<8:=dT a0;refine zh ?_;refine zv (RV.mul rfl rfl (JB zo)) ?_;refine zv (eM (a:=S) (b:=8*q) rfl rfl rfl zo (by show _<=64;omega)) ?_;refine zv (jl (v':=.int .u8 (((IX (S / 2^(8*q))).toNat:Nat):Int)) (CF (a:=S / 2^(8*q)) J0 JT rfl rfl) (by rw[UInt8.toNat_ofNat'])) ?_;refine qO elW h1 a3 (IX (S / 2^(8*q))) (fun _=>rfl) rfl rfl rfl zo zo hi rfl rfl ?_;intro v2 w2 O2 h2 a7 a8;refine zh ?_;refine zxd (q+1,O2,w2,v2) (⟨a0,by dsimp only;rw[aI (by rw[mX];exact a0),a5 q a0,<-I5];exact h2,a2.trans a7,a8⟩)
 intro a6;obtain rfl:q=8:=dF a6;refine zh ?_;refine af rfl rfl (⟨O1,h1,a2,a3⟩)
theorem jz{O:Nat->Nat}{w:ln}{v:ix}{sz lo hi:Nat}(h:KI O w v)(hn:hi-lo≠0->∃a n c,v=.slice a n c/\n≠0):KI O w (bL v sz lo hi):=fun a n c e a2=>by
 unfold bL at e
 split at e
 ·rename_i a0 n0 c0;simp only[KS]at e;obtain⟨e1,e2,_⟩:=e;obtain⟨a1,n1,c1,e3,a3⟩:=hn fun h0=>a2 (e2.symm.trans h0)
  simp only[KS]at e3;obtain⟨rfl,rfl,rfl⟩:=e3
  cases a0 with
  |none=>split at e1<;>cases e1
  |some q=>
   have:=h q n0 c0 rfl a3
   split at e1
   ·cases e1;exact this
   have e4:q.add (lo*sz)=a:=by simpa using e1
   subst e4;have hb:(q.add (lo*sz)).block=q.block:=by unfold JR;split<;>rfl
   rw[hb];exact this
 subst e;exact h a n c rfl a2
structure RdO(O:Nat->Nat)(w:ln)(rb:Nat)(l:List UInt8)(b:Bool):Prop where
 ex:∃bv,Kv O w 1 rb #[bv,.bool b] 63/\Sl vR 1 w bv l/\KI O w bv
theorem RdO.upd{S:Nat->Prop}{O O':Nat->Nat}{w w':ln}{rb:Nat}{l:List UInt8}{b:Bool}(h:RdO O w rb l b)(u:IP S O w O' w')(hS:¬S 1):RdO O' w' rb l b:=by
 obtain⟨bv,h1,h2,h3⟩:=h.ex;exact⟨bv,h1.upd u zd hS,h2.upd h3 u,h3.upd u⟩
theorem RdO.bad{O:Nat->Nat}{w:ln}{rb:Nat}{l:List UInt8}{b:Bool}(h:RdO O w rb l b):w.cell? ((nA rb 0).add 1)=some (.bool b):=by
 obtain⟨bv,h1,h2,h3⟩:=h.ex;exact h1.cell 1 rfl
def DW(l:List UInt8):UInt8:=l.headD 0
theorem Cw(B:Nat)(O:Nat->Nat)(w:ln)(rb:Nat)(l:List UInt8)(b:Bool)(hR:Jo B O w)(h:RdO O w rb l b):
  Kx J3 45 [nP rb] w fun u w'=>u=.int .u8 ((DW l).toNat:Int)/\RdO O w' rb l.tail (b||l.isEmpty)/\IP (fun j=>j=1) O w O w'/\Jo B O w':=by
 obtain⟨bv,h1,h2,h3⟩:=h.ex;have hz:¬(0=1):=zd;have m0:w.cell? (nA rb 0)=some bv:=h1.cell 0 rfl;refine I8 func45 ntmps45 rfl rfl ?_;refine zh ?_
 cases l with
 |nil=>
  refine zTH rfl rfl ?_;refine aj (j:=1) h1 rfl (Jp _) rfl rfl rfl rfl ?_
  have hU:IP (fun j=>j=1) O w O (w.setCell ⟨rb,1,none⟩ (.bool true)):=Jq hz h1.tag rfl;have a0:=h1.set 1 (.bool true);refine zh ?_;refine af rfl rfl (⟨rfl,⟨bv,by rw[show(b||([]:List UInt8).isEmpty)=true from by simp];exact a0,h2.upd h3 hU,h3.upd hU⟩,hU,hR.upd hU⟩)
 |cons c r=>
  have m1:w.cell? (adr bv 1 0)=some (.int .u8 (c.toNat:Int)):=by have:=h2.ld (i:=0) (by simp);rwa[ax]at this
  have a1:Sl vR 1 w (bL bv 1 1 (c::r).length) r:=by
   have:=h2.slice (lo:=1) (hi:=(c::r).length) (by simp) (IV _)
   rwa[IR,List.drop_one,List.tail_cons]at this
  have a2:KI O w (bL bv 1 1 (c::r).length):=jz h3 fun _=>by
   obtain⟨a,cc,e,_⟩:=h2.shape;exact⟨a,_,cc,e,by simp⟩
  refine zFH rfl ((by rw[beq_eq_false_iff_ne,IL];omega)) ?_;refine zvH (Kw h2 Lh (Mm _) rfl rfl 0 rfl (by simp)) ?_
  refine zvH (iS h2 Lh (Mm _) rfl rfl 1 rfl (by simp)) ?_;refine aj (j:=0) h1 rfl (sizeOf22 _) a1.one rfl rfl rfl ?_
  have hU:IP (fun j=>j=1) O w O (w.setCell ⟨rb,0,none⟩ (bL bv 1 1 (c::r).length)):=Jq hz h1.tag rfl;have a0:=h1.set 0 (bL bv 1 1 (c::r).length);refine zh ?_;refine af rfl rfl (⟨rfl,⟨_,by rw[show(b||(c::r).isEmpty)=b from by simp];exact a0,a1.upd a2 hU,a2.upd hU⟩,hU,hR.upd hU⟩)
theorem F6:∀c:Nat,c<256->((c &&& 128=0)↔c<128):=by decide +kernel
theorem iA(B:Nat)(O:Nat → Nat)(w:ln)(rb:Nat)(l:List UInt8)(b:Bool)(hR:Jo B O w)(h:RdO O w rb l b):
  Kx J3 23 [nP rb] w fun u w' => ∃n l' b', u = .int .u64 ((n:Nat):Int) ∧ n < 2^64 ∧ RdS (gM 0) l b n l' b' ∧ RdO O w' rb l' b' ∧ IP (fun j => j = 1) O w O w' ∧ Jo B O w' := by
 have hz:¬(0 = 1) := by decide
 refine I8 func23 ntmps23 rfl rfl ?_
 refine I7 ?_
 refine I0 ?_
 refine zv (I6 rfl) ?_
 refine I2 ?_
 refine ai ?_
 refine I7 ?_
 refine I0 ?_
 refine zv (I6 rfl) ?_
 refine I2 ?_
 refine ai ?_
 refine I7 ?_
 refine I7 ?_
 refine I0 ?_
 refine zv (I6 rfl) ?_
 refine I2 ?_
 refine ai ?_
 refine JV ?_
 refine zlp (fun z:Nat×Int×Nat×List UInt8×Bool×ln => [(0, nP rb), (3, .int .u64 ((z.2.2.1:Nat):Int)), (4, nI z.2.1)]) (fun z => z.2.2.2.2.2) (fun z => z.1 ≤ 10 ∧ z.2.1 = 7 * (z.1:Int) ∧ z.2.2.1 < 2^64 ∧ WNum l b z.1 z.2.2.1 z.2.2.2.1 z.2.2.2.2.1 ∧ RdO O z.2.2.2.2.2 rb z.2.2.2.1 z.2.2.2.2.1 ∧ IP (fun j => j = 1) O w O z.2.2.2.2.2 ∧ Jo B O z.2.2.2.2.2) (fun z => 10 - z.1) (0, 0, 0, l, b, w) (⟨IK _, rfl, Jf 64, ym l b, h, JS hz _ _, hR⟩) ?_
 rintro⟨k, i, n, l1, b1, w1⟩ ⟨hk, hi, hn6, hV, h1, hU1, hR1⟩
 dsimp only at hk hi hn6 hV h1 hU1 hR1 ⊢
 refine I7 ?_
 refine I7 ?_
 refine I0 ?_
 refine zv (I1 rfl) ?_
 refine zv (RV.leq rfl rfl) ?_
 refine I2 ?_
 refine ai ?_
 refine zC ?_ ?_
 ·intro hlt
  replace hlt:k ≤ 9 := by have := of_decide_eq_true hlt; omega
  refine Kg ?_
  refine ai ?_
  refine I7 ?_
  refine JV ?_
  refine I7 ?_
  refine I0 ?_
  refine zv (I1 rfl) ?_
  refine zv (ao rfl) ?_
  refine zv (RV.fa rfl) ?_
  refine zc call45 (Cw B O w1 rb l1 b1 hR1 h1) ?_
  rintro _ w2 ⟨rfl, h2, hU2, hR2⟩
  have hcb := (DW l1).toNat_lt
  obtain⟨c, hc⟩:∃c, c = DW l1 := ⟨_, rfl⟩
  rw[← hc]at hcb ⊢
  have m2 := h2.bad
  refine zv (I6 rfl) ?_
  refine I2 ?_
  refine ai ?_
  refine I7 ?_
  refine kM (fun z:ln => [(0, nP rb), (3, .int .u64 ((n:Nat):Int)), (4, nI i), (5, .int .u8 (c.toNat:Int))]) (fun z:ln => z) (fun z:ln => RdO O z rb l1.tail (b1 || l1.isEmpty || nO k c) ∧ IP (fun j => j = 1) O w1 O z ∧ Jo B O z) ?_ ?_
  ·intro hN
   obtain⟨bv, r1, r2, r3⟩ := h2.ex
   have fin:∀x, x = (b1 || l1.isEmpty || nO k c) → RdO O (w2.setCell ⟨rb, 1, none⟩ (.bool x)) rb l1.tail (b1 || l1.isEmpty || nO k c) ∧ IP (fun j => j = 1) O w1 O (w2.setCell ⟨rb, 1, none⟩ (.bool x)) ∧ Jo B O (w2.setCell ⟨rb, 1, none⟩ (.bool x)) := by
    rintro x rfl
    have u := Jq (S := fun j => j = 1) (w := w2) (j := 1) (u := .bool (b1 || l1.isEmpty || nO k c)) hz r1.tag rfl
    exact⟨⟨bv, r1.set 1 _, r2.upd r3 u, r3.upd u⟩, hU2.trans u, hR2.upd u⟩
   have hst:∀x:Bool, IS (.bool x) = true := fun _ => rfl
   refine I0 ?_
   refine zv (I1 rfl) ?_
   refine zv (I1 rfl) ?_
   refine zv (ao rfl) ?_
   refine zv (RV.fa rfl) ?_
   refine zv (RV.fa rfl) ?_
   refine zv (RV.ld m2 rfl) ?_
   refine zv (I1 rfl) ?_
   cases hb1:(b1 || l1.isEmpty)with
   |true =>
    rw[hb1]at m2 r1
    refine au (d := 20) rfl (b' := true) (rfl) ?_
    refine IW rfl rfl rfl ?_
    refine IW rfl rfl rfl ?_
    refine IW rfl rfl rfl ?_
    refine cX rfl rfl ?_
    refine cX rfl rfl ?_
    refine IW rfl rfl rfl ?_
    refine zv (bp rfl rfl) ?_
    refine zv (I1 rfl) ?_
    refine IW rfl rfl rfl ?_
    refine IW rfl rfl rfl ?_
    refine IW rfl rfl rfl ?_
    refine cX rfl rfl ?_
    refine cX rfl rfl ?_
    refine IW rfl rfl rfl ?_
    refine zv (bp rfl rfl) ?_
    refine zv (ao rfl) ?_
    refine zv (RV.fa rfl) ?_
    refine zv (RV.fa rfl) ?_
    refine aj (j := 1) r1 rfl (Jp _) rfl rfl rfl rfl ?_
    refine I2 ?_
    exact eA (hN (_) (fin true (by rw[hb1]; rfl))) ⟨rfl, rfl, rfl, rfl, trivial⟩ rfl
   |false =>
    rw[hb1]at m2 r1
    have hwb:nO k c = ((decide (k = 9) && decide (1 < c.toNat)) || (decide (0 < k) && decide (c.toNat = 0))) := rfl
    have hc0:((c.toNat:Int) == 0) = decide (c.toNat = 0) := by
     by_cases h:c.toNat = 0
     ·rw[h]; rfl
     ·rw[decide_eq_false h, beq_eq_false_iff_ne]; omega
    refine au (d := 20) rfl (b' := false) (rfl) ?_
    refine cz rfl ?_
    refine zv (I1 rfl) ?_
    refine cz rfl ?_
    refine zv (LU rfl rfl) ?_
    refine cz rfl ?_
    refine zv (I1 rfl) ?_
    by_cases h9:k = 9
    ·skip
     refine au (d := 23) rfl (b' := true) ((by rw[beq_iff_eq]; omega)) ?_
     refine cz rfl ?_
     refine zv (I1 rfl) ?_
     refine cz rfl ?_
     refine zv (Mj rfl rfl) ?_
     refine cz rfl ?_
     refine zv (bp rfl rfl) ?_
     refine zv (bq rfl rfl) ?_
     refine zv (I1 rfl) ?_
     by_cases h1c:1 < c.toNat
     ·skip
      refine au (d := 28) rfl (b' := true) ((decide_eq_true (by omega))) ?_
      refine IW rfl rfl rfl ?_
      refine IW rfl rfl rfl ?_
      refine IW rfl rfl rfl ?_
      refine cX rfl rfl ?_
      refine cX rfl rfl ?_
      refine IW rfl rfl rfl ?_
      refine zv (bp rfl rfl) ?_
      refine zv (ao rfl) ?_
      refine zv (RV.fa rfl) ?_
      refine zv (RV.fa rfl) ?_
      refine aj (j := 1) r1 rfl (Jp _) rfl rfl rfl rfl ?_
      refine I2 ?_
      exact eA (hN (_) (fin true (by rw[hb1, hwb, decide_eq_true h9, decide_eq_true h1c]; rfl))) ⟨rfl, rfl, rfl, rfl, trivial⟩ rfl
     ·skip
      refine au (d := 28) rfl (b' := false) ((decide_eq_false (by omega))) ?_
      refine cz rfl ?_
      refine zv (I1 rfl) ?_
      refine cz rfl ?_
      refine zv (Mj rfl rfl) ?_
      refine cz rfl ?_
      refine zv (I1 rfl) ?_
      refine au (d := 31) rfl (b' := true) ((decide_eq_true (by omega))) ?_
      refine cz rfl ?_
      refine zv (I1 rfl) ?_
      refine cz rfl ?_
      refine zv (LU rfl rfl) ?_
      refine cz rfl ?_
      refine zv (bp rfl rfl) ?_
      refine zv (bq rfl rfl) ?_
      refine zv (ao rfl) ?_
      refine zv (RV.fa rfl) ?_
      refine zv (RV.fa rfl) ?_
      rw[hc0]
      refine aj (j := 1) r1 rfl (Jp _) rfl rfl rfl rfl ?_
      refine I2 ?_
      exact eA (hN (_) (fin _ (by rw[hb1, hwb, decide_eq_false h1c, decide_eq_true (show 0 < k by omega)]; simp))) ⟨rfl, rfl, rfl, rfl, trivial⟩ rfl
    ·skip
     refine au (d := 23) rfl (b' := false) ((by rw[beq_eq_false_iff_ne]; omega)) ?_
     refine IW rfl rfl rfl ?_
     refine IW rfl rfl rfl ?_
     refine cz rfl ?_
     refine zv (bq rfl rfl) ?_
     refine zv (bq rfl rfl) ?_
     refine zv (I1 rfl) ?_
     refine cz rfl ?_
     refine zv (I1 rfl) ?_
     refine cz rfl ?_
     refine zv (Mj rfl rfl) ?_
     refine cz rfl ?_
     refine zv (I1 rfl) ?_
     by_cases h0:0 < k
     ·skip
      refine au (d := 31) rfl (b' := true) ((decide_eq_true (by omega))) ?_
      refine cz rfl ?_
      refine zv (I1 rfl) ?_
      refine cz rfl ?_
      refine zv (LU rfl rfl) ?_
      refine cz rfl ?_
      refine zv (bp rfl rfl) ?_
      refine zv (bq rfl rfl) ?_
      refine zv (ao rfl) ?_
      refine zv (RV.fa rfl) ?_
      refine zv (RV.fa rfl) ?_
      rw[hc0]
      refine aj (j := 1) r1 rfl (Jp _) rfl rfl rfl rfl ?_
      refine I2 ?_
      exact eA (hN (_) (fin _ (by rw[hb1, hwb, decide_eq_false h9, decide_eq_true h0]; simp))) ⟨rfl, rfl, rfl, rfl, trivial⟩ rfl
     ·skip
      refine au (d := 31) rfl (b' := false) ((decide_eq_false (by omega))) ?_
      refine IW rfl rfl rfl ?_
      refine IW rfl rfl rfl ?_
      refine cz rfl ?_
      refine zv (bq rfl rfl) ?_
      refine zv (bq rfl rfl) ?_
      refine zv (ao rfl) ?_
      refine zv (RV.fa rfl) ?_
      refine zv (RV.fa rfl) ?_
      refine aj (j := 1) r1 rfl (Jp _) rfl rfl rfl rfl ?_
      refine I2 ?_
      exact eA (hN (_) (fin _ (by rw[hb1, hwb, decide_eq_false h9, decide_eq_false h0]; simp))) ⟨rfl, rfl, rfl, rfl, trivial⟩ rfl
  rintro w3 ⟨h3, hU3, hR3⟩
  have hm127:c.toNat &&& 127 ≤ 127 := Ly
  have hq6 := DH (i := k) (c := c) hn6
  have h128 := F6 _ hcb
  refine ai ?_
  refine I7 ?_
  refine I0 ?_
  refine zv (I1 rfl) ?_
  refine zv (I1 rfl) ?_
  refine zv (lL (a := c.toNat) (b := 127) rfl rfl rfl rfl (by show(c.toNat:Int) ≤ 255; omega) (by decide)) ?_
  refine zv (dU JT J0 rfl (KN (by omega))) ?_
  refine zv (I1 rfl) ?_
  refine zv (Fa (a := c.toNat &&& 127) (b := 7 * k) rfl rfl rfl (by omega) (by omega)) ?_
  refine zv (jl (v' := .int .u64 ((BZ k n c:Nat):Int)) (nJ (a := n) (b := (c.toNat &&& 127) * 2^(7 * k) % 2^64) rfl rfl rfl rfl (sy hn6) (sy (K0 _ (Jf 64)))) (by rw[BZ])) ?_
  refine zv (I6 rfl) ?_
  refine I2 ?_
  refine ai ?_
  refine I7 ?_
  refine I0 ?_
  refine zv (I1 rfl) ?_
  refine zv (lL (a := c.toNat) (b := 128) rfl rfl rfl rfl (by show(c.toNat:Int) ≤ 255; omega) (by decide)) ?_
  refine zv (LU rfl rfl) ?_
  refine I2 ?_
  refine ai ?_
  refine zC ?_ ?_
  ·intro h0
   have hc8:c.toNat < 128 := h128.1 (by have := eq_of_beq h0; omega)
   refine I7 ?_
   refine I0 ?_
   refine zv (I1 rfl) ?_
   refine zv (I6 rfl) ?_
   refine I2 ?_
   refine ai ?_
   refine KA ?_
   refine gk ?_
   refine cu ?_
   refine cu ?_
   refine gk ?_
   refine cu ?_
   refine af rfl rfl (⟨BZ k n c, l1.tail, _, rfl, hq6, ?_, h3, hU1.trans hU3, hR3⟩)
   cases l1 with
   |nil => rw[show(b1 || ([]:List UInt8).isEmpty || nO k c) = true from by simp]; exact RdS.bad hV.empty
   |cons x r =>
    obtain rfl:c = x := hc
    rw[show(b1 || (c :: r).isEmpty || nO k c) = (b1 || nO k c)from by simp]
    exact hV.fin hc8
  ·intro h0
   have hc8:¬c.toNat < 128 := fun h => by
    rw[h128.2 h]at h0; cases h0
   refine Kg ?_
   refine bn ?_
   refine ai ?_
   refine I0 ?_
   refine zv (I1 rfl) ?_
   refine zv (Lq rfl rfl (JB (by omega))) ?_
   refine zv (I6 rfl) ?_
   refine I2 ?_
   cases l1 with
   |nil => subst hc; exact absurd (by decide) hc8
   |cons x r =>
    obtain rfl:c = x := hc
    rw[show(b1 || (c :: r).isEmpty || nO k c) = (b1 || nO k c)from by simp]at h3
    refine zxd (k + 1, i + 7, BZ k n c, r, b1 || nO k c, w3) (⟨by dsimp only; omega, by dsimp only; omega, hq6, hV.step hc8, h3, hU1.trans hU3, hR3⟩)
 ·intro hge
  obtain rfl:k = 10 := by have := of_decide_eq_false hge; omega
  obtain⟨bv, r1, r2, r3⟩ := h1.ex
  refine Lv ?_
  refine aQ ?_
  refine aQ ?_
  refine bS ?_
  refine ai ?_
  refine I7 ?_
  refine I0 ?_
  refine zv (I1 rfl) ?_
  refine zv (ao rfl) ?_
  refine zv (RV.fa rfl) ?_
  refine zv (RV.fa rfl) ?_
  refine aj (j := 1) r1 rfl (Jp _) rfl rfl rfl rfl ?_
  have u := Jq (S := fun j => j = 1) (w := w1) (j := 1) (u := .bool true) hz r1.tag rfl
  refine I2 ?_
  refine ai ?_
  refine I7 ?_
  refine I0 ?_
  refine zv (I6 rfl) ?_
  refine I2 ?_
  refine ai ?_
  refine KA ?_
  refine af rfl rfl (⟨0, l1, true, rfl, by decide, RdS.bad hV.over, ⟨bv, r1.set 1 _, r2.upd r3 u, r3.upd u⟩, hU1.trans u, hR1.upd u⟩)
theorem eT(B:Nat)(O:Nat->Nat)(w:ln)(rb:Nat)(l:List UInt8)(b:Bool)(hR:Jo B O w)(h:RdO O w rb l b):
  Kx J3 22 [nP rb] w fun u w'=>∃n l' b',u=nI ((n:Nat):Int)/\n<=2^20/\RdS smR l b n l' b'/\RdO O w' rb l' b'/\IP (fun j=>j=1) O w O w'/\Jo B O w':=by
 have hz:¬(0=1):=zd;refine I8 func22 ntmps22 rfl rfl ?_;refine zh ?_;refine zc Mx (iA B O w rb l b hR h) ?_;rintro _ w1 ⟨n,l1,b1,rfl,hn,hS,h1,a2,a3⟩;refine zh ?_;refine zC ?_ ?_
 ·intro a5;have a1:2^20<n:=dT a5;obtain⟨bv,r1,r2,r3⟩:=h1.ex;refine zh ?_;refine aj (j:=1) r1 rfl (Jp _) rfl rfl rfl rfl ?_;have u:=Jq (S:=fun j=>j=1) (w:=w1) (j:=1) (u:=.bool true) hz r1.tag rfl;refine zh ?_;refine af rfl rfl (⟨0,l1,true,rfl,zd,hS.great a1,⟨bv,r1.set 1 _,r2.upd r3 u,r3.upd u⟩,a2.trans u,a3.upd u⟩)
 intro a4;have a0:¬2^20<n:=dF a4;refine zh ?_;refine zvH (dU J0 JU rfl (JB zo)) ?_;refine af rfl rfl (⟨n,l1,b1,rfl,zo,hS.small a0,h1,a2,a3⟩)
theorem Cs(b:Int)(xs:List Nat)(x:Nat):dnN b (xs++[x])=dnN b xs++[(x:Int)-b]:=by simp[dnN]
theorem D2(b:Int)(xs:List Nat):(dnN b xs).length=xs.length:=by simp[dnN]
theorem gI(B:Nat)(O:Nat->Nat)(w:ln)(rb i:Nat)(l:List UInt8)(b:Bool)(a0:Int)(b9:0<=a0/\a0<=1)(hi:1<i)(hR:Jo B O w)(h:RdO O w rb l b):
  Kx J3 24 [nP rb,nI a0] w fun u w'=>∃xs l' b' O',Kc encI 3 1 O' w' i u (dnN a0 xs)/\RdS lstR l b xs l' b'/\RdO O' w' rb l' b'/\IP (fun j=>j=1\/j=i) O w O' w'/\Jo B O' w':=by
 have hz:¬(0=1\/0=i):=by omega
 refine I8 func24 ntmps24 rfl rfl ?_;refine zg ?_
 refine zc Mf (eT B O w rb l b hR h) ?_;rintro _ w1 ⟨m,l1,b1,rfl,hm,hS,h1,a9,b5⟩;refine zg ?_
 refine zlp (fun z:Nat×List Nat×List UInt8×Bool×(Nat->Nat)×World×ix=>[(0,nP rb),(1,nI a0),(5,nI ((z.1:Nat):Int)),(6,z.2.2.2.2.2.2)]) (fun z=>z.2.2.2.2.2.1) (fun z=>z.1+z.2.1.length<=m/\LstI smR m l1 b1 z.1 z.2.1 z.2.2.1 z.2.2.2.1/\Kc encI 3 1 z.2.2.2.2.1 z.2.2.2.2.2.1 i z.2.2.2.2.2.2 (dnN a0 z.2.1)/\RdO z.2.2.2.2.1 z.2.2.2.2.2.1 rb z.2.2.1 z.2.2.2.1/\IP (fun j=>j=1\/j=i) O w z.2.2.2.2.1 z.2.2.2.2.2.1/\Jo B z.2.2.2.2.1 z.2.2.2.2.2.1) (fun z=>z.1) (m,[],l1,b1,O,w1,nS) (⟨IV _,pO _ _ _ _,KK _ _ _ _ _ _,h1,a9.mono (fun _ h=>.inl h) hz,b5⟩) ?_;rintro⟨k,xs,l2,b2,O2,w2,v2⟩ ⟨hk,hL,a2,h2,a3,a4⟩;dsimp only at hk hL a2 h2 a3 a4 ⊢;have m2:=h2.bad;refine zg ?_
 refine bz (fun w1=>_=w1) (!b2) 6 (rfl) rfl rfl rfl rfl rfl ?_ ?_
 ·intro a1;refine zg ?_;refine zvG (RV.ld m2 rfl) ?_;refine cI (tA:=11) 7 (rfl) rfl rfl rfl (fun v hv=>(JG hv).symm.trans (congrArg L5 a1)) rfl
 rintro _ rfl;refine zg ?_;refine zC ?_ ?_
 ·intro hc;rw[IM,decide_eq_true_eq,Jj]at hc;obtain⟨b8,rfl⟩:=hc;obtain⟨k,rfl⟩:∃k',k=k'+1:=⟨k-1,by omega⟩
  have b6:=D2 a0 xs;have b7:(2^20:Nat)=1048576:=by decide
  refine zg ?_;refine zc Mf (eT B O2 w2 rb l2 false a4 h2) ?_
  rintro _ w3 ⟨n,l3,b3,rfl,hn,a',h3,a7,b4⟩;have a8:=a2.upd a7 zo zo;refine zg ?_;refine zv (Mi rfl rfl (JB zo)) ?_;refine M5 jJ a8 b4 (((n:Int)-a0)) (fun _=>rfl) rfl rfl rfl (by simp[IS]) zo zo zo zd rfl rfl ?_;intro v4 w4 O4 a5 a6 b0;rw[<-Cs]at a5;refine zg ?_;refine zvG (jl (v':=nI ((k:Nat):Int)) (Mi rfl rfl (JB zo)) (by congr 1;omega)) ?_;refine zxd (k,xs++[n],l3,b3,O4,w4,v4) (⟨by dsimp only;rw[I4,ka];omega,hL.step a',a5,h3.upd a6 zo,(a3.trans (a7.mono (fun _ h=>.inl h) hz)).trans (a6.mono (fun _ h=>.inr h) hz),b0⟩)
 intro hc;have hd:k=0\/b2=true:=by
  rw[L1,decide_eq_false_iff_not,Ld]at hc
  rcases hc with hc|hc
  ·exact .inl zo
  exact .inr hc
 refine zg ?_;refine af rfl rfl (⟨xs,l2,b2,O2,a2,hS.lstR (hL.done hd),h2,a3,a4⟩)
structure PartO(O:Nat->Nat)(w:ln)(a:Nat)(cs:List ix)(p:PaW):Prop where
 ex:∃uv bv kv nv tv,cs=[nI (p.1:Int),uv,bv,kv,nv,tv]/\Kc encI 3 1 O w a uv (dnN 0 p.2.1)/\Kc encI 3 1 O w (a+1) bv (dnN 0 p.2.2.1)/\Kc encI 3 1 O w (a+2) kv (dnN 1 p.2.2.2.1)/\
  Kc encI 3 1 O w (a+3) nv (dnN 0 p.2.2.2.2.1)/\Kc fj 24 1 O w (a+4) tv p.2.2.2.2.2
theorem PartO.upd{S:Nat->Prop}{O O':Nat->Nat}{w w':ln}{a:Nat}{cs:List ix}{p:PaW}(h:PartO O w a cs p)(u:IP S O w O' w')(ha:0<a)(hS:∀j,a<=j->j<=a+4->¬S j):PartO O' w' a cs p:=by
 obtain⟨uv,bv,kv,nv,tv,e,h1,h2,h3,h4,h5⟩:=h.ex;exact⟨uv,bv,kv,nv,tv,e,h1.upd u zo (hS a zo zo),h2.upd u zo (hS (a+1) zo zo),h3.upd u zo (hS (a+2) zo zo),h4.upd u zo (hS (a+3) zo zo),h5.upd u zo (hS (a+4) zo zo)⟩
theorem PartO.partV{O:Nat->Nat}{w:ln}{a:Nat}{cs:List ix}{p:PaW}(h:PartO O w a cs p):PartV w cs (Dz p) p.2.2.2.2.2:=by
 obtain⟨uv,bv,kv,nv,tv,e,h1,h2,h3,h4,h5⟩:=h.ex;exact⟨uv,bv,kv,nv,tv,e,h1.sl,h2.sl,h3.sl,h4.sl,h5.sl⟩
theorem rK(B:Nat)(O:Nat->Nat)(w:ln)(rb a:Nat)(l:List UInt8)(b:Bool)(ha:1<a)(hR:Jo B O w)(h:RdO O w rb l b):
  Kx J3 25 [nP rb] w fun u w'=>∃cs p l' b' O',u=.agg cs.toArray/\PartO O' w' a cs p/\RdS Gm l b p l' b'/\RdO O' w' rb l' b'/\IP (fun j=>j=1\/a<=j/\j<=a+6) O w O' w'/\Jo B O' w':=by
 have hz:¬(0=1\/a<=0/\0<=a+6):=by omega
 refine I8 func25 ntmps25 rfl rfl ?_;refine zg ?_
 refine ar hR (a+6) zo (Kj _) rfl ?_;intro cb w1 O1 e4 g0 j0 j9;have h1:=h.upd g0 zo;have e6:=g0.mono (S':=fun j=>j=1\/a<=j/\j<=a+6) (fun _ h=>by omega) hz;refine zg ?_
 refine zc Mf (eT B O1 w1 rb l b j0 h1) ?_;rintro _ w2 ⟨wd,l2,b2,rfl,j5,i3,h2,f',i'⟩;refine zg ?_
 refine zc Me (gI B O1 w2 rb a l2 b2 0 zd ha i' h2) ?_;rintro uv w3 ⟨us,l3,b3,O3,g5,i2,h3,f9,i9⟩;refine zg ?_
 refine zc Me (gI B O3 w3 rb (a+1) l3 b3 0 zd zo i9 h3) ?_;rintro bv w4 ⟨ps,l4,b4,O4,g8,i1,h4,e5,i8⟩;have g4:=g5.upd e5 zo zo;refine zg ?_
 refine zc Me (gI B O4 w4 rb (a+2) l4 b4 1 zd zo i8 h4) ?_;rintro kv w5 ⟨ks,l5,b5,O5,g6,i0,h5,d4,i7⟩;have g3:=g4.upd d4 zo zo;have g7:=g8.upd d4 zo zo;refine zg ?_
 refine zc Me (gI B O5 w5 rb (a+3) l5 b5 0 zd zo i7 h5) ?_;rintro nv w6 ⟨ns,l6,b6,O6,f4,h',h6,c',i6⟩;have e':=g3.upd c' zo zo;have f6:=g7.upd c' zo zo;have f5:=g6.upd c' zo zo;have d1:IP (fun j=>j=1\/a<=j/\j<=a+6) O w O6 w6:=((((e6.trans (f'.mono (fun _ h=>by omega) hz)).trans (f9.mono (fun _ h=>by omega) hz)).trans (e5.mono (fun _ h=>by omega) hz)).trans (d4.mono (fun _ h=>by omega) hz)).trans (c'.mono (fun _ h=>by omega) hz);have e3:=((((e4.upd f' zo zo).upd f9 zo zo).upd e5 zo zo).upd d4 zo zo).upd c' zo zo;have o1:=e'.one;have o2:=f6.one;have o3:=f5.one;have o4:=f4.one;refine zv (aE Fm (KQ _) rfl (by first|rfl|(simp only[IG,o1,o2,o3,o4,Jz];rfl)) rfl rfl) ?_
 refine zv (JF (cells:=#[nI (wd:Int),uv,bv,kv,nv,nS]) Ib (Kj _) rfl zk) ?_;refine ar i6 (a+5) zo (Kj _) rfl ?_
 intro pb w7 O7 a8 g' i5 j8;refine zsb (us:=#[nI (wd:Int),uv,bv,kv,nv,nS]) a8 (J5 _) (by simp only[IG,o1,o2,o3,o4,Jz];rfl) ?_;have d8:=a8.setRow (us:=#[nI (wd:Int),uv,bv,kv,nv,nS]);have f8:IP (fun j=>j=a+5) O7 w7 O7 (w7.setRow pb #[nI (wd:Int),uv,bv,kv,nv,nS]):=I9 zo a8.tag rfl;generalize w7.setRow pb #[nI (wd:Int),uv,bv,kv,nv,nS]=w8 at *;have a':=g'.trans f8;have i4:=i5.upd f8;have h8:=h6.upd a' zo;have h0:=d1.trans (a'.mono (fun _ h=>by omega) hz);refine zg ?_;refine zc Mf (eT B O7 w8 rb l6 b6 i4 h8) ?_;rintro _ w9 ⟨m,l9,b9,rfl,hm,h7,h9,f7,g1⟩;have c5:=d8.upd f7 zo zo;have c9:=(a'.mono (S':=fun j=>j=1\/j=a+4\/j=a+5) (fun _ h=>by omega) zo).trans (f7.mono (fun _ h=>by omega) zo);obtain⟨O9,j1⟩:∃O9,O9=O7:=⟨_,rfl⟩
 rw[<-j1]at h9 c5 c9 g1;refine zg ?_;refine zlp (fun z:Nat×List Nat×List UInt8×Bool×(Nat->Nat)×World×ix=>[(0,nP rb),(2,nP cb),(3,nP pb),(4,nI ((z.1:Nat):Int))]) (fun z=>z.2.2.2.2.2.1) (fun z=>z.1+z.2.1.length<=m/\LstI (gM 0) m l9 b9 z.1 z.2.1 z.2.2.1 z.2.2.2.1/\Kv z.2.2.2.2.1 z.2.2.2.2.2.1 (a+5) pb #[nI (wd:Int),uv,bv,kv,nv,z.2.2.2.2.2.2] 30/\Kc fj 24 1 z.2.2.2.2.1 z.2.2.2.2.2.1 (a+4) z.2.2.2.2.2.2 z.2.1/\RdO z.2.2.2.2.1 z.2.2.2.2.2.1 rb z.2.2.1 z.2.2.2.1/\IP (fun j=>j=1\/j=a+4\/j=a+5) O6 w6 z.2.2.2.2.1 z.2.2.2.2.2.1/\Jo B z.2.2.2.2.1 z.2.2.2.2.2.1) (fun z=>z.1) (m,[],l9,b9,O9,w9,nS) (⟨IV _,pO _ _ _ _,c5,KK _ _ _ _ _ _,h9,c9,g1⟩) ?_;rintro⟨k,xs,lk,bk,Ok,wk,tv⟩ ⟨hk,hL,a2,b1,c7,a3,d5⟩;dsimp only at hk hL a2 b1 c7 a3 d5 ⊢;have mk:=c7.bad;refine zg ?_;refine bz (fun w1=>_=w1) (!bk) 6 (rfl) rfl rfl rfl rfl rfl ?_ ?_
 ·intro a1;refine zg ?_;refine zvG (RV.ld mk rfl) ?_;refine cI (tA:=21) 7 (rfl) rfl rfl rfl (fun v hv=>(JG hv).symm.trans (congrArg L5 a1)) rfl
 rintro _ rfl;refine zg ?_;refine zC ?_ ?_
 ·intro hc;rw[IM,decide_eq_true_eq,Jj]at hc;obtain⟨j7,rfl⟩:=hc;obtain⟨k,rfl⟩:∃k',k=k'+1:=⟨k-1,by omega⟩
  have j6:(2^20:Nat)=1048576:=by decide
  refine zg ?_;refine aL (fun _=>True) 8 rfl zk ?_
  refine zin trivial fun zS=>?_
  refine zrf 0 rfl zS rfl ?_;refine zrm 2 rfl zS rfl ?_
  obtain⟨O8,j2⟩:∃O8,O8=Ok:=⟨_,rfl⟩
  rw[<-j2]at a2 b1 c7 a3 d5;refine tp (fun x:ix×Nat×List UInt8×Bool×ln=>[(0,nP rb),(2,nP cb),(3,nP pb),(4,nI ((k+1:Nat):Int)),(32,tv),(35,x.1)]) (fun x=>x.2.2.2.2) (fun x=>x.2.1<2^64/\RdS (gM 0) lk false x.2.1 x.2.2.1 x.2.2.2.1/\Sl fj 1 x.2.2.2.2 x.1 [x.2.1]/\RdO O8 x.2.2.2.2 rb x.2.2.1 x.2.2.2.1/\Kv O8 x.2.2.2.2 (a+5) pb #[nI (wd:Int),uv,bv,kv,nv,tv] 30/\Kc fj 24 1 O8 x.2.2.2.2 (a+4) tv xs/\IP (fun j=>j=1) O8 wk O8 x.2.2.2.2/\Jo B O8 x.2.2.2.2) #[true,true,true,true,true,false,false,false] 3 ?_ ?_
  ·intro hN;have hR:=d5.drew;have hU:IP (fun j=>j=1) O8 wk O8 wk.drew:=aa zd O8 (ID wk).drew;have g9:IP (fun _=>False) O8 wk O8 wk.drew:=aa (fun h=>h) O8 (ID wk).drew;have fB:=a2.drew;have fT:=b1.drew;have fD:=c7.upd g9 (fun h=>h);have fK:∀(O:Nat->Nat) (W:ln),IP (fun j=>j=1) O8 wk.drew O W->True:=fun _ _ _=>trivial
   refine bI 1 3 zk rfl rfl ?_ ?_ 
   ·refine zvG (RV.ld (fB.cell 5 rfl) rfl) ?_;refine ae trivial ?_
    refine IE 3 zk rfl ?_;refine zc Mx (iA B O8 _ rb _ _ hR fD) ?_
    rintro _ wc ⟨n,l9,b9,rfl,fn,fS,fD,hX,hR⟩;have fB:=JQ fB hX zo zo;have fT:=IF fT hX zo zo;have fK:=fun O W u=>fK O W (hX.trans u)
    have hU:=hU.trans hX;refine zg ?_;refine ae trivial ?_;refine IE 4 zk rfl ?_;refine bR iV (enc:=fj) n rfl rfl rfl zd rfl ?_;intro sv wd fV a7;have hX:=aa (S:=fun j=>j=1) zd O8 a7;have fB:=JQ fB hX zo zo;have fT:=IF fT hX zo zo;have fD:=RdO.upd fD (aa (S:=fun _=>False) (fun h=>h) O8 a7) (fun h=>h);have hR:=KL hR hX;have hU:=hU.trans hX;refine zg ?_;refine ae trivial ?_;exact Jt (hN (sv,n,l9,b9,_) ⟨fn,fS,fV,fD,fB,fT,hU,hR⟩) zk ⟨rfl,rfl,rfl,rfl,rfl,rfl,trivial⟩ rfl
   refine zc Mx (iA B O8 _ rb _ _ hR fD) ?_;rintro _ wc ⟨n,l9,b9,rfl,fn,fS,fD,hX,hR⟩;have fB:=JQ fB hX zo zo;have fT:=IF fT hX zo zo;have fK:=fun O W u=>fK O W (hX.trans u)
   have hU:=hU.trans hX;refine zg ?_;refine ae trivial ?_;refine bI 1 4 zk rfl rfl ?_ ?_ 
   ·refine zvG (RV.ld (fB.cell 5 rfl) rfl) ?_;refine ae trivial ?_
    refine IE 4 zk rfl ?_;refine bR iV (enc:=fj) n rfl rfl rfl zd rfl ?_
    intro sv wd fV a7;have hX:=aa (S:=fun j=>j=1) zd O8 a7;have fB:=JQ fB hX zo zo;have fT:=IF fT hX zo zo;have fD:=RdO.upd fD (aa (S:=fun _=>False) (fun h=>h) O8 a7) (fun h=>h);have hR:=KL hR hX;have hU:=hU.trans hX;refine zg ?_;refine ae trivial ?_;exact Jt (hN (sv,n,l9,b9,_) ⟨fn,fS,fV,fD,fB,fT,hU,hR⟩) zk ⟨rfl,rfl,rfl,rfl,rfl,rfl,trivial⟩ rfl
   refine bR iV (enc:=fj) n rfl rfl rfl zd rfl ?_;intro sv wd fV a7;have hX:=aa (S:=fun j=>j=1) zd O8 a7;have fB:=JQ fB hX zo zo;have fT:=IF fT hX zo zo;have fD:=RdO.upd fD (aa (S:=fun _=>False) (fun h=>h) O8 a7) (fun h=>h);have hR:=KL hR hX;have hU:=hU.trans hX;refine zg ?_
   refine ae trivial ?_;refine IE 1 zk rfl ?_
   refine zvG (RV.ld (fB.cell 5 rfl) rfl) ?_;refine ae trivial ?_
   exact Jt (hN (sv,n,l9,b9,_) ⟨fn,fS,fV,fD,fB,fT,hU,hR⟩) zk ⟨rfl,rfl,rfl,rfl,rfl,rfl,trivial⟩ rfl
  rintro⟨sv,n,g2,j3,j4⟩ ⟨d',d2,f3,c8,a5,b8,d0,d3⟩;dsimp only at d' d2 f3 c8 a5 b8 d0 d3 ⊢;refine IE 5 zk rfl ?_;refine cF iV b8 d3 f3 rfl rfl (fun _ _=>rfl) (fun u _ c hc=>by rw[I3.1 hc];rfl) (by rw[ka];omega) (by rw[ka];omega) zo rfl ?_;intro d6 e9 O11 b7 b0 e8;have a0:=a5.upd b0 zo zo;have e1:=c8.upd b0 zo;refine zg ?_;refine ae (trivial) ?_;refine zrf 6 rfl (trivial) rfl ?_;refine IE 7 zk rfl ?_;refine aj (j:=5) a0 rfl (Mc _) b7.one rfl rfl rfl ?_;have c6:=a0.set 5 d6;have a4:IP (fun j=>j=a+5) O11 e9 O11 (e9.setCell ⟨pb,5,none⟩ d6):=Jq zo a0.tag rfl;have d7:=b7.upd a4 zo zo;have e0:=e1.upd a4 zo;have e7:=e8.upd a4;refine zg ?_;refine ae (trivial) ?_;refine Jg zk ?_;refine zg ?_;refine zvG (jl (v':=nI ((k:Nat):Int)) (Mi rfl rfl (JB zo)) (by congr 1;omega)) ?_;refine zxd (k,xs++[n],g2,j3,O11,_,d6) (⟨by dsimp only;rw[I4,ka];omega,hL.step d2,c6,d7,e0,((a3.trans (d0.mono (fun _ h=>by omega) zo)).trans (b0.mono (fun _ h=>by omega) zo)).trans (a4.mono (fun _ h=>by omega) zo),e7⟩)
 intro hc;have hd:k=0\/bk=true:=by
  rw[L1,decide_eq_false_iff_not,Ld]at hc
  rcases hc with hc|hc
  ·exact .inl zo
  exact .inr hc
 have a9:=e3.upd a3 zo zo;have ok:=b1.one;have d9:[nI (wd:Int),uv,bv,kv,nv,tv].all IS=true:=by simp only[IG,o1,o2,o3,o4,ok,Jz];rfl
 refine zg ?_;refine zv (ah (us:=[nI (wd:Int),uv,bv,kv,nv,tv]) a2.cellsAdd (Kb _) (J5 _) rfl) ?_
 refine zsb (us:=#[nI (wd:Int),uv,bv,kv,nv,tv]) a9 (J5 _) d9 ?_;have e2:=a9.setRow (us:=#[nI (wd:Int),uv,bv,kv,nv,tv]);have a6:IP (fun j=>j=a+6) Ok wk Ok (wk.setRow cb #[nI (wd:Int),uv,bv,kv,nv,tv]):=I9 zo a9.tag rfl;generalize wk.setRow cb #[nI (wd:Int),uv,bv,kv,nv,tv]=wl at *;refine zg ?_
 refine aJ rfl rfl (e2.cellsAdd) (Kb _) (J5 _) (⟨_,(wd,us,ps,ks,ns,xs),lk,bk,Ok,rfl,⟨uv,bv,kv,nv,tv,rfl,(e'.upd a3 zo zo).upd a6 zo zo,(f6.upd a3 zo zo).upd a6 zo zo,(f5.upd a3 zo zo).upd a6 zo zo,(f4.upd a3 zo zo).upd a6 zo zo,b1.upd a6 zo zo⟩,i3.seq (i2.seq (i1.seq (i0.seq (h'.seq (h7.telR (hL.done hd)))))),c7.upd a6 zo,(d1.trans (a3.mono (fun _ h=>by omega) hz)).trans (a6.mono (fun _ h=>by omega) hz),d5.upd a6⟩)
theorem CR{xs:List Int}(h1:xs.length<=65599)(h2:∀n∈xs,0<=n/\n<=65535):okI 0 xs:=⟨h1,fun n hn=>by have:=h2 n hn;omega⟩
theorem Ie{xs:List Int}(h1:xs.length<=65599)(h2:∀n∈xs,-1<=n/\n<=1000):okI 1 xs:=⟨h1,fun n hn=>by have:=h2 n hn;omega⟩
theorem kR{O:Nat->Nat}{w:ln}{i j:Nat}{lv:ix}{vs:List ix}{a0:List (List Int)}(h:Kc (fun x:ix=>[x]) 25 1 O w j lv vs)(a1:j≠i)(hj:j≠0)(hl:vs.length=a0.length)(hr:∀q∈vs.zip a0,K2 w q.1 q.2/\KI O w q.1):
  ∀O' W,IP (fun j=>j=i) O w O' W->ListsV W lv vs a0:=fun O' W u=>⟨(h.upd u hj (fun e=>a1 e)).sl,hl,fun k hk=>by
 have hm:(nth vs k,nth a0 k)∈vs.zip a0:=by
  rw[aB hk,aB (hl▸hk:k<vs.length),<-List.getElem_zip (h:=by simp;omega)];exact List.getElem_mem _
 exact(hr _ hm).1.upd (hr _ hm).2 u⟩
theorem rk(B:Nat)(O:Nat → Nat)(w:ln)(v:ix)(l:List UInt8)(cs:List ix)(p:La)(tl:List Nat)(hR:Jo B O w)(h:BufT nT 5 O w 1 v l)(hp:PartV w cs p tl)(hf:FreeL O w cs)(hB:PrtB p tl)(ht:∀x ∈ tl, x < 2^64)(hl:l.length ≤ 100000000):
  Kx J3 28 [v, .agg cs.toArray] w fun v' w' => ∃O', BufT nT 5 O' w' 1 v' (l ++ zH (xx p tl)) ∧ IP (fun q => 1 ≤ q ∧ q ≤ 5) O w O' w' ∧ Jo B O' w' := by
 have hz:¬(1 ≤ 0 ∧ 0 ≤ 5) := by omega
 obtain⟨uv, bv, kv, nv, tv, rfl, hu, hb, hk, hn, htl⟩ := hp
 have fu:KI O w uv := hf _ (by simp)
 have fb:KI O w bv := hf _ (by simp)
 have fk:KI O w kv := hf _ (by simp)
 have fn:KI O w nv := hf _ (by simp)
 have ft:KI O w tv := hf _ (by simp)
 have o1 := hu.one
 have o2 := hb.one
 have o3 := hk.one
 have o4 := hn.one
 obtain⟨_, _, e1, _⟩ := hu.shape
 obtain⟨_, _, e2, _⟩ := hb.shape
 obtain⟨_, _, e3, _⟩ := hk.shape
 obtain⟨_, _, e4, _⟩ := hn.shape
 have hokU:okI 0 p.usual := CR (by have := hB.u.1; omega) hB.u.2
 have hokB:okI 0 p.base := CR (by have := hB.b.1; omega) hB.b.2
 have hokC:okI 1 p.check := Ie hB.c.1 hB.c.2
 have hokN:okI 0 p.next := CR hB.n.1 hB.n.2
 have htll := hB.t
 obtain⟨W, hW⟩:∃W:Int → List Int → List UInt8, W = fun b xs => qs (upN b xs) := ⟨_, rfl⟩
 have hWl:∀b xs, okI b xs → (W b xs).length ≤ 656000 := fun b xs h => by rw[hW]; exact gS h
 have hfin:zH (xx p tl) = dN p.width.toNat ++ (W 0 p.usual ++ (W 0 p.base ++ (W 1 p.check ++ (W 0 p.next ++ (dN tl.length ++ tl.flatMap dN))))) := by rw[hW]; rfl
 rw[hfin]
 have hw0 := hB.w
 have n1 := cK (n := p.width.toNat) (by omega)
 have n2 := hWl _ _ hokU
 have n3 := hWl _ _ hokB
 have n4 := hWl _ _ hokC
 have n5 := hWl _ _ hokN
 have n6 := cK (n := tl.length) (by omega)
 refine I8 func28 ntmps28 rfl rfl ?_
 refine I7 ?_
 refine I0 ?_
 refine aF hR 2 (by omega) rfl rfl ?_
 intro db w1 O1 hdb1 hU1 hR1 hE1
 have h1 := h.upd hU1 (by decide) (by decide)
 have hU01 := hU1.mono (S' := fun q => 1 ≤ q ∧ q ≤ 5) (fun _ h => by omega) hz
 have c0:w1.cell? ((nA db 0).add 0) = some (nI p.width) := hdb1.cell 0 rfl
 refine bG (I6 rfl) rfl ?_
 refine I2 ?_
 refine ai ?_
 refine I7 ?_
 refine I0 ?_
 refine bG (I1 rfl) rfl ?_
 refine bG (IT 0 Jb rfl rfl (K7 _) (by decide) rfl) rfl ?_
 refine bG (IT 0 K9 rfl rfl (Km _) (by decide) rfl) rfl ?_
 refine bG (JC (by first | exact c0) (isAgg3 _) rfl) rfl ?_
 refine bG (dU JU J0 rfl (KN (by omega))) rfl ?_
 refine Kf LL rfl (iu B O1 w1 1 v l _ p.width.toNat (by omega) hR1 h1 (by decide) (by omega) (by omega)) rfl ?_
 rintro v2 w2 ⟨O2, h2, hU2, hR2⟩
 have hdb2 := hdb1.upd hU2 (by decide) (by decide)
 have hU02 := hU01.trans (hU2.mono (fun _ h => by omega) hz)
 have d1:w2.cell? ((nA db 0).add 1) = some uv := hdb2.cell 1 rfl
 have d2:w2.cell? ((nA db 0).add 2) = some bv := hdb2.cell 2 rfl
 refine bG (I6 rfl) rfl ?_
 refine I2 ?_
 refine ai ?_
 refine I7 ?_
 refine I0 ?_
 refine bG (I1 rfl) rfl ?_
 refine bG (IT 0 Jb rfl rfl (K7 _) (by decide) rfl) rfl ?_
 refine bG (IT 1 K9 rfl rfl (KF _) (by decide) rfl) rfl ?_
 refine bG (JC (by first | exact d1) (Li _) rfl) rfl ?_
 refine bG (IT 0 Jb rfl rfl (K7 _) (by decide) rfl) rfl ?_
 refine bG (IT 2 K9 rfl rfl (KF _) (by decide) rfl) rfl ?_
 refine bG (JC (by first | exact d2) (Li _) rfl) rfl ?_
 refine gh yy (Lt w2) (fun x:ix => [x]) [uv, bv] hR2 3 (by decide) rfl rfl rfl rfl (by rw[e1, e2]; kernel_rfl) (by simp) rfl ?_
 intro lv3 w3 O3 hlv3 hU3 hR3
 have h3 := h2.upd hU3 (by decide) (by decide)
 have hU03 := hU02.trans (hU3.mono (fun _ h => by omega) hz)
 refine Kf Mw rfl (kh B O3 w3 1 v2 lv3 _ 0 [uv, bv] [p.usual, p.base] (by decide) hR3 h3 (by decide) (by simp only[I4]; omega) (by simp) (by simp[hokU, hokB]) (kR hlv3 (by decide) (by decide) rfl fun q hq => by simp only[List.zip_cons_cons, List.zip_nil_left, IH, II, or_false]at hq; rcases hq with rfl | rfl; exact⟨hu.upd fu hU03, fu.upd hU03⟩; exact⟨hb.upd fb hU03, fb.upd hU03⟩)) rfl ?_
 rintro v4 w4 ⟨O4, h4, hU4, hR4⟩
 have hdb4 := (hdb2.upd hU3 (by decide) (by decide)).upd hU4 (by decide) (by decide)
 have hU04 := hU03.trans (hU4.mono (fun _ h => by omega) hz)
 have h4':BufT nT 5 O4 w4 1 v4 (l ++ dN p.width.toNat ++ W 0 p.usual ++ W 0 p.base) := by rw[hW]; simpa[I5]using h4
 have d3:w4.cell? ((nA db 0).add 3) = some kv := hdb4.cell 3 rfl
 refine bG (I6 rfl) rfl ?_
 refine I2 ?_
 refine ai ?_
 refine I7 ?_
 refine I0 ?_
 refine bG (I1 rfl) rfl ?_
 refine bG (IT 0 Jb rfl rfl (K7 _) (by decide) rfl) rfl ?_
 refine bG (IT 3 K9 rfl rfl (KF _) (by decide) rfl) rfl ?_
 refine bG (JC (by first | exact d3) (Li _) rfl) rfl ?_
 refine gh yy (Lt w4) (fun x:ix => [x]) [kv] hR4 4 (by decide) rfl rfl rfl rfl (by rw[e3]; kernel_rfl) (by simp) rfl ?_
 intro lv5 w5 O5 hlv5 hU5 hR5
 have h5 := h4'.upd hU5 (by decide) (by decide)
 have hU05 := hU04.trans (hU5.mono (fun _ h => by omega) hz)
 refine Kf Mw rfl (kh B O5 w5 1 v4 lv5 _ 1 [kv] [p.check] (by decide) hR5 h5 (by decide) (by simp only[I4]; omega) (by simp) (by simp[hokC]) (kR hlv5 (by decide) (by decide) rfl fun q hq => by obtain rfl:q = _ := I3.1 hq; exact⟨hk.upd fk hU05, fk.upd hU05⟩)) rfl ?_
 rintro v6 w6 ⟨O6, h6, hU6, hR6⟩
 have hdb6 := (hdb4.upd hU5 (by decide) (by decide)).upd hU6 (by decide) (by decide)
 have hU06 := hU05.trans (hU6.mono (fun _ h => by omega) hz)
 have h6':BufT nT 5 O6 w6 1 v6 (l ++ dN p.width.toNat ++ W 0 p.usual ++ W 0 p.base ++ W 1 p.check) := by rw[hW]; simpa[hW]using h6
 have d4:w6.cell? ((nA db 0).add 4) = some nv := hdb6.cell 4 rfl
 refine bG (I6 rfl) rfl ?_
 refine I2 ?_
 refine ai ?_
 refine I7 ?_
 refine I0 ?_
 refine bG (I1 rfl) rfl ?_
 refine bG (IT 0 Jb rfl rfl (K7 _) (by decide) rfl) rfl ?_
 refine bG (IT 4 K9 rfl rfl (KF _) (by decide) rfl) rfl ?_
 refine bG (JC (by first | exact d4) (Li _) rfl) rfl ?_
 refine gh yy (Lt w6) (fun x:ix => [x]) [nv] hR6 5 (by decide) rfl rfl rfl rfl (by rw[e4]; kernel_rfl) (by simp) rfl ?_
 intro lv7 w7 O7 hlv7 hU7 hR7
 have h7 := h6'.upd hU7 (by decide) (by decide)
 have hU07 := hU06.trans (hU7.mono (fun _ h => by omega) hz)
 refine Kf Mw rfl (kh B O7 w7 1 v6 lv7 _ 0 [nv] [p.next] (by decide) hR7 h7 (by decide) (by simp only[I4]; omega) (by simp) (by simp[hokN]) (kR hlv7 (by decide) (by decide) rfl fun q hq => by obtain rfl:q = _ := I3.1 hq; exact⟨hn.upd fn hU07, fn.upd hU07⟩)) rfl ?_
 rintro v8 w8 ⟨O8, h8, hU8, hR8⟩
 have hdb8 := (hdb6.upd hU7 (by decide) (by decide)).upd hU8 (by decide) (by decide)
 have hU08 := hU07.trans (hU8.mono (fun _ h => by omega) hz)
 obtain⟨L, hL⟩:∃L, L = l ++ dN p.width.toNat ++ W 0 p.usual ++ W 0 p.base ++ W 1 p.check ++ W 0 p.next := ⟨_, rfl⟩
 have hLl:L.length ≤ 110000000 := by rw[hL]; simp only[I4]; omega
 have h8':BufT nT 5 O8 w8 1 v8 L := by rw[hL, hW]; simpa[hW]using h8
 have ht8 := htl.upd ft hU08
 have d5:w8.cell? (nA db 5) = some tv := hdb8.cell 5 rfl
 refine bG (I6 rfl) rfl ?_
 refine I2 ?_
 refine ai ?_
 refine I7 ?_
 refine I0 ?_
 refine bG (I1 rfl) rfl ?_
 refine bG (IT 5 Jb rfl rfl (Mc _) (by decide) rfl) rfl ?_
 refine bG (JC (by first | exact d5) (isAgg28 _) rfl) rfl ?_
 refine bG (Lp (by first | exact ht8) K8 rfl) rfl ?_
 refine bG (dU JU J0 rfl (KN (by omega))) rfl ?_
 refine Kf LL rfl (iu B O8 w8 1 v8 L _ tl.length rfl hR8 h8' (by decide) (by omega) (by omega)) rfl ?_
 rintro v9 w9 ⟨O9, h9, hU9, hR9⟩
 have hdb9 := hdb8.upd hU9 (by decide) (by decide)
 have hU09 := hU08.trans (hU9.mono (fun _ h => by omega) hz)
 have ht9 := htl.upd ft hU09
 have e5:w9.cell? (nA db 5) = some tv := hdb9.cell 5 rfl
 refine bG (I6 rfl) rfl ?_
 refine I2 ?_
 refine ai ?_
 refine I7 ?_
 refine I7 ?_
 refine I0 ?_
 refine bG (IT 5 Jb rfl rfl (Mc _) (by decide) rfl) rfl ?_
 refine bG (JC (by first | exact e5) (isAgg28 _) rfl) rfl ?_
 refine bG (Lp (by first | exact ht9) K8 rfl) rfl ?_
 refine bG (I1 rfl) rfl ?_
 refine I2 ?_
 refine ai ?_
 refine JV ?_
 refine M6 (fun z:Nat×(Nat → Nat)×World×ix => [(0, z.2.2.2), (41, tv), (42, nI tl.length), (43, nI z.1)]) (fun z:Nat×(Nat → Nat)×World×ix => z.2.2.1) (fun z:Nat×(Nat → Nat)×World×ix => z.1 ≤ tl.length ∧ BufT nT 5 z.2.1 z.2.2.1 1 z.2.2.2 (L ++ dN tl.length ++ (tl.take z.1).flatMap dN) ∧ IP (fun q => 1 ≤ q ∧ q ≤ 5) O w z.2.1 z.2.2.1 ∧ Jo B z.2.1 z.2.2.1) (fun z:Nat×(Nat → Nat)×World×ix => tl.length - z.1) (0, O9, w9, v9) (⟨IK _, by simpa using h9, hU09, hR9⟩) ⟨rfl, rfl, rfl, rfl, trivial⟩ rfl ?_
 rintro⟨k, Ok, wk, vk⟩ ⟨hkk, hrk, hUk, hRk⟩
 dsimp only at hkk hrk hUk hRk ⊢
 have htk := htl.upd ft hUk
 have hflk:((tl.take k).flatMap dN).length ≤ 10000 := by
  have := mR (xs := tl.take k) fun x hx => ht x (Jr hx)
  rw[JP]at this; omega
 refine I7 ?_
 refine I0 ?_
 refine bG (Lo rfl rfl) rfl ?_
 refine I2 ?_
 refine ai ?_
 refine I7 ?_
 refine M7 rfl ?_ ?_
 ·intro hlt
  replace hlt:k < tl.length := by have := of_decide_eq_true hlt; omega
  have mk:wk.cell? (adr tv 1 k) = some (.int .u64 ((nth tl k:Nat):Int)) := htk.ld hlt
  refine Kg ?_
  refine ai ?_
  refine I7 ?_
  refine JV ?_
  refine I7 ?_
  refine I0 ?_
  refine bG (Kw (by first | exact htk) K8 (Lu _) rfl rfl _ rfl (by omega)) rfl ?_
  refine bG (JC (by first | exact mk) (isAgg24 _) rfl) rfl ?_
  refine bG (I6 rfl) rfl ?_
  refine I2 ?_
  refine ai ?_
  refine I0 ?_
  refine bG (I1 rfl) rfl ?_
  refine bG (I1 rfl) rfl ?_
  refine Kf LL rfl (iu B Ok wk 1 vk _ _ (nth tl k) rfl hRk hrk (by decide) (ht _ (aM hlt)) (by simp only[I4]; omega)) rfl ?_
  rintro v10 w10 ⟨O10, h10, hU10, hR10⟩
  refine bG (I6 rfl) rfl ?_
  refine I2 ?_
  refine bn ?_
  refine ai ?_
  refine I0 ?_
  refine bG (Lq rfl rfl (JB (by omega))) rfl ?_
  refine bG (I1 rfl) rfl ?_
  refine I2 ?_
  refine M9 ((k + 1, O10, w10, v10)) (⟨hlt, by dsimp only; rw[aI hlt, Jw, JY, ← I5]; exact h10, hUk.trans (hU10.mono (fun _ h => by omega) hz), hR10⟩) (by dsimp only; omega) ⟨rfl, rfl, rfl, rfl, trivial⟩ rfl
 ·intro hge
  obtain rfl:k = tl.length := by have := of_decide_eq_false hge; omega
  rw[IR, hL]at hrk
  refine Lv ?_
  refine aQ ?_
  refine aQ ?_
  refine bS ?_
  refine ai ?_
  refine I7 ?_
  refine I0 ?_
  refine bG (I1 rfl) rfl ?_
  refine bG (I6 rfl) rfl ?_
  refine I2 ?_
  refine ai ?_
  refine KA ?_
  refine af rfl rfl (⟨Ok, by simpa[I5]using hrk, hUk, hRk⟩)
end Go.Proofs.YtpfpmhhigheccaaGreatDoor
